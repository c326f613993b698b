/- (*Board).settled. -/
import Derived.Test.YtfmolimnnheaoaaBb3
namespace Go.Proofs.Ytfmolimnnheaoaa
open Go.RowKit
set_option linter.unusedSimpArgs false
set_option linter.unusedVariables false
open Go.Maps

theorem OwnP.get {base : Nat} {w : World} {v : Value} {l : List Nat} (h : OwnP base w v l) {p : Option Addr} {n c : Nat} (hv : v = .slice p n c) {k x : Nat} (hx : l[k]? = some x) : ∃ gb, p = some ⟨gb, 0, none⟩ ∧ gb < w.heap.size ∧ w.cell? ⟨gb, k, none⟩ = some (ptrB x) := by
  have hk : k < l.length := (List.getElem?_eq_some_iff.1 hx).1
  rcases h.2 with ⟨rfl, hl⟩ | ⟨g, cap, cur, rfl, hg, hh, _⟩
  · omega
  · cases hv
    have hc := World.ownsRow.cells h (g := g) rfl k (ptrB x) (by rw [List.getElem?_map, hx]; rfl)
    refine ⟨g, rfl, (Array.getElem?_eq_some_iff.1 hh).1, ?_⟩
    rw [show (⟨g, 0, none⟩ : Addr).add k = ⟨g, k, none⟩ by unfold Addr.add; split <;> simp <;> omega] at hc
    exact hc
section
variable {base : Nat} {W : World} {g hq hs nq ns xq : Nat} {q : Option Nat} {b : Bd} {kv : Value} {bl : List Nat}
theorem BrdM.lookQ (h : BrdM base W g hq hs nq ns (some xq) b kv bl) : (Instr.lookup 56 (.map (some hq)) (.int .i64 1) false).run Try.prog W = .ok (.pointer (some ⟨xq, 0, none⟩)) W := h.mq.lookQ (n := 1) ⟨by omega, by omega⟩
theorem take_fold {b : Bd} {k : Nat} {s : Sb} (h : b.subs[k]? = some s) : (b.subs.take (k + 1)).foldl (fun m s => min m s.acked) b.last = min ((b.subs.take k).foldl (fun m s => min m s.acked) b.last) s.acked := by
  rw [List.take_add_one, h, List.foldl_append]
  rfl
set_option maxRecDepth 100000 in
set_option maxHeartbeats 4000000 in
theorem bSettled (h : BrdM base W g hq hs nq ns (some xq) b kv bl) (hbs : base ≤ W.heap.size) :
    Calls Try.prog 39 #[.pointer (some ⟨g, 0, none⟩), .int .i64 1] W fun e w' => e = .returned (.int .i64 (settledB b)) ∧ Below W.heap.size W w' := by
  have H := Lib.hid h
  have hg := h.blk.lt
  have hxq := (h.qb xq rfl).1.lt
  have c1 : W.cell? ⟨g, 1, none⟩ = some (.map (some hq)) := h.blk.cell 1 _ rfl
  have c2 : W.cell? ⟨xq, 1, none⟩ = some (.int .i64 b.last) := (h.qb xq rfl).1.cell 1 _ rfl
  have hlook := h.lookQ
  have Hfew := Lib.hid h.few
  clear h
  go_enter Try.func39, Try.ntmps39; (try simp only [List.append_eq, List.cons_append, List.nil_append])
  go_wp2_with fail
  refine (bOf H.out hbs).mono ?_
  rintro e w1 ⟨v1, rfl, hown, hb1⟩
  obtain ⟨pk, ck, rfl⟩ := ownsRow_slice hown
  have Hown := Lib.hid hown; have HB := Lib.hid hb1
  have hsz1 := hb1.size
  have hll := H.out.len
  clear hown hb1
  rw [hll]
  have Hll := Lib.hid hll
  clear hll hlook c1 c2
  go_wp2_with fail
  go_loopw [5, 21] (fun v j wr => ∃ k : Nat, k ≤ b.subs.length ∧ j = .int .i64 k ∧ v = .int .i64 ((b.subs.take k).foldl (fun m s => min m s.acked) b.last) ∧ wr = w1) (fun _ j _ => b.subs.length - (intOf j).toNat)
  case atStart => exact ⟨0, Nat.zero_le _, rfl, rfl, rfl⟩
  case round =>
    obtain ⟨k, hk, rfl, rfl, rfl⟩ := hrel
    by_cases hlt : k < b.subs.length
    · have hki : (k : Int) < (b.subs.length : Int) := by omega
      obtain ⟨s, hs1⟩ : ∃ s, b.subs[k]? = some s := ⟨_, List.getElem?_eq_getElem hlt⟩
      obtain ⟨x, hx1⟩ : ∃ x, bl[k]? = some x := ⟨_, List.getElem?_eq_getElem (by rw [H.out.len]; exact hlt)⟩
      have h' := H.out.keep HB.out
      have hsb := h'.sb k s x hs1 hx1
      have d1 : wr.cell? ⟨x, 3, none⟩ = some (.int .i64 s.acked) := hsb.cell 3 _ rfl
      have hxw := hsb.lt
      obtain ⟨bk, hpk, hbk, hkey⟩ := Hown.out.get rfl hx1
      unfold ptrB at hkey
      subst hpk
      have Htk := Lib.hid (take_fold hs1)
      obtain ⟨m0, hm0⟩ : ∃ m0, (b.subs.take k).foldl (fun m s => min m s.acked) b.last = m0 := ⟨_, rfl⟩
      rw [hm0] at Htk ⊢
      clear h' hsb hm0
      have hf := Hfew.out
      have hkb : (k : Int) ≤ 100000 := by omega
      go_wp2
      exact ⟨⟨k + 1, by omega, by go_num, by rw [Htk.out], trivial⟩, by simp [intOf]; omega⟩
    · have hk' : k = b.subs.length := by omega
      subst hk'
      have hki : ¬ ((b.subs.length : Int) < (b.subs.length : Int)) := by omega
      rw [List.take_length]
      go_wp2
      go_ret
      exact ⟨rfl, HB.out⟩
end
end Go.Proofs.Ytfmolimnnheaoaa
