/- (*Board).Open. -/
import Derived.Test.YtfmolimnnheaoaaBb1
namespace Go.Proofs.Ytfmolimnnheaoaa
open Go.RowKit
set_option linter.unusedSimpArgs false
set_option linter.unusedVariables false
open Go.Maps

theorem i64_of {n : Int} {a b : Int} (h : a ≤ n ∧ n ≤ b) (ha : -9223372036854775808 ≤ a) (hb : b ≤ 9223372036854775807) : i64 n := ⟨by omega, by omega⟩
/-- A block that is taken newly, a map that grows. -/
theorem offB_map {base : Nat} {W W' : World} {o : Obj} {hq n : Nat} {l : List (Int × Nat)} (hm : MapB W hq n l) (hb : base ≤ hq) (hg : (W.alloc o).grownBy W' (some hq)) : OffM (BTyM base W) W W' :=
  (OffM.of (M := BTyM base W) ((Below.refl _ W).alloc (Nat.le_refl _) o)).trans (OffM.grown hg) (fun i hi he => by cases he; exact hm.lt |> fun _ => BTyM.map hm hb)
theorem queryZ {b : Bd} {m : Int} : (([.slice none 0 0, .int .i64 m, .int .i64 m] : List Value)) = queryC { b with last := m, floor := m } (.slice none 0 0) := rfl
theorem MapB.ne {W : World} {hq n g t : Nat} {l : List (Int × Nat)} {cs : List Value} (h : MapB W hq n l) (k : Blk W g t cs) : g ≠ hq := by
  rintro rfl
  obtain ⟨es, clock, h1, -⟩ := h
  have k' : W.heap[g]? = some (.cells cs.toArray t (0, 0)) := k
  rw [h1] at k'
  cases k'
/-- What lay there, when a block is taken newly and a map has grown. -/
theorem Blk.grown {W X W' : World} {g t hq : Nat} {cs : List Value} (h : Blk W g t cs) (hb : Below W.heap.size W X) (hg : X.grownBy W' (some hq)) (hne : g ≠ hq) : Blk W' g t cs :=
  (hg.block g (Nat.lt_of_lt_of_le h.lt hb.size) (fun e => hne (by cases e; rfl))).trans (h.keep hb)
theorem MapB.grown {W X W' : World} {g n hq : Nat} {l : List (Int × Nat)} (h : MapB W g n l) (hb : Below W.heap.size W X) (hg : X.grownBy W' (some hq)) (hne : g ≠ hq) : MapB W' g n l :=
  (h.keep (hb.block _ h.lt)).keep (hg.block g (Nat.lt_of_lt_of_le h.lt hb.size) (fun e => hne (by cases e; rfl)))
section
variable {base : Nat} {W : World} {g hq hs nq ns : Nat} {q : Option Nat} {b : Bd} {kv : Value} {bl : List Nat}
set_option maxRecDepth 100000 in
set_option maxHeartbeats 4000000 in
theorem bOpen {mark : Int} (h : BrdM base W g hq hs nq ns none b kv bl) (hk : b.kept = []) (hm : 0 ≤ mark ∧ mark ≤ 1099511627776) (hn : nq + 1 ≤ 100000) (hbs : base ≤ W.heap.size) :
    Calls Try.prog 9 #[.pointer (some ⟨g, 0, none⟩), .int .i64 1, .int .i64 mark] W fun e w' => e = .returned (.int .i64 0) ∧ ∃ x, BrdM base w' g hq hs (nq + 1) ns (some x) { b with last := mark, floor := mark } (.slice none 0 0) bl ∧ OffM (BTyM base W) W w' := by
  have H := Lib.hid h
  have hg := h.blk.lt
  have c1 : W.cell? ⟨g, 1, none⟩ = some (.map (some hq)) := h.blk.cell 1 _ rfl
  have hlook : (Instr.lookup 56 (.map (some hq)) (.int .i64 1) false).run Try.prog W = .ok (.pointer none) W := h.mq.lookQ (n := 1) ⟨by omega, by omega⟩
  have hmq' := h.mq.keep (Below.heap_alloc W (.cells #[.slice none 0 0, .int .i64 mark, .int .i64 mark] 63) _ h.mq.lt)
  obtain ⟨W', hrun, hM', hgr⟩ := hmq'.insQ (by have := h.num; omega) (n := 1) ⟨by omega, by omega⟩ (fun x hx => by cases hx) W.heap.size
  have HM := Lib.hid hM'; have HG := Lib.hid hgr; have Hmq := Lib.hid h.mq; have Hb := Lib.hid h.blk; have Hm := Lib.hid hm; have Hk := Lib.hid hk
  clear hmq' hM' hgr h hk
  go_enter Try.func9, Try.ntmps9; (try simp only [List.append_eq, List.cons_append, List.nil_append])
  go_wp2_with fail
  refine (bMade Hb.out).mono ?_
  rintro e w1 ⟨rfl, rfl⟩
  go_wp2_with fail
  refine (bTime mark _).mono ?_
  rintro e w1 ⟨rfl, rfl⟩
  rw [decide_eq_true Hm.out]
  go_wp2_with fail
  go_ret
  have hb := (Below.refl w1.heap.size w1).alloc (Nat.le_refl _) (.cells #[.slice none 0 0, .int .i64 mark, .int .i64 mark] 63)
  have hx := H.out
  have hg := HG.out
  refine ⟨rfl, w1.heap.size, ⟨hx.blk.grown hb hg (hx.mq.ne hx.blk), HM.out, hx.ms.grown hb hg (fun e => hx.low.2.2.2.1 e.symm), hx.len, fun x he => ?_, ?_, fun i s x h1 h2 => (hx.sb i s x h1 h2).grown hb hg (hx.mq.ne (hx.sb i s x h1 h2)), hx.nd, hx.ids, hx.next, hx.low, ?_, hx.subsN, ?_⟩, offB_map hx.mq hx.low.2.1 hg⟩
  · cases he
    exact ⟨(hg.block _ (by rw [World.size_alloc]; omega) (fun e => by have := hx.mq.lt; cases e; omega)).trans (Blk.new w1 [.slice none 0 0, .int .i64 mark, .int .i64 mark] 63), hbs⟩
  · show W'.ownsRow _ _ _ _ b.kept.length (b.kept.map toldC).flatten
    rw [Hk.out]
    exact World.ownsRow_nil _ _ _ _
  · have hn1 := hx.num; have hm1 := Hm.out; exact ⟨hn1.1, hn1.2.1, hm1, hm1, hn1.2.2.2.2.1, hn⟩
  · exact hx.keptN
end
end Go.Proofs.Ytfmolimnnheaoaa
