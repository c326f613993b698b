/- (*Board).join, Subscribe, Resume. -/
import Derived.Test.YtfmolimnnheaoaaBb9
namespace Go.Proofs.Ytfmolimnnheaoaa
open Go.RowKit
set_option linter.unusedSimpArgs false
set_option linter.unusedVariables false
open Go.Maps

section
variable {base : Nat} {W W' : World} {g hq hs nq ns xq : Nat} {q : Option Nat} {b b' : Bd} {kv kv' : Value} {bl : List Nat}
/-- One more subscriber. -/
theorem BrdM.more (h : BrdM base W g hq hs nq ns q b kv bl) {frm : Int} {W2 : World} (hf : 0 ≤ frm ∧ frm ≤ 1099511627776) (hbs : base ≤ W.heap.size) (hnx : b.next + 1 ≤ 100000) (hns : ns + 1 ≤ 100000)
    (hM : MapB W2 hs (ns + 1) (((b.subs.map Sb.id).zip bl) ++ [(b.next, W.heap.size)])) (hg : (W.alloc (.cells ([.int .i64 b.next, .int .i64 1, .int .i64 frm, .int .i64 frm] : List Value).toArray 70)).grownBy W2 (some hs)) :
    BrdM base (W2.setCell ⟨g, 3, none⟩ (.int .i64 (b.next + 1))) g hq hs nq (ns + 1) q { b with subs := b.subs ++ [⟨b.next, frm, frm⟩], next := b.next + 1 } kv (bl ++ [W.heap.size]) := by
  have hb := (Below.refl W.heap.size W).alloc (Nat.le_refl _) (.cells ([.int .i64 b.next, .int .i64 1, .int .i64 frm, .int .i64 frm] : List Value).toArray 70)
  have hgne : ∀ {y t : Nat} {cs : List Value}, Blk W y t cs → t ≠ 59 → Blk (W2.setCell ⟨g, 3, none⟩ (.int .i64 (b.next + 1))) y t cs := fun hy hne => (hy.grown hb hg (h.ms.ne hy)).far (p := ⟨g, 3, none⟩) (hy.ne_ty h.blk hne) _
  have hmk : ∀ {y n : Nat} {l : List (Int × Nat)}, MapB W2 y n l → MapB (W2.setCell ⟨g, 3, none⟩ (.int .i64 (b.next + 1))) y n l := fun hy => hy.keep (Below.heap_setCell _ _ _ _ (hy.ne (h.blk.grown hb hg (h.ms.ne h.blk))).symm)
  have hkv : W2.ownsRow base 36 2 kv b.kept.length (b.kept.map toldC).flatten := by
    refine ownsRow_offM (M := fun k => some hs = some k) (ownsRow_keep h.kept hb) (OffM.grown hg) (fun k hk e => ?_)
    have e' : hs = k := Option.some.inj e
    subst e'
    have hm := h.ms
    obtain ⟨es, clock, hm, -⟩ := hm
    rcases h.kept.2 with ⟨hv, _⟩ | ⟨g1, c1, u1, hv, _, hh, _⟩
    · rw [hv] at hk; cases hk
    · rw [hv] at hk
      simp [Value.ownBlock] at hk
      subst hk
      rw [hm] at hh; cases hh
  have hnx0 := h.next
  refine ⟨?_, hmk (h.mq.grown hb hg h.low.2.2.2.1), ?_, by simp [h.len], fun x hx => ⟨hgne (h.qb x hx).1 (by decide), (h.qb x hx).2⟩, ?_, fun i s x e1 e2 => ?_, ?_, ?_, ?_, ?_, ?_, ?_, h.keptN⟩
  · exact (h.blk.grown hb hg (h.ms.ne h.blk)).set_ 3 _
  · refine hmk ?_
    rw [List.map_append, List.zip_append (by rw [List.length_map, h.len])]
    exact hM
  · exact ownsRow_offM hkv (OffM.cell1 _ _ _ _) (fun k hk e => (h.blk.grown hb hg (h.ms.ne h.blk)).not_own hkv (by decide) (by rw [hk, e]))
  · rcases Nat.lt_or_ge i b.subs.length with hi | hi
    · rw [List.getElem?_append_left hi] at e1
      rw [List.getElem?_append_left (by rw [h.len]; exact hi)] at e2
      exact hgne (h.sb i s x e1 e2) (by decide)
    · rw [List.getElem?_append_right hi] at e1
      rw [List.getElem?_append_right (by rw [h.len]; exact hi), h.len] at e2
      cases hk : i - b.subs.length with
      | succ k => rw [hk] at e1; simp at e1
      | zero =>
        rw [hk] at e1 e2
        simp at e1 e2
        subst e1 e2
        have hn := Blk.new W [.int .i64 b.next, .int .i64 1, .int .i64 frm, .int .i64 frm] 70
        have h0 : Blk W2 W.heap.size 70 [.int .i64 b.next, .int .i64 1, .int .i64 frm, .int .i64 frm] := (hg.block _ hn.lt (fun e => by have e' := Option.some.inj e; have := h.ms.lt; omega)).trans hn
        exact h0.far (p := ⟨g, 3, none⟩) (fun e => by have e' : W.heap.size = g := e; have := h.blk.lt; omega) _
  · refine List.nodup_append.2 ⟨h.nd, by simp, fun a ha c hc e => ?_⟩
    simp at hc; subst hc; subst e
    obtain ⟨i, hi, hx⟩ := List.getElem_of_mem ha
    have := (h.sb i (b.subs[i]'(by rw [← h.len]; exact hi)) (bl[i]) (List.getElem?_eq_getElem _) (List.getElem?_eq_getElem hi)).lt
    omega
  · show ((b.subs ++ [Sb.mk b.next frm frm]).map Sb.id).Pairwise (· < ·)
    rw [List.map_append]
    refine List.pairwise_append.2 ⟨h.ids, List.pairwise_singleton _ _, fun a ha c hc => ?_⟩
    obtain ⟨s, hs1, rfl⟩ := List.mem_map.1 ha
    simp at hc; subst hc
    exact (h.next s hs1).2
  · intro s hs1
    show 1 ≤ s.id ∧ s.id < b.next + 1
    have := h.num
    rcases List.mem_append.1 hs1 with hs1 | hs1
    · have := h.next s hs1; omega
    · simp at hs1; subst hs1; simp; omega
  · refine ⟨h.low.1, h.low.2.1, h.low.2.2.1, h.low.2.2.2.1, fun x hx => ?_⟩
    rcases List.mem_append.1 hx with hx | hx
    · exact h.low.2.2.2.2 x hx
    · simp at hx; subst hx; exact hbs
  · have := h.num
    exact ⟨this.1, ⟨by show 1 ≤ b.next + 1; omega, hnx⟩, this.2.2.1, this.2.2.2.1, hns, this.2.2.2.2.2⟩
  · intro s hs1
    rcases List.mem_append.1 hs1 with hs1 | hs1
    · exact h.subsN s hs1
    · simp at hs1; subst hs1; exact ⟨hf, hf⟩
set_option maxRecDepth 100000 in
set_option maxHeartbeats 4000000 in
theorem bJoin {frm : Int} (h : BrdM base W g hq hs nq ns q b kv bl) (hf : 0 ≤ frm ∧ frm ≤ 1099511627776) (hbs : base ≤ W.heap.size) (hnx : b.next + 1 ≤ 100000) (hns : ns + 1 ≤ 100000) :
    Calls Try.prog 30 #[.pointer (some ⟨g, 0, none⟩), .int .i64 1, .int .i64 frm] W fun e w' => e = .returned (.tuple #[.int .i64 (joinB b frm).2.1, .int .i64 (joinB b frm).2.2]) ∧ ∃ ns' bl', ns' ≤ ns + 1 ∧ BrdM base w' g hq hs nq ns' q (joinB b frm).1 kv bl' ∧ OffM (BTyM base W) W w' := by
  have H := Lib.hid h; have Hf := Lib.hid hf
  have hg := h.blk.lt
  have c2 : W.cell? ⟨g, 2, none⟩ = some (.map (some hs)) := h.blk.cell 2 _ rfl
  have c3 : W.cell? ⟨g, 3, none⟩ = some (.int .i64 b.next) := h.blk.cell 3 _ rfl
  have f3 := h.blk.free 3
  have hlen : ∀ ty, (Builtin.len_ #[57] ty #[.map (some hs)]).run Try.prog W = .ok (.int .i64 b.subs.length) W := fun ty => by
    have := h.ms.lenS ty
    rw [List.length_zip, List.length_map, h.len, Nat.min_self] at this
    exact this
  have hfew := h.few
  obtain ⟨jr, hjr⟩ : ∃ r, joinB b frm = r := ⟨_, rfl⟩
  rw [hjr]
  unfold joinB at hjr
  have HJ := Lib.hid hjr
  have hnum := h.num.2.1
  by_cases hl : 256 ≤ b.subs.length
  · rw [if_pos hl] at HJ
    have hli : (256 : Int) ≤ (b.subs.length : Int) := by omega
    clear h hf hjr
    go_enter Try.func30, Try.ntmps30; (try simp only [List.append_eq, List.cons_append, List.nil_append])
    go_wp2
    go_ret2
    have hj := HJ.out
    subst hj
    exact ⟨rfl, ns, bl, by omega, H.out, OffM.refl _ _⟩
  · rw [if_neg hl] at HJ
    have hli : ¬ (256 : Int) ≤ (b.subs.length : Int) := by omega
    have hb := (Below.refl W.heap.size W).alloc (Nat.le_refl _) (.cells #[.int .i64 b.next, .int .i64 1, .int .i64 frm, .int .i64 frm] 70)
    obtain ⟨W2, hrun, hM, hgr⟩ := (h.ms.keep (hb.block _ h.ms.lt)).insS (n := b.next) (by have := h.num; omega) ⟨by omega, by omega⟩ (fun x hx => by
      obtain ⟨i, hi, rfl⟩ := List.getElem_of_mem hx
      rw [List.getElem_zip]
      simp only [List.getElem_map]
      exact (h.next _ (List.getElem_mem _)).2) W.heap.size
    have HM := Lib.hid hM; have HG := Lib.hid hgr
    have hg2 : W2.cell? ⟨g, 3, none⟩ = some (.int .i64 b.next) := (h.blk.grown hb hgr (h.ms.ne h.blk)).cell 3 _ rfl
    have hf2 := (h.blk.grown hb hgr (h.ms.ne h.blk)).free 3
    have hl2 := (h.blk.grown hb hgr (h.ms.ne h.blk)).lt
    clear h hf hjr hM hgr hb
    go_enter Try.func30, Try.ntmps30; (try simp only [List.append_eq, List.cons_append, List.nil_append])
    go_wp2
    go_ret2
    have hj := HJ.out
    subst hj
    refine ⟨rfl, ns + 1, Nat.le_refl _, ⟨_, H.out.more Hf.out hbs hnx hns HM.out HG.out⟩, ?_⟩
    refine (offB_map H.out.ms H.out.low.2.2.1 HG.out).trans (OffM.cell1 _ _ _ _) (fun k hk e => ?_)
    subst e
    exact BTyM.blk H.out.blk (.inl rfl) H.out.low.1
end
end Go.Proofs.Ytfmolimnnheaoaa
