/- label.CheckMatch and the reference's: what they compute. -/
import Derived.Test.YtkheeiipkdeihaaTree
import Derived.Test.YtkheeiipkdeihaaLabel1
namespace Go.Proofs.Ytkheeiipkdeihaa
open Go.RowKit
set_option linter.unusedSimpArgs false
set_option linter.unusedVariables false

def matB (m : Mat) : Bool := (m.kind == 1 || m.kind == 2) && nameB m.name && decide (m.text.size ≤ 64)
def checkMats (l : List Mat) : Int := if 8 < l.length then 3 else if l.all matB then 0 else 2

theorem checkMats_long {l : List Mat} (h : 8 < l.length) : checkMats l = 3 := by simp [checkMats, h]
theorem checkMats_ok {l : List Mat} (h : ¬ 8 < l.length) (h' : l.all matB = true) : checkMats l = 0 := by simp only [checkMats, h, h']; rfl
theorem checkMats_bad {l : List Mat} (h : ¬ 8 < l.length) {k : Nat} (hk : k < l.length) (hb : matB l[k] = false) : checkMats l = 2 := by
  simp only [checkMats, h, all_not hk hb]; rfl
theorem matB_kind {m : Mat} (h1 : ¬ m.kind = 1) (h2 : ¬ m.kind = 2) : matB m = false := by simp [matB, h1, h2]
theorem matB_name {m : Mat} (h : nameB m.name = false) : matB m = false := by simp [matB, h]
theorem matB_text {m : Mat} (h : 64 < m.text.size) : matB m = false := by
  have : decide (m.text.size ≤ 64) = false := decide_eq_false (by omega)
  unfold matB; rw [this]; simp
theorem matB_ok {m : Mat} (h : m.kind = 1 ∨ m.kind = 2) (h' : nameB m.name = true) (h'' : m.text.size ≤ 64) : matB m = true := by
  rcases h with h | h <;> simp [matB, h, h', h'']

set_option maxHeartbeats 400000 in
theorem lCheckMatch (l : List Mat) (v : Value) (n : Nat) (w : World) (hn : n ≤ w.heap.size) (h : IsMats n w v l) :
    Calls Try.prog 52 #[v] w fun e w' => e = .returned (.int .i64 (checkMats l)) ∧ Below w.heap.size w w' := by
  obtain ⟨p, cap, rfl, _, _, hl⟩ := h.open
  unfold maxLen at hl
  go_enter Try.func52, Try.ntmps52
  by_cases h8 : 8 < l.length
  · go_wp2
    go_ret
    exact ⟨ret_int (checkMats_long h8).symm, Below.refl _ _⟩
  · go_wp2
    go_loopw [10] (fun i wr => ∃ k : Nat, k ≤ l.length ∧ i = .int .i64 k ∧ (l.take k).all matB = true ∧ Below w.heap.size w wr) (fun i _ => l.length - (intOf i).toNat)
    case atStart => exact ⟨0, Nat.zero_le _, rfl, by simp, Below.refl _ _⟩
    case round =>
      obtain ⟨k, hk, rfl, hr, hb⟩ := hrel
      have Hr := Lib.hid hr; clear hr
      have Hb := Lib.hid hb; clear hb
      by_cases hlt : k < l.length
      · obtain ⟨b, off, rfl, hbn, h1, h2, h3, hs1, hs2⟩ := (h.mono (Hb.out.mono hn) (Nat.le_refl _)).get hlt
        have hbad := fun hx => checkMats_bad h8 hlt hx
        have Hbad := Lib.hid hbad; clear hbad
        unfold maxLen at hs2
        have Hh := Lib.hid h; clear h
        go_wp2_with (go_at_call 38; refine (lName _ _ hs1).mono ?_; rintro e w' ⟨rfl, rfl⟩)
        all_goals (try simp only [Bool.not_eq_true', Bool.not_eq_false', Bool.not_true, Bool.not_false, Bool.not_eq_true, Bool.not_eq_false, beq_iff_eq, beq_eq_false_iff_ne, bne_iff_ne, ne_eq, bne_eq_false_iff_eq, decide_eq_true_eq, decide_eq_false_iff_not, toList_inj] at *)
        all_goals first
          | (go_ret; refine ⟨ret_int (Eq.symm (Hbad.out ?_)), Hb.out.alloc Hb.out.size _⟩
             first
               | (refine matB_text ?_; omega)
               | (refine matB_name ?_; assumption)
               | (refine matB_kind ?_ ?_ <;> omega))
          | (refine ⟨⟨k + 1, by omega, by go_num, all_step Hr.out hlt (matB_ok ?_ ?_ ?_), Hb.out.alloc Hb.out.size _⟩, by simp [intOf]; omega⟩
             all_goals first | omega | assumption)
      · go_wp2
        go_ret
        exact ⟨ret_int (checkMats_ok h8 (all_done Hr.out (by omega))).symm, Hb.out⟩

end Go.Proofs.Ytkheeiipkdeihaa
