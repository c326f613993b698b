/- label.CheckMatch and the reference's: what they compute. -/
import Derived.Test.YtgmdlnobajmjfaaDoorTree
import Derived.Test.YtgmdlnobajmjfaaDoorLabel1
namespace Go.Proofs.YtgmdlnobajmjfaaDoor
open Go.RowKit
set_option linter.unusedSimpArgs false
set_option linter.unusedVariables false

def matB (m : Mat) : Bool := (m.kind == 1 || m.kind == 2) && nameB m.name && decide (m.text.size ≤ 64)
def checkMats (l : List Mat) : Int := if 8 < l.length then 3 else if l.all matB then 0 else 2

theorem checkMats_long {l : List Mat} (h : 8 < l.length) : checkMats l = 3 := by simp [checkMats, h]
theorem checkMats_ok {l : List Mat} (h : ¬ 8 < l.length) (h' : l.all matB = true) : checkMats l = 0 := by simp only [checkMats, h, h']; rfl
theorem checkMats_bad {l : List Mat} (h : ¬ 8 < l.length) {k : Nat} (hk : k < l.length) (hb : matB l[k] = false) : checkMats l = 2 := by
  simp only [checkMats, h, all_not hk hb]; rfl
theorem matB_kind {m : Mat} (h1 : ¬ m.kind = 1) (h2 : ¬ m.kind = 2) : matB m = false := by simp [matB, h1, h2]
theorem matB_name {m : Mat} (h : nameB m.name = false) : matB m = false := by simp [matB, h]
theorem matB_text {m : Mat} (h : 64 < m.text.size) : matB m = false := by
  have : decide (m.text.size ≤ 64) = false := decide_eq_false (by omega)
  unfold matB; rw [this]; simp
theorem matB_ok {m : Mat} (h : m.kind = 1 ∨ m.kind = 2) (h' : nameB m.name = true) (h'' : m.text.size ≤ 64) : matB m = true := by
  rcases h with h | h <;> simp [matB, h, h', h'']

end Go.Proofs.YtgmdlnobajmjfaaDoor
