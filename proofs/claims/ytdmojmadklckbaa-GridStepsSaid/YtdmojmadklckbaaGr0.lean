/- Times of a grid, in plain numbers. No program here. -/
import Derived.Test.YtdmojmadklckbaaBase
namespace Go.Proofs.Ytdmojmadklckbaa
open Go.RowKit
set_option linter.unusedSimpArgs false
set_option linter.unusedVariables false

/-- The greatest time. -/
def MT : Int := 1099511627776
def evOk (ev : Int) : Bool := decide (1 ≤ ev ∧ ev ≤ 1073741824)
/-- The first time of the grid above a mark, were there no end. -/
def t0 (ev mark : Int) : Int := (max 0 mark / ev + 1) * ev
/-- The next time of the grid. -/
def nextT (ev mark : Int) : Option Int := if evOk ev && decide (mark < MT) && decide (t0 ev mark ≤ MT) then some (t0 ev mark) else none
/-- How many there are. -/
def cntT (ev mark : Int) : Nat := if evOk ev && decide (mark < MT) then ((MT - t0 ev mark) / ev + 1).toNat else 0
def tk (ev mark : Int) (k : Nat) : Int := t0 ev mark + k * ev
def ticks (ev mark : Int) (k : Nat) : List Int := (List.range k).map (tk ev mark)

theorem evOk_iff {ev : Int} : evOk ev = true ↔ 1 ≤ ev ∧ ev ≤ 1073741824 := by simp [evOk]
theorem ticks_succ (ev mark : Int) (k : Nat) : ticks ev mark (k + 1) = ticks ev mark k ++ [tk ev mark k] := by simp [ticks, List.range_succ]
theorem ticks_length (ev mark : Int) (k : Nat) : (ticks ev mark k).length = k := by simp [ticks]
theorem tk_succ (ev mark : Int) (k : Nat) : tk ev mark (k + 1) = tk ev mark k + ev := by
  unfold tk; rw [show ((k + 1 : Nat) : Int) = (k : Int) + 1 by omega, Int.add_mul]; omega
theorem t0_bd {ev mark : Int} (h : 1 ≤ ev) : 0 ≤ max 0 mark / ev ∧ max 0 mark < t0 ev mark ∧ t0 ev mark ≤ max 0 mark + ev := by
  unfold t0
  have h1 := Int.ediv_mul_add_emod (max 0 mark) ev
  have h2 := Int.emod_nonneg (max 0 mark) (show ev ≠ 0 by omega)
  have h3 := Int.emod_lt_of_pos (max 0 mark) (show 0 < ev by omega)
  have h4 : 0 ≤ max 0 mark / ev := Int.ediv_nonneg (by omega) (by omega)
  rw [Int.add_mul, Int.one_mul]
  refine ⟨h4, by omega, by omega⟩
theorem t0_rem {ev mark : Int} (h : 1 ≤ ev) : t0 ev mark = max 0 mark - max 0 mark % ev + ev := by
  unfold t0
  have h1 := Int.ediv_mul_add_emod (max 0 mark) ev
  rw [Int.add_mul, Int.one_mul]; omega
theorem tk_lt {ev mark : Int} (hev : 1 ≤ ev) (hm : mark < MT) (h2 : ev ≤ 1073741824) {k : Nat} : k < cntT ev mark ↔ tk ev mark k ≤ MT := by
  unfold cntT
  rw [if_pos (by simp [evOk]; exact ⟨⟨hev, h2⟩, hm⟩)]
  have hb := t0_bd (ev := ev) (mark := mark) hev
  obtain ⟨hb1, hb2, hb3⟩ := hb
  obtain ⟨d, hd⟩ : ∃ d, d = MT - t0 ev mark := ⟨_, rfl⟩
  rw [← hd]
  unfold tk
  have h1 := Int.ediv_mul_add_emod d ev
  have h2 := Int.emod_nonneg d (show ev ≠ 0 by omega)
  have h3 := Int.emod_lt_of_pos d (show 0 < ev by omega)
  have e1 : (k : Int) * ev ≤ d ↔ (k : Int) ≤ d / ev := by
    rw [Int.le_ediv_iff_mul_le (by omega)]
  constructor
  · intro h
    have : (k : Int) ≤ d / ev := by omega
    have := e1.2 this
    omega
  · intro h
    have : (k : Int) * ev ≤ d := by omega
    have := e1.1 this
    omega
theorem cnt_zero {ev mark : Int} (h : (evOk ev && decide (mark < MT)) = false) : cntT ev mark = 0 := by unfold cntT; rw [h]; rfl
theorem nextT_eq {ev mark : Int} : nextT ev mark = if 0 < cntT ev mark then some (t0 ev mark) else none := by
  unfold nextT
  cases h : (evOk ev && decide (mark < MT)) with
  | false => rw [cnt_zero h]; simp
  | true =>
    have h' := h
    rw [Bool.and_eq_true, decide_eq_true_eq, evOk_iff] at h'
    have := tk_lt h'.1.1 h'.2 h'.1.2 (k := 0)
    have e : tk ev mark 0 = t0 ev mark := by simp [tk]
    rw [e] at this
    by_cases hh : t0 ev mark ≤ MT
    · rw [if_pos (by simpa using hh), if_pos (this.2 hh)]
    · rw [if_neg (by simpa using hh), if_neg (fun h => hh (this.1 h))]

/-- Is a time in a window? -/
def inW (span at' time : Int) : Bool := decide (1 ≤ span ∧ time ≤ at' ∧ at' - time < span)

end Go.Proofs.Ytdmojmadklckbaa
