/- A text in quotes, as plain functions on bytes. No program here. -/
import Derived.Test.YtgmdlnobajmjfaaDoorBase
namespace Go.Proofs.YtgmdlnobajmjfaaDoor
open Go.RowKit
set_option linter.unusedSimpArgs false
set_option linter.unusedVariables false

/-- The digits of sixteen. -/
def signsL : List UInt8 := [48, 49, 50, 51, 52, 53, 54, 55, 56, 57, 97, 98, 99, 100, 101, 102]
def hexAt (n : Nat) : UInt8 := signsL.getD n 0
/-- A byte as it stands in quotes. -/
def qc (c : UInt8) : List UInt8 := if c = 92 ∨ c = 34 then [92, c] else if c < 32 ∨ 126 < c then [92, 120, hexAt (c.toNat / 16), hexAt (c.toNat % 16)] else [c]
def qs (l : List UInt8) : List UInt8 := l.flatMap qc
def quoteL (l : List UInt8) : List UInt8 := 34 :: qs l ++ [34]
theorem qs_snoc (l : List UInt8) (c : UInt8) : qs (l ++ [c]) = qs l ++ qc c := by simp [qs]
theorem qc_length (c : UInt8) : 1 ≤ (qc c).length ∧ (qc c).length ≤ 4 := by unfold qc; (repeat' split) <;> simp
theorem qs_length (l : List UInt8) : (qs l).length ≤ 4 * l.length := by
  induction l with
  | nil => simp [qs]
  | cons c l ih => have := (qc_length c).2; simp only [qs, List.flatMap_cons, List.length_append, List.length_cons] at *; omega
theorem quoteL_length (l : List UInt8) : (quoteL l).length ≤ 4 * l.length + 2 := by have := qs_length l; simp [quoteL]; omega
theorem bd_len (q l : List UInt8) (e : Nat) (h : q.length ≤ 9000000) (hl : l.length = q.length + e) (he : e ≤ 100) : l.length ≤ 10000000 := by omega
theorem e92 : (92 : Int) = ((92 : UInt8).toNat : Int) := rfl
theorem e34 : (34 : Int) = ((34 : UInt8).toNat : Int) := rfl
theorem hex_at (n : Nat) (h : n < (⟨#[48, 49, 50, 51, 52, 53, 54, 55, 56, 57, 97, 98, 99, 100, 101, 102]⟩ : ByteArray).size) : (⟨#[48, 49, 50, 51, 52, 53, 54, 55, 56, 57, 97, 98, 99, 100, 101, 102]⟩ : ByteArray)[n] = hexAt n := by
  have h' : n < signsL.length := h
  unfold hexAt
  rw [List.getD_eq_getElem?_getD, List.getElem?_eq_getElem h', Option.getD_some]
  rfl
theorem qc_two {c : UInt8} (h : c.toNat = 92 ∨ c.toNat = 34) : qc c = [92, c] := by
  unfold qc; rw [if_pos]
  rcases h with h | h
  · left; exact UInt8.toNat_inj.1 h
  · right; exact UInt8.toNat_inj.1 h
theorem qc_four {c : UInt8} (h : ¬ (c.toNat = 92 ∨ c.toNat = 34)) (h2 : c.toNat < 32 ∨ 126 < c.toNat) : qc c = [92, 120, hexAt (c.toNat / 16), hexAt (c.toNat % 16)] := by
  unfold qc
  rw [if_neg (by rintro (rfl | rfl) <;> exact h (by decide)), if_pos]
  rcases h2 with h2 | h2
  · left; exact UInt8.lt_iff_toNat_lt.2 h2
  · right; exact UInt8.lt_iff_toNat_lt.2 h2
theorem qc_one {c : UInt8} (h : ¬ (c.toNat = 92 ∨ c.toNat = 34)) (h2 : ¬ (c.toNat < 32 ∨ 126 < c.toNat)) : qc c = [c] := by
  unfold qc
  rw [if_neg (by rintro (rfl | rfl) <;> exact h (by decide)), if_neg]
  rintro (h3 | h3)
  · exact h2 (.inl (UInt8.lt_iff_toNat_lt.1 h3))
  · exact h2 (.inr (UInt8.lt_iff_toNat_lt.1 h3))
theorem take_snoc' (s : ByteArray) (k : Nat) (h : k < s.size) : s.data.toList.take (k + 1) = s.data.toList.take k ++ [s[k]] := by
  rw [List.take_succ_eq_append_getElem (by simpa using h)]; rfl
end Go.Proofs.YtgmdlnobajmjfaaDoor
