/- The order of strings. No program here. -/
import Derived.Test.YtkheeiipkdeihaaBase
namespace Go.Proofs.Ytkheeiipkdeihaa
open Go.RowKit
set_option linter.unusedSimpArgs false
set_option linter.unusedVariables false

theorem bl_irrefl : ∀ x : List UInt8, Op.bytesLess x x = false
  | [] => rfl
  | a :: x => by simp [Op.bytesLess, bl_irrefl x]
theorem bl_tri : ∀ x y : List UInt8, Op.bytesLess x y = true ∨ x = y ∨ Op.bytesLess y x = true
  | [], [] => .inr (.inl rfl)
  | [], _ :: _ => .inl rfl
  | _ :: _, [] => .inr (.inr rfl)
  | a :: x, b :: y => by
    simp only [Op.bytesLess, Bool.or_eq_true, Bool.and_eq_true, decide_eq_true_eq, beq_iff_eq, List.cons.injEq]
    rcases UInt8.lt_or_lt_of_ne (a := a) (b := b) |> fun f => (Classical.em (a = b)).imp id (fun h => f h) with h | h | h
    · rcases bl_tri x y with h' | h' | h'
      · exact .inl (.inr ⟨h, h'⟩)
      · exact .inr (.inl ⟨h, h'⟩)
      · exact .inr (.inr (.inr ⟨h.symm, h'⟩))
    · exact .inl (.inl h)
    · exact .inr (.inr (.inl h))
theorem bl_trans : ∀ x y z : List UInt8, Op.bytesLess x y = true → Op.bytesLess y z = true → Op.bytesLess x z = true
  | _, [], _, h, _ => by cases ‹List UInt8› <;> simp [Op.bytesLess] at h
  | _, _ :: _, [], _, h => by simp [Op.bytesLess] at h
  | [], _ :: _, _ :: _, _, _ => rfl
  | a :: x, b :: y, c :: z, h1, h2 => by
    simp only [Op.bytesLess, Bool.or_eq_true, Bool.and_eq_true, decide_eq_true_eq, beq_iff_eq] at *
    rcases h1 with h1 | ⟨rfl, h1⟩
    · rcases h2 with h2 | ⟨rfl, h2⟩
      · exact .inl (UInt8.lt_trans h1 h2)
      · exact .inl h1
    · rcases h2 with h2 | ⟨rfl, h2⟩
      · exact .inl h2
      · exact .inr ⟨rfl, bl_trans x y z h1 h2⟩

/-- Go's < on strings. -/
def sless (a b : ByteArray) : Bool := Op.bytesLess a.toList b.toList
theorem sless_def (a b : ByteArray) : Op.bytesLess a.toList b.toList = sless a b := rfl
theorem sless_irrefl (a : ByteArray) : sless a a = false := bl_irrefl _
theorem sless_trans {a b c : ByteArray} (h : sless a b = true) (h' : sless b c = true) : sless a c = true := bl_trans _ _ _ h h'
theorem sless_tri (a b : ByteArray) : sless a b = true ∨ a = b ∨ sless b a = true := by
  rcases bl_tri a.toList b.toList with h | h | h
  · exact .inl h
  · exact .inr (.inl ((toList_inj a b).1 h))
  · exact .inr (.inr h)
theorem sless_asymm {a b : ByteArray} (h : sless a b = true) : sless b a = false := by
  cases h' : sless b a with
  | false => rfl
  | true => have := sless_trans h h'; rw [sless_irrefl] at this; cases this
/-- Go's <= on strings, as the walk writes it. -/
theorem sle_eq (a b : ByteArray) : (Op.bytesLess a.toList b.toList || a.toList == b.toList) = !sless b a := by
  rw [sless_def, toList_beq]
  rcases sless_tri a b with h | h | h
  · rw [h, sless_asymm h]; rfl
  · subst h; rw [sless_irrefl]; simp
  · rw [h, sless_asymm h]
    have : ¬ a = b := by intro e; subst e; rw [sless_irrefl] at h; cases h
    simp [this]
theorem sle_true {a b : ByteArray} (h : Op.bytesLess a.toList b.toList = true ∨ (a.toList == b.toList) = true) : sless b a = false := by
  have := sle_eq a b
  rw [show (Op.bytesLess a.toList b.toList || a.toList == b.toList) = true by simp only [Bool.or_eq_true]; exact h] at this
  cases h' : sless b a with
  | false => rfl
  | true => rw [h'] at this; cases this
theorem sle_false {a b : ByteArray} (h : Op.bytesLess a.toList b.toList = false ∧ (a.toList == b.toList) = false) : sless b a = true := by
  have := sle_eq a b
  rw [h.1, h.2] at this
  cases h' : sless b a with
  | true => rfl
  | false => rw [h'] at this; cases this
theorem sless_empty {s : ByteArray} (h : 1 ≤ s.size) : sless ByteArray.empty s = true := by
  unfold sless
  rw [ByteArray.toList_eq, ByteArray.toList_eq]
  obtain ⟨⟨l⟩⟩ := s
  cases l with
  | nil => simp [ByteArray.size] at h
  | cons x l => rfl

/-- The text before place `k`. -/
def lastOf (l : List ByteArray) (k : Nat) : ByteArray := if k = 0 then ByteArray.empty else l.getD (k - 1) ByteArray.empty
theorem lastOf_zero (l : List ByteArray) : lastOf l 0 = ByteArray.empty := rfl
theorem lastOf_succ {l : List ByteArray} {k : Nat} (h : k < l.length) : lastOf l (k + 1) = l[k] := by
  unfold lastOf; rw [if_neg (by omega), List.getD_eq_getElem?_getD]; simp [h]

end Go.Proofs.Ytkheeiipkdeihaa
