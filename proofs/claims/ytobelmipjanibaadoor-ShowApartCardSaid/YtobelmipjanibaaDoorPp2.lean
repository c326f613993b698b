/- The parser on names and matchers that are there. No program here. -/
import Derived.Test.YtobelmipjanibaaDoorPp1
namespace Go.Proofs.YtobelmipjanibaaDoor
open Go.RowKit
set_option linter.unusedSimpArgs false
set_option linter.unusedVariables false

theorem putName_end : ∀ (out : List (List UInt8)) (w : List UInt8), (∀ x ∈ out, Op.bytesLess x w = true) → putName out w = out ++ [w]
  | [], w, _ => rfl
  | x :: r, w, h => by
    unfold putName
    rw [if_pos (h x (by simp)), putName_end r w (fun y hy => h y (by simp [hy]))]; rfl
/-- Names that rise: each greater than all ahead of it. -/
def Rise : List (List UInt8) → Prop
  | [] => True
  | x :: r => (∀ y ∈ r, Op.bytesLess x y = true) ∧ Rise r
theorem PS.same {p : PS} : ({ p with i := p.i } : PS) = p := rfl

theorem namesF_ok (L : List Tok) : ∀ (l : List (List UInt8)) (w : List UInt8) (p : PS) (out : List (List UInt8)) (r : List Tok),
    At L p (commas ((w :: l).map fun n => [wT n]) ++ sT [41] :: r) → (∀ x ∈ out, ∀ y ∈ w :: l, Op.bytesLess x y = true) → Rise (w :: l) →
    ∀ f, l.length + 1 ≤ f → ∃ i, namesF L f p out = some (out ++ w :: l, { p with i := i }) ∧ At L { p with i := i } (sT [41] :: r)
  | [], w, p, out, r, h, ho, _, f + 1, _ => by
    have h' : At L p (wT w :: sT [41] :: r) := h
    obtain ⟨e1, e2, h2⟩ := h'.token (k := 1) rfl
    have e3 := h2.take_no (s := [44]) (by simp [sT])
    have e4 : (p.token L 1).1.text = w := congrArg Tok.text e1
    refine ⟨p.i + 1, ?_, h2⟩
    unfold namesF
    rw [if_pos h.1]
    simp only [e2, e3, e4]
    rw [putName_end out w (fun x hx => ho x hx w (by simp))]
    rfl
  | v :: l, w, p, out, r, h, ho, hr, f + 1, hf => by
    have h' : At L p (wT w :: sT [44] :: (commas ((v :: l).map fun n => [wT n]) ++ sT [41] :: r)) := by
      simpa [commas] using h
    obtain ⟨e1, e2, h2⟩ := h'.token (k := 1) rfl
    obtain ⟨e3, h3⟩ := h2.take_sign (s := [44]) (by simp [sT]) (by simp) (by simp)
    have e4 : (p.token L 1).1.text = w := congrArg Tok.text e1
    have hp := putName_end out w (fun x hx => ho x hx w (by simp))
    obtain ⟨i, e5, h5⟩ := namesF_ok L l v { p with i := p.i + 1 + 1 } (out ++ [w]) r h3 (fun x hx y hy => by
      rcases List.mem_append.1 hx with hx | hx
      · exact ho x hx y (by simp at hy ⊢; exact .inr hy)
      · obtain rfl : x = w := by simpa using hx
        exact hr.1 y hy) hr.2 f (by simpa using hf)
    refine ⟨i, ?_, h5⟩
    unfold namesF
    rw [if_pos h.1]
    simp only [e2, e3, e4, hp]
    rw [if_pos trivial]
    simpa using e5

theorem pNames_ok (L : List Tok) (l : List (List UInt8)) (w : List UInt8) (hw : w ≠ [41]) (hr : Rise (w :: l)) (p : PS) (r : List Tok) (h : At L p ([sT [40]] ++ commas ((w :: l).map fun n => [wT n]) ++ [sT [41]] ++ r)) (ho : p.opn < 64) (f : Nat) (hf : l.length + 1 ≤ f) :
    ∃ i, pNames L f p = some (w :: l, { p with i := i }) ∧ At L { p with i := i } r := by
  have h' : At L p (sT [40] :: (commas ((w :: l).map fun n => [wT n]) ++ sT [41] :: r)) := by simpa using h
  obtain ⟨e1, h1⟩ := h'.need_open ho
  have e2 : ∀ q : PS, At L q (commas ((w :: l).map fun n => [wT n]) ++ sT [41] :: r) → q.take L [41] = (false, q) := fun q hq => by
    have hq' : ∃ r', commas ((w :: l).map fun n => [wT n]) ++ sT [41] :: r = wT w :: r' := by
      cases l with
      | nil => exact ⟨_, rfl⟩
      | cons v l => exact ⟨_, rfl⟩
    obtain ⟨r', e⟩ := hq'
    rw [e] at hq
    exact hq.take_no (by simp [wT, hw])
  obtain ⟨i, e3, h3⟩ := namesF_ok L l w _ [] r h1 (by simp) hr f hf
  obtain ⟨e4, h4⟩ := h3.need_shut
  refine ⟨i + 1, ?_, ?_⟩
  · unfold pNames
    simp only [e1, e2 _ h1]
    rw [if_neg (by simp), e3]
    simp only [Option.map_some, e4]
    simp
  · simpa using h4
end Go.Proofs.YtobelmipjanibaaDoor
