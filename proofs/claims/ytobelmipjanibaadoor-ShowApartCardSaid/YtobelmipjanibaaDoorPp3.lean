/- The parser on matchers and windows that are there. No program here. -/
import Derived.Test.YtobelmipjanibaaDoorPp2
namespace Go.Proofs.YtobelmipjanibaaDoor
open Go.RowKit
set_option linter.unusedSimpArgs false
set_option linter.unusedVariables false

theorem ba_same (s : ByteArray) : (⟨s.data.toList.toArray⟩ : ByteArray) = s := by cases s; simp
theorem pOne_ok (L : List Tok) (m : Mat) (hk : m.kind = 1 ∨ m.kind = 2) (p : PS) (r : List Tok) (h : At L p (matT m ++ r)) : ∃ i, pOne L p = (m, { p with i := i }) ∧ At L { p with i := i } r := by
  have h' : At L p (wT m.name.data.toList :: sT (eqL m.kind) :: xT m.text.data.toList :: r) := h
  obtain ⟨e1, e2, h2⟩ := h'.token (k := 1) rfl
  have e3 : (p.token L 1).1.text = m.name.data.toList := congrArg Tok.text e1
  rcases hk with hk | hk
  · have h2' : At L { p with i := p.i + 1 } (sT [61] :: xT m.text.data.toList :: r) := by rw [hk] at h2; exact h2
    have e4 := h2'.take_no (s := [33, 61]) (by simp [sT])
    obtain ⟨e5, h5⟩ := h2'.need_sign (s := [61]) (by simp [sT]) (by simp) (by simp)
    obtain ⟨e6, e7, h7⟩ := h5.token (k := 3) rfl
    have e8 := congrArg Tok.text e6
    refine ⟨p.i + 1 + 1 + 1, ?_, h7⟩
    unfold pOne
    simp only [e2, e3, e4]
    rw [if_neg (by simp), e5, if_neg (by simp), e7]
    have e9 : (PS.token L { p with i := p.i + 1 + 1 } 3).1.text = m.text.data.toList := e8
    simp only [e9, ba_same]
    cases m; simp only at hk; subst hk; rfl
  · have h2' : At L { p with i := p.i + 1 } (sT [33, 61] :: xT m.text.data.toList :: r) := by rw [hk] at h2; exact h2
    obtain ⟨e5, h5⟩ := h2'.take_sign (s := [33, 61]) (by simp [sT]) (by simp) (by simp)
    obtain ⟨e6, e7, h7⟩ := h5.token (k := 3) rfl
    have e8 := congrArg Tok.text e6
    refine ⟨p.i + 1 + 1 + 1, ?_, h7⟩
    unfold pOne
    simp only [e2, e3, e5]
    rw [if_pos trivial, if_pos trivial, e7]
    have e9 : (PS.token L { p with i := p.i + 1 + 1 } 3).1.text = m.text.data.toList := e8
    simp only [e9, ba_same]
    cases m; simp only at hk; subst hk; rfl

theorem matsF_ok (L : List Tok) : ∀ (l : List Mat) (m : Mat) (p : PS) (out : List Mat) (r : List Tok),
    At L p (commas ((m :: l).map matT) ++ sT [125] :: r) → (∀ x ∈ m :: l, x.kind = 1 ∨ x.kind = 2) →
    ∀ f, l.length + 1 ≤ f → ∃ i, matsF L f p out = some (out ++ m :: l, { p with i := i }) ∧ At L { p with i := i } (sT [125] :: r)
  | [], m, p, out, r, h, hk, f + 1, _ => by
    obtain ⟨i, e1, h1⟩ := pOne_ok L m (hk m (by simp)) p (sT [125] :: r) h
    have e3 := h1.take_no (s := [44]) (by simp [sT])
    refine ⟨i, ?_, h1⟩
    unfold matsF
    rw [if_pos h.1]
    simp only [e1, e3]
    rfl
  | n :: l, m, p, out, r, h, hk, f + 1, hf => by
    have h' : At L p (matT m ++ sT [44] :: (commas ((n :: l).map matT) ++ sT [125] :: r)) := by
      simpa [commas] using h
    obtain ⟨i, e1, h1⟩ := pOne_ok L m (hk m (by simp)) p _ h'
    obtain ⟨e3, h3⟩ := h1.take_sign (s := [44]) (by simp [sT]) (by simp) (by simp)
    obtain ⟨j, e5, h5⟩ := matsF_ok L l n { p with i := i + 1 } (out ++ [m]) r h3 (fun x hx => hk x (by simp at hx ⊢; exact .inr hx)) f (by simpa using hf)
    refine ⟨j, ?_, h5⟩
    unfold matsF
    rw [if_pos h.1]
    simp only [e1, e3]
    rw [if_pos trivial]
    simpa using e5

theorem pMatch_ok (L : List Tok) (l : List Mat) (hk : ∀ x ∈ l, (x.kind = 1 ∨ x.kind = 2) ∧ x.name.data.toList ≠ [125]) (p : PS) (t : Tok) (r : List Tok) (ht : ((t.kind == 4 || t.kind == 1) && t.text == [123]) = false) (h : At L p (matsT l ++ t :: r)) (f : Nat) (hf : l.length ≤ f) :
    ∃ i, pMatch L f p = some (l, { p with i := i }) ∧ At L { p with i := i } (t :: r) := by
  cases l with
  | nil =>
    have h' : At L p (t :: r) := h
    have e := h'.take_no ht
    refine ⟨p.i, ?_, h'⟩
    unfold pMatch
    simp only [e]
    rfl
  | cons m l =>
    have h' : At L p (sT [123] :: (commas ((m :: l).map matT) ++ sT [125] :: t :: r)) := by simpa [matsT] using h
    obtain ⟨e1, h1⟩ := h'.take_sign (s := [123]) (by simp [sT]) (by simp) (by simp)
    have e2 : ∀ q : PS, At L q (commas ((m :: l).map matT) ++ sT [125] :: t :: r) → q.take L [125] = (false, q) := fun q hq => by
      have hq' : ∃ r', commas ((m :: l).map matT) ++ sT [125] :: t :: r = wT m.name.data.toList :: r' := by
        cases l with
        | nil => exact ⟨_, rfl⟩
        | cons v l => exact ⟨_, rfl⟩
      obtain ⟨r', e⟩ := hq'
      rw [e] at hq
      exact hq.take_no (by simp [wT, (hk m (by simp)).2])
    obtain ⟨i, e3, h3⟩ := matsF_ok L l m _ [] _ h1 (fun x hx => (hk x hx).1) f hf
    obtain ⟨e4, h4⟩ := h3.need_sign (s := [125]) (by simp [sT]) (by simp) (by simp)
    refine ⟨i + 1, ?_, h4⟩
    unfold pMatch
    simp only [e1, e2 _ h1]
    rw [if_pos trivial, if_neg (by simp), e3]
    simp only [Option.map_some, e4]
    simp
end Go.Proofs.YtobelmipjanibaaDoor
