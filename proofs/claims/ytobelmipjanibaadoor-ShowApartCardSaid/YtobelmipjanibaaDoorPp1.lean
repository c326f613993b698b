/- The parser on tokens that are there: one step. No program here. -/
import Derived.Test.YtobelmipjanibaaDoorPp0
namespace Go.Proofs.YtobelmipjanibaaDoor
open Go.RowKit
set_option linter.unusedSimpArgs false
set_option linter.unusedVariables false

/-- A token without its place. -/
def Tok.z (t : Tok) : Tok := { t with pos := 0 }
/-- No fault yet, and these tokens (places left out) are all that is left. -/
def At (L : List Tok) (p : PS) (ts : List Tok) : Prop := p.err = 0 ∧ (L.drop p.i).map Tok.z = ts
theorem At.tok {L : List Tok} {p : PS} {t : Tok} {r : List Tok} (h : At L p (t :: r)) : (p.tok L).z = t ∧ (L.drop (p.i + 1)).map Tok.z = r := by
  obtain ⟨_, h⟩ := h
  cases hd : L.drop p.i with
  | nil => rw [hd] at h; cases h
  | cons x y =>
    rw [hd] at h
    simp only [List.map_cons, List.cons.injEq] at h
    have hi : p.i < L.length := by
      rcases Nat.lt_or_ge p.i L.length with h' | h'
      · exact h'
      · rw [List.drop_of_length_le h'] at hd; cases hd
    rw [List.drop_eq_getElem_cons hi] at hd
    simp only [List.cons.injEq] at hd
    refine ⟨?_, by rw [hd.2]; exact h.2⟩
    unfold PS.tok
    rw [List.getD_eq_getElem?_getD, List.getElem?_eq_getElem hi]
    show (L[p.i]).z = t
    rw [hd.1]; exact h.1
theorem At.kind {L : List Tok} {p : PS} {t : Tok} {r : List Tok} (h : At L p (t :: r)) : (p.tok L).kind = t.kind ∧ (p.tok L).text = t.text ∧ (p.tok L).num = t.num := by
  have h := h.tok.1
  subst h
  exact ⟨rfl, rfl, rfl⟩
theorem At.isT {L : List Tok} {p : PS} {t : Tok} {r : List Tok} (h : At L p (t :: r)) (s : List UInt8) : p.isT L s = ((t.kind == 4 || t.kind == 1) && t.text == s) := by
  obtain ⟨h1, h2, _⟩ := h.kind
  unfold PS.isT
  rw [h1, h2, h.1]
  simp
theorem At.take_no {L : List Tok} {p : PS} {t : Tok} {r : List Tok} (h : At L p (t :: r)) {s : List UInt8} (hs : ((t.kind == 4 || t.kind == 1) && t.text == s) = false) : p.take L s = (false, p) := by
  unfold PS.take
  rw [h.isT, hs]; rfl
theorem At.take_sign {L : List Tok} {p : PS} {t : Tok} {r : List Tok} (h : At L p (t :: r)) {s : List UInt8} (hs : ((t.kind == 4 || t.kind == 1) && t.text == s) = true) (h1 : s ≠ [40]) (h2 : s ≠ [41]) :
    p.take L s = (true, { p with i := p.i + 1 }) ∧ At L { p with i := p.i + 1 } r := by
  refine ⟨?_, h.1, h.tok.2⟩
  unfold PS.take
  rw [h.isT, hs]; simp [h1, h2]
theorem At.take_open {L : List Tok} {p : PS} {r : List Tok} (h : At L p (sT [40] :: r)) (ho : p.opn < 64) :
    p.take L [40] = (true, { p with i := p.i + 1, opn := p.opn + 1 }) ∧ At L { p with i := p.i + 1, opn := p.opn + 1 } r := by
  refine ⟨?_, h.1, h.tok.2⟩
  unfold PS.take
  rw [h.isT]
  simp [sT, show ¬ p.opn = 64 by omega]
theorem At.take_shut {L : List Tok} {p : PS} {r : List Tok} (h : At L p (sT [41] :: r)) :
    p.take L [41] = (true, { p with i := p.i + 1, opn := p.opn - 1 }) ∧ At L { p with i := p.i + 1, opn := p.opn - 1 } r := by
  refine ⟨?_, h.1, h.tok.2⟩
  unfold PS.take
  rw [h.isT]
  simp [sT]
theorem At.need_sign {L : List Tok} {p : PS} {t : Tok} {r : List Tok} (h : At L p (t :: r)) {s : List UInt8} (hs : ((t.kind == 4 || t.kind == 1) && t.text == s) = true) (h1 : s ≠ [40]) (h2 : s ≠ [41]) :
    p.need L s = { p with i := p.i + 1 } ∧ At L { p with i := p.i + 1 } r := by
  obtain ⟨e, h⟩ := h.take_sign hs h1 h2
  exact ⟨by unfold PS.need; rw [e]; rfl, h⟩
theorem At.need_open {L : List Tok} {p : PS} {r : List Tok} (h : At L p (sT [40] :: r)) (ho : p.opn < 64) :
    p.need L [40] = { p with i := p.i + 1, opn := p.opn + 1 } ∧ At L { p with i := p.i + 1, opn := p.opn + 1 } r := by
  obtain ⟨e, h⟩ := h.take_open ho
  exact ⟨by unfold PS.need; rw [e]; rfl, h⟩
theorem At.need_shut {L : List Tok} {p : PS} {r : List Tok} (h : At L p (sT [41] :: r)) :
    p.need L [41] = { p with i := p.i + 1, opn := p.opn - 1 } ∧ At L { p with i := p.i + 1, opn := p.opn - 1 } r := by
  obtain ⟨e, h⟩ := h.take_shut
  exact ⟨by unfold PS.need; rw [e]; rfl, h⟩
theorem At.token {L : List Tok} {p : PS} {t : Tok} {r : List Tok} (h : At L p (t :: r)) {k : Int} (hk : t.kind = k) :
    (p.token L k).1.z = t ∧ (p.token L k).2 = { p with i := p.i + 1 } ∧ At L { p with i := p.i + 1 } r := by
  unfold PS.token
  rw [if_pos ⟨h.1, h.kind.1.trans hk⟩]
  exact ⟨h.tok.1, rfl, h.1, h.tok.2⟩
end Go.Proofs.YtobelmipjanibaaDoor
