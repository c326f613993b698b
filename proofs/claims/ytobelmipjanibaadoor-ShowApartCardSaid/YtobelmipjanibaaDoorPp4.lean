/- The parser on windows, signs and comparisons that are there. No program here. -/
import Derived.Test.YtobelmipjanibaaDoorPp3
namespace Go.Proofs.YtobelmipjanibaaDoor
open Go.RowKit
set_option linter.unusedSimpArgs false
set_option linter.unusedVariables false

theorem pWindow_ok (L : List Tok) (fn : Int) (metric : ByteArray) (l : List Mat) (span : Int) (hk : ∀ x ∈ l, (x.kind = 1 ∨ x.kind = 2) ∧ x.name.data.toList ≠ [125]) (p : PS) (r : List Tok) (ho : p.opn < 64)
    (h : At L p ([sT [40], wT metric.data.toList] ++ matsT l ++ [sT [91], nT span, sT [93], sT [41]] ++ r)) (f : Nat) (hf : l.length ≤ f) :
    ∃ i, pWindow L f fn p = some (.mk 1 fn 0 0 metric l span [] [], { p with i := i }) ∧ At L { p with i := i } r := by
  have h' : At L p (sT [40] :: wT metric.data.toList :: (matsT l ++ sT [91] :: nT span :: sT [93] :: sT [41] :: r)) := by simpa using h
  obtain ⟨e1, h1⟩ := h'.need_open ho
  obtain ⟨e2, e3, h3⟩ := h1.token (k := 1) rfl
  have e2' := congrArg Tok.text e2
  obtain ⟨i, e4, h4⟩ := pMatch_ok L l hk _ (sT [91]) _ (by simp [sT]) h3 f hf
  obtain ⟨e5, h5⟩ := h4.need_sign (s := [91]) (by simp [sT]) (by simp) (by simp)
  obtain ⟨e6, e7, h7⟩ := h5.token (k := 2) rfl
  have e6' := congrArg Tok.num e6
  obtain ⟨e8, h8⟩ := h7.need_sign (s := [93]) (by simp [sT]) (by simp) (by simp)
  obtain ⟨e9, h9⟩ := h8.need_shut
  refine ⟨i + 1 + 1 + 1 + 1, ?_, by simpa using h9⟩
  have e2'' : (PS.token L (p.need L [40]) 1).1.text = metric.data.toList := by rw [e1]; exact e2'
  unfold pWindow
  simp only [e2'']
  simp only [e1, e3, e4, Option.map_some, e5, e7, e8, e9, ba_same]
  have e10 : (PS.token L { p with i := i + 1, opn := p.opn + 1 } 2).1.num = span := e6'
  simp [e10]

theorem funcOf_win {k : Int} (h : 1 ≤ k ∧ k ≤ 6) : funcOf (wordL 1 k) = some (1, k) := by
  have : k = 1 ∨ k = 2 ∨ k = 3 ∨ k = 4 ∨ k = 5 ∨ k = 6 := by omega
  rcases this with rfl | rfl | rfl | rfl | rfl | rfl <;> decide
theorem funcOf_grp {k : Int} (h : 1 ≤ k ∧ k ≤ 4) : funcOf (wordL 2 k) = some (2, k) := by
  have : k = 1 ∨ k = 2 ∨ k = 3 ∨ k = 4 := by omega
  rcases this with rfl | rfl | rfl | rfl <;> decide

/-- A comparison's sign is taken as what it is. -/
theorem pCmp_ok (L : List Tok) {op : Int} (ho : 4 ≤ op ∧ op ≤ 9) (p : PS) (r : List Tok) (h : At L p (sT (signL op) :: r)) : pCmp L cmpSigns 4 p = (some op, { p with i := p.i + 1 }) ∧ At L { p with i := p.i + 1 } r := by
  have key : ∀ s : List UInt8, s ≠ signL op → p.take L s = (false, p) := fun s hs => h.take_no (by simp [sT, Ne.symm hs])
  obtain ⟨e, h1⟩ := h.take_sign (s := signL op) (by simp [sT]) (by unfold signL; (repeat' split) <;> simp) (by unfold signL; (repeat' split) <;> simp)
  refine ⟨?_, h1⟩
  have : op = 4 ∨ op = 5 ∨ op = 6 ∨ op = 7 ∨ op = 8 ∨ op = 9 := by omega
  rcases this with rfl | rfl | rfl | rfl | rfl | rfl
  · unfold cmpSigns pCmp; simp [e]
  · unfold cmpSigns; simp only [pCmp, e, key (signL 4) (by decide)]; simp
  · unfold cmpSigns; simp only [pCmp, e, key (signL 4) (by decide), key (signL 5) (by decide)]; simp
  · unfold cmpSigns; simp only [pCmp, e, key (signL 4) (by decide), key (signL 5) (by decide), key (signL 6) (by decide)]; simp
  · unfold cmpSigns; simp only [pCmp, e, key (signL 4) (by decide), key (signL 5) (by decide), key (signL 6) (by decide), key (signL 7) (by decide)]; simp
  · unfold cmpSigns; simp only [pCmp, e, key (signL 4) (by decide), key (signL 5) (by decide), key (signL 6) (by decide), key (signL 7) (by decide), key (signL 8) (by decide)]; simp
/-- No comparison is next. -/
theorem pCmp_no (L : List Tok) (p : PS) (t : Tok) (r : List Tok) (h : At L p (t :: r)) (hs : ∀ s ∈ cmpSigns, ((t.kind == 4 || t.kind == 1) && t.text == s) = false) : pCmp L cmpSigns 4 p = (none, p) := by
  have key : ∀ s ∈ cmpSigns, p.take L s = (false, p) := fun s hm => h.take_no (hs s hm)
  generalize cmpSigns = l at key
  have : ∀ (l : List (List UInt8)) (k : Int), (∀ s ∈ l, p.take L s = (false, p)) → pCmp L l k p = (none, p) := by
    intro l
    induction l with
    | nil => intro k _; rfl
    | cons s r ih => intro k hk; simp only [pCmp, hk s (by simp)]; rw [if_neg (by simp)]; exact ih (k + 1) (fun x hx => hk x (by simp [hx]))
  exact this l 4 key
end Go.Proofs.YtobelmipjanibaaDoor
