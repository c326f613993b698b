/- The round trip, kind by kind. No program here. -/
import Derived.Test.YtobelmipjanibaaDoorPp6
namespace Go.Proofs.YtobelmipjanibaaDoor
open Go.RowKit
set_option linter.unusedSimpArgs false
set_option linter.unusedVariables false

/-- Not this sign, not this word. -/
def noSt (t : Tok) (s : List UInt8) : Prop := ((t.kind == 4 || t.kind == 1) && t.text == s) = false
instance (t : Tok) (s : List UInt8) : Decidable (noSt t s) := by unfold noSt; infer_instance
/-- Read by pExpr. -/
def RTe (L : List Tok) (e : Ex) (p : PS) (t : Tok) (r : List Tok) : Prop := ∃ (F i : Nat), At L { p with i := i } (t :: r) ∧ ∀ f, F ≤ f → pExpr L f p = some (e, { p with i := i })
/-- What may stand behind an expression in brackets, or behind all. -/
def stopT (t : Tok) : Prop := noSt t [42] ∧ noSt t [43] ∧ noSt t [45] ∧ ∀ s ∈ cmpSigns, noSt t s
theorem RTs.ex {L : List Tok} {e : Ex} {p : PS} {t : Tok} {r : List Tok} (h : RTs L e p t r) (ht : stopT t) : RTe L e p t r := h.expr ht.2.1 ht.2.2.1 ht.2.2.2
theorem stop_shut : stopT (sT [41]) := by
  refine ⟨by decide, by decide, by decide, ?_⟩
  intro s hs
  simp only [cmpSigns, List.mem_cons, List.not_mem_nil, or_false] at hs
  rcases hs with rfl | rfl | rfl | rfl | rfl | rfl <;> decide
theorem stop_end (t : Tok) (h : t.kind = 5) : stopT t := by
  refine ⟨by simp [noSt, h], by simp [noSt, h], by simp [noSt, h], fun s _ => by simp [noSt, h]⟩

theorem At.inj {L : List Tok} {p : PS} {i j : Nat} {t : Tok} {r : List Tok} (h : At L { p with i := i } (t :: r)) (h' : At L { p with i := j } (t :: r)) : i = j := by
  have l1 := congrArg List.length h.2
  have l2 := congrArg List.length h'.2
  simp only [List.length_map, List.length_drop, List.length_cons] at l1 l2
  omega

theorem pAtom_no (L : List Tok) (f : Nat) (p : PS) (h1 : p.take L [40] = (false, p)) : pAtom L (f + 1) p = atomRest L f p (fun q => pExpr L f q) := by
  rw [pAtom, h1]; rfl
theorem pAtom_win (L : List Tok) (f : Nat) (fn : Int) (p : PS) (h1 : p.take L [40] = (false, p)) (hk : (p.tok L).kind = 1) (hfn : funcOf (p.tok L).text = some (1, fn)) : pAtom L (f + 1) p = pWindow L f fn { p with i := p.i + 1 } := by
  rw [pAtom_no L f p h1]
  unfold atomRest
  rw [if_pos hk, hfn]
  rfl
theorem pAtom_grp (L : List Tok) (f : Nat) (fn : Int) (p q q' : PS) (ns : List (List UInt8)) (x : Ex) (h1 : p.take L [40] = (false, p)) (hk : (p.tok L).kind = 1) (hfn : funcOf (p.tok L).text = some (2, fn))
    (hn : pNames L f (PS.need L { p with i := p.i + 1 } [98, 121]) = some (ns, q)) (hx : pExpr L f (q.need L [40]) = some (x, q')) : pAtom L (f + 1) p = some (.mk 2 fn 0 0 ⟨#[]⟩ [] 0 (ns.map baOf) [x], q'.need L [41]) := by
  rw [pAtom_no L f p h1]
  unfold atomRest
  rw [if_pos hk, hfn]
  simp only
  rw [if_neg (by decide), hn]
  simp only [hx, Option.map_some]
theorem pAtom_br (L : List Tok) (f : Nat) (p p' q : PS) (x : Ex) (h1 : p.take L [40] = (true, p')) (hx : pExpr L f p' = some (x, q)) : pAtom L (f + 1) p = some (x, q.need L [41]) := by
  rw [pAtom, h1]
  simp only [if_true, hx, Option.map_some]

theorem word1_ne {k : Int} (h : 1 ≤ k ∧ k ≤ 6) : wordL 1 k ≠ [40] ∧ wordL 1 k ≠ [111, 110] := by
  have : k = 1 ∨ k = 2 ∨ k = 3 ∨ k = 4 ∨ k = 5 ∨ k = 6 := by omega
  rcases this with rfl | rfl | rfl | rfl | rfl | rfl <;> decide
theorem word2_ne {k : Int} (h : 1 ≤ k ∧ k ≤ 4) : wordL 2 k ≠ [40] ∧ wordL 2 k ≠ [111, 110] := by
  have : k = 1 ∨ k = 2 ∨ k = 3 ∨ k = 4 := by omega
  rcases this with rfl | rfl | rfl | rfl <;> decide

theorem rt_win (L : List Tok) (fn span : Int) (metric : ByteArray) (mats : List Mat) (hf : 1 ≤ fn ∧ fn ≤ 6) (hk : ∀ x ∈ mats, (x.kind = 1 ∨ x.kind = 2) ∧ x.name.data.toList ≠ [125]) (p : PS) (t : Tok) (r : List Tok) (ho : p.opn < 64)
    (h : At L p (wT (wordL 1 fn) :: ([sT [40], wT metric.data.toList] ++ matsT mats ++ [sT [91], nT span, sT [93], sT [41]] ++ (t :: r)))) : RTa L (.mk 1 fn 0 0 metric mats span [] []) p t r := by
  have e1 := h.take_no (s := [40]) (by simp [wT, (word1_ne hf).1])
  have h1 : At L { p with i := p.i + 1 } ([sT [40], wT metric.data.toList] ++ matsT mats ++ [sT [91], nT span, sT [93], sT [41]] ++ (t :: r)) := ⟨h.1, h.tok.2⟩
  have hkk := h.kind.1
  have hkt := h.kind.2.1
  have hfn : funcOf (p.tok L).text = some (1, fn) := by rw [hkt]; exact funcOf_win hf
  obtain ⟨i, e2, h2⟩ := pWindow_ok L fn metric mats span hk { p with i := p.i + 1 } (t :: r) ho h1 mats.length (Nat.le_refl _)
  refine ⟨mats.length + 1, i, h2, fun f hf' => ?_⟩
  obtain ⟨g, rfl⟩ : ∃ g, f = g + 1 := ⟨f - 1, by omega⟩
  obtain ⟨j, e3, h3⟩ := pWindow_ok L fn metric mats span hk { p with i := p.i + 1 } (t :: r) ho h1 g (by omega)
  obtain rfl := At.inj (p := p) h2 h3
  rw [pAtom_win L g fn p e1 hkk hfn]
  exact e3

/-- In brackets. -/
theorem rt_br (L : List Tok) (e : Ex) (p : PS) (ts : List Tok) (t : Tok) (r : List Tok) (ho : p.opn < 64) (h : At L p (sT [40] :: (ts ++ sT [41] :: t :: r)))
    (ih : ∀ q : PS, q.opn = p.opn + 1 → At L q (ts ++ sT [41] :: t :: r) → RTe L e q (sT [41]) (t :: r)) : RTa L e p t r := by
  obtain ⟨e1, h1⟩ := h.take_open ho
  obtain ⟨F, i, h2, h3⟩ := ih _ rfl h1
  obtain ⟨e4, h4⟩ := h2.need_shut
  refine ⟨F + 1, i + 1, ⟨h4.1, h4.2⟩, fun f hf => ?_⟩
  obtain ⟨g, rfl⟩ : ∃ g, f = g + 1 := ⟨f - 1, by omega⟩
  rw [pAtom_br L g p _ _ e e1 (h3 g (by omega)), e4]
  simp

theorem rt_grp (L : List Tok) (fn : Int) (names : List ByteArray) (a : Ex) (hf : 1 ≤ fn ∧ fn ≤ 4) (hn : NamesOk names) (p : PS) (ts : List Tok) (t : Tok) (r : List Tok) (ho : p.opn < 64)
    (h : At L p (wT (wordL 2 fn) :: wT [98, 121] :: (namesT names ++ sT [40] :: (ts ++ sT [41] :: t :: r))))
    (ih : ∀ q : PS, q.opn = p.opn + 1 → At L q (ts ++ sT [41] :: t :: r) → RTe L a q (sT [41]) (t :: r)) : RTa L (.mk 2 fn 0 0 ⟨#[]⟩ [] 0 names [a]) p t r := by
  have e1 := h.take_no (s := [40]) (by simp [wT, (word2_ne hf).1])
  have h1 : At L { p with i := p.i + 1 } (wT [98, 121] :: (namesT names ++ sT [40] :: (ts ++ sT [41] :: t :: r))) := ⟨h.1, h.tok.2⟩
  have hkk := h.kind.1
  have hfn : funcOf (p.tok L).text = some (2, fn) := by rw [h.kind.2.1]; exact funcOf_grp hf
  obtain ⟨e2, h2⟩ := h1.need_sign (s := [98, 121]) (by simp [wT]) (by simp) (by simp)
  obtain ⟨i, e3, h3⟩ := pNames_all L names hn { p with i := p.i + 1 + 1 } (sT [40] :: (ts ++ sT [41] :: t :: r)) h2 ho names.length (Nat.le_refl _)
  obtain ⟨e4, h4⟩ := At.need_open h3 ho
  obtain ⟨F, j, h5, h6⟩ := ih _ rfl h4
  obtain ⟨e7, h7⟩ := h5.need_shut
  refine ⟨F + names.length + 1, j + 1, ⟨h7.1, h7.2⟩, fun f hf' => ?_⟩
  obtain ⟨g, rfl⟩ : ∃ g, f = g + 1 := ⟨f - 1, by omega⟩
  obtain ⟨i', e3', h3'⟩ := pNames_all L names hn { p with i := p.i + 1 + 1 } (sT [40] :: (ts ++ sT [41] :: t :: r)) h2 ho g (by omega)
  obtain rfl := At.inj (p := p) h3 h3'
  rw [pAtom_grp L g fn p _ _ _ a e1 hkk hfn (by rw [e2]; exact e3') (by rw [e4]; exact h6 g (by omega)), e7, baOf_same]
  simp

/-! ### behind a sign -/
theorem on_ok (L : List Tok) (names : List ByteArray) (hn : NamesOk names) (p : PS) (t0 : Tok) (r0 : List Tok) (h0 : noSt t0 [111, 110]) (h : At L p (onTs names ++ t0 :: r0)) (ho : p.opn < 64) :
    ∃ j, At L { p with i := j } (t0 :: r0) ∧ ∀ f, names.length ≤ f → (if (p.take L [111, 110]).1 then pNames L f (p.take L [111, 110]).2 else some ([], (p.take L [111, 110]).2)) = some (names.map fun n => n.data.toList, { p with i := j }) := by
  by_cases hn0 : names = []
  · subst hn0
    have h' : At L p (t0 :: r0) := by simpa [onTs] using h
    have e := h'.take_no h0
    exact ⟨p.i, h', fun f _ => by rw [e]; simp⟩
  · have h' : At L p (wT [111, 110] :: (namesT names ++ t0 :: r0)) := by simpa [onTs, hn0] using h
    obtain ⟨e, h1⟩ := h'.take_sign (s := [111, 110]) (by simp [wT]) (by simp) (by simp)
    obtain ⟨i, e3, h3⟩ := pNames_all L names hn { p with i := p.i + 1 } (t0 :: r0) h1 ho names.length (Nat.le_refl _)
    refine ⟨i, h3, fun f hf => ?_⟩
    obtain ⟨i', e3', h3'⟩ := pNames_all L names hn { p with i := p.i + 1 } (t0 :: r0) h1 ho f hf
    obtain rfl := At.inj (p := p) h3 h3'
    rw [e]
    simpa using e3'
theorem pStep_join (L : List Tok) (f : Nat) (op : Int) (x : Ex) (deep : Bool) (p q : PS) (ns : List (List UInt8)) (hk : ¬ (p.tok L).kind = 2)
    (h : (if (p.take L [111, 110]).1 then pNames L f (p.take L [111, 110]).2 else some ([], (p.take L [111, 110]).2)) = some (ns, q)) :
    pStep L (f + 1) op x deep p = (if deep then pTerm L f q else pAtom L f q).map fun y => (.mk 3 0 op 0 ⟨#[]⟩ [] 0 (ns.map baOf) [x, y.1], y.2) := by
  rw [pStep]
  rw [if_neg (by rintro ⟨_, h⟩; exact hk h)]
  simp only [h]
theorem on_kind (names : List ByteArray) (t0 : Tok) (r0 : List Tok) (h0 : t0.kind ≠ 2) {L : List Tok} {p : PS} (h : At L p (onTs names ++ t0 :: r0)) : ¬ (p.tok L).kind = 2 := by
  by_cases hn0 : names = []
  · subst hn0
    have h' : At L p (t0 :: r0) := by simpa [onTs] using h
    rw [h'.kind.1]; exact h0
  · have h' : At L p (wT [111, 110] :: (namesT names ++ t0 :: r0)) := by simpa [onTs, hn0] using h
    rw [h'.kind.1]; simp [wT]

/-- The front of an expression's tokens. -/
def frontT (t : Tok) : Prop := t.kind ≠ 2 ∧ noSt t [111, 110]
theorem front_open : frontT (sT [40]) := ⟨by decide, by simp [noSt, sT]⟩

/-- times: gathered by pTerm. -/
theorem rt_mul_num (L : List Tok) (a : Ex) (n : Int) (p : PS) (t : Tok) (r : List Tok) (h : RTt L a p (sT [42]) (nT n :: t :: r)) : RTt L (.mk 4 0 3 n ⟨#[]⟩ [] 0 [] [a]) p t r := by
  obtain ⟨d, F, i, h1, h2⟩ := h
  obtain ⟨e3, h3⟩ := h1.take_sign (s := [42]) (by simp [sT]) (by simp) (by simp)
  refine ⟨1 + d, F + 1, i + 1 + 1, ?_, fun f hf => ?_⟩
  · exact (pStep_num L 0 3 a false n { p with i := i + 1 } (t :: r) h3).2
  · obtain ⟨g, rfl⟩ : ∃ g, f = g + 1 := ⟨f - 1, by omega⟩
    have e4 := (pStep_num L g 3 a false n { p with i := i + 1 } (t :: r) h3).1
    rw [← Nat.add_assoc, h2 (g + 1 + 1) (by omega), pTerms]
    simp only [e3]
    simp only [if_true]
    rw [e4]
theorem rt_mul_join (L : List Tok) (a b : Ex) (names : List ByteArray) (hn : NamesOk names) (p : PS) (t0 : Tok) (r0 : List Tok) (t : Tok) (r : List Tok) (ho : p.opn < 64) (h0 : frontT t0) (h : RTt L a p (sT [42]) (onTs names ++ t0 :: r0))
    (hb : ∀ q : PS, q.opn = p.opn → At L q (t0 :: r0) → RTa L b q t r) : RTt L (.mk 3 0 3 0 ⟨#[]⟩ [] 0 names [a, b]) p t r := by
  obtain ⟨d, F, i, h1, h2⟩ := h
  obtain ⟨e3, h3⟩ := h1.take_sign (s := [42]) (by simp [sT]) (by simp) (by simp)
  have hk := on_kind names t0 r0 h0.1 h3
  obtain ⟨j, h4, h5⟩ := on_ok L names hn { p with i := i + 1 } t0 r0 h0.2 h3 ho
  obtain ⟨F', i', h6, h7⟩ := hb { p with i := j } rfl h4
  refine ⟨1 + d, F + F' + names.length + 1, i', h6, fun f hf => ?_⟩
  obtain ⟨g, rfl⟩ : ∃ g, f = g + 1 := ⟨f - 1, by omega⟩
  have e4 := pStep_join L g 3 a false { p with i := i + 1 } _ _ hk (h5 g (by omega))
  rw [← Nat.add_assoc, h2 (g + 1 + 1) (by omega), pTerms]
  simp only [e3]
  simp only [if_true]
  rw [e4, baOf_same]
  simp only [Bool.false_eq_true, if_false, h7 g (by omega)]
  simp
/-- + and -: gathered by pSum. -/
theorem pSums_plus (L : List Tok) (f : Nat) (x y : Ex) (p p' q : PS) (h : p.take L [43] = (true, p')) (hs : pStep L f 1 x true p' = some (y, q)) : pSums L (f + 1) x p = pSums L f y q := by
  rw [pSums]; simp [h, hs]
theorem pSums_minus (L : List Tok) (f : Nat) (x y : Ex) (p p' q : PS) (h0 : p.take L [43] = (false, p)) (h : p.take L [45] = (true, p')) (hs : pStep L f 2 x true p' = some (y, q)) : pSums L (f + 1) x p = pSums L f y q := by
  rw [pSums]; simp [h0, h, hs]
theorem pSums_op (L : List Tok) (f : Nat) (op : Int) (hop : op = 1 ∨ op = 2) (x y : Ex) (p q : PS) (r : List Tok) (h : At L p (sT (signL op) :: r)) (hs : pStep L f op x true { p with i := p.i + 1 } = some (y, q)) : pSums L (f + 1) x p = pSums L f y q := by
  rcases hop with rfl | rfl
  · exact pSums_plus L f x y p _ q (h.take_sign (s := [43]) (by simp [sT, signL]) (by simp) (by simp)).1 hs
  · exact pSums_minus L f x y p _ q (h.take_no (s := [43]) (by simp [sT, signL])) (h.take_sign (s := [45]) (by simp [sT, signL]) (by simp) (by simp)).1 hs
theorem rt_add_num (L : List Tok) (op : Int) (hop : op = 1 ∨ op = 2) (a : Ex) (n : Int) (p : PS) (t : Tok) (r : List Tok) (h : RTs L a p (sT (signL op)) (nT n :: t :: r)) : RTs L (.mk 4 0 op n ⟨#[]⟩ [] 0 [] [a]) p t r := by
  obtain ⟨d, F, i, h1, h2⟩ := h
  have h3 : At L { p with i := i + 1 } (nT n :: t :: r) := ⟨h1.1, h1.tok.2⟩
  refine ⟨1 + d, F + 1, i + 1 + 1, (pStep_num L 0 op a true n { p with i := i + 1 } (t :: r) h3).2, fun f hf => ?_⟩
  obtain ⟨g, rfl⟩ : ∃ g, f = g + 1 := ⟨f - 1, by omega⟩
  have e4 := (pStep_num L g op a true n { p with i := i + 1 } (t :: r) h3).1
  rw [← Nat.add_assoc, h2 (g + 1 + 1) (by omega), pSums_op L (g + 1) op hop a _ _ _ _ h1 e4]
theorem rt_add_join (L : List Tok) (op : Int) (hop : op = 1 ∨ op = 2) (a b : Ex) (names : List ByteArray) (hn : NamesOk names) (p : PS) (t0 : Tok) (r0 : List Tok) (t : Tok) (r : List Tok) (ho : p.opn < 64) (h0 : frontT t0)
    (h : RTs L a p (sT (signL op)) (onTs names ++ t0 :: r0)) (ht : noSt t [42])
    (hb : ∀ q : PS, q.opn = p.opn → At L q (t0 :: r0) → RTt L b q t r) : RTs L (.mk 3 0 op 0 ⟨#[]⟩ [] 0 names [a, b]) p t r := by
  obtain ⟨d, F, i, h1, h2⟩ := h
  have h3 : At L { p with i := i + 1 } (onTs names ++ t0 :: r0) := ⟨h1.1, h1.tok.2⟩
  have hk := on_kind names t0 r0 h0.1 h3
  obtain ⟨j, h4, h5⟩ := on_ok L names hn { p with i := i + 1 } t0 r0 h0.2 h3 ho
  obtain ⟨d', F', i', h6, h7⟩ := hb { p with i := j } rfl h4
  refine ⟨1 + d, F + F' + names.length + 2 + d', i', h6, fun f hf => ?_⟩
  obtain ⟨g, rfl⟩ : ∃ g, f = (g + 1 + d') + 1 := ⟨f - 2 - d', by omega⟩
  have e5 : pTerm L (g + 1 + d') { p with i := j } = some (b, { p with i := i' }) := by
    rw [h7 (g + 1) (by omega), pTerms]
    have := h6.take_no ht
    simp only [this]
    simp
  have e4 := pStep_join L (g + 1 + d') op a true { p with i := i + 1 } _ _ hk (h5 (g + 1 + d') (by omega))
  simp only [if_true, e5, Option.map_some, baOf_same] at e4
  rw [← Nat.add_assoc, h2 (g + 1 + d' + 1 + 1) (by omega), pSums_op L (g + 1 + d' + 1) op hop a _ _ _ _ h1 e4]
/-- A comparison. -/
theorem rt_filt (L : List Tok) (op : Int) (hop : 4 ≤ op ∧ op ≤ 9) (a : Ex) (n : Int) (p : PS) (t : Tok) (r : List Tok) (h : RTs L a p (sT (signL op)) (nT n :: t :: r)) : RTe L (.mk 5 0 op n ⟨#[]⟩ [] 0 [] [a]) p t r := by
  obtain ⟨d, F, i, h1, h2⟩ := h
  have hs : signL op ≠ [43] ∧ signL op ≠ [45] := by
    have : op = 4 ∨ op = 5 ∨ op = 6 ∨ op = 7 ∨ op = 8 ∨ op = 9 := by omega
    rcases this with rfl | rfl | rfl | rfl | rfl | rfl <;> decide
  obtain ⟨e3, h3⟩ := pCmp_ok L hop { p with i := i } _ h1
  obtain ⟨e4, e5, h5⟩ := h3.token (k := 2) rfl
  have e6 := congrArg Tok.num e4
  refine ⟨F + 2 + d, i + 1 + 1, h5, fun f hf => ?_⟩
  obtain ⟨g, rfl⟩ : ∃ g, f = (g + 1 + d) + 1 := ⟨f - 2 - d, by omega⟩
  have e1 : pSum L (g + 1 + d) p = some (a, { p with i := i }) := by
    rw [h2 (g + 1) (by omega), pSums]
    simp only [h1.take_no (s := [43]) (by simp [sT, hs.1]), h1.take_no (s := [45]) (by simp [sT, hs.2])]
    simp
  rw [pExpr, e1]
  simp only [e3, e5]
  have e7 : (PS.token L { p with i := i + 1 } 2).1.num = n := e6
  simp [e7]
end Go.Proofs.YtobelmipjanibaaDoor
