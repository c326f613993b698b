/- A shown query is lexed as its tokens. No program here. -/
import Derived.Test.YtobelmipjanibaaDoorPq0
import Derived.Test.YtobelmipjanibaaDoorPp5
namespace Go.Proofs.YtobelmipjanibaaDoor
open Go.RowKit
set_option linter.unusedSimpArgs false
set_option linter.unusedVariables false

theorem step_tok {free : Bool} {at' : Nat} {w rest : List UInt8} {t : Tok} {c : UInt8} {r : List UInt8} (hw : w = c :: r) (hb : blankC c = false) (h35 : c ≠ 35) (h : tokAt free (w ++ rest) = some (t, w.length)) :
    lexL free at' (w ++ rest) = (lexL t.free (at' + w.length) rest).map ({ t with pos := at' } :: ·) := by
  subst hw
  have := lexL_tok at' hb h35 h
  simpa using this
/-- Lexed as these tokens, whatever stands behind (b: what stands there begins with no letter and no digit). -/
def LxG (pre : Bool → Prop) (b : Bool) (txt : List UInt8) (toks : List Tok) (post : Bool → Prop) : Prop := ∀ (free : Bool) (at' : Nat) (rest : List UInt8), pre free → (b = true → headIs wordC rest = false) →
  ∃ (l : List Tok) (free' : Bool), post free' ∧ l.map Tok.z = toks ∧ lexL free at' (txt ++ rest) = (lexL free' (at' + txt.length) rest).map (l ++ ·)
def anyF (_ : Bool) : Prop := True
def freeF (f : Bool) : Prop := f = true
theorem LxG.any {pre post : Bool → Prop} {b : Bool} {txt : List UInt8} {toks : List Tok} (h : LxG pre b txt toks post) : LxG pre b txt toks anyF := fun free at' rest hp hs => by
  obtain ⟨l, f, _, h1, h2⟩ := h free at' rest hp hs
  exact ⟨l, f, trivial, h1, h2⟩
theorem LxG.weak {pre post : Bool → Prop} {b : Bool} {txt : List UInt8} {toks : List Tok} (h : LxG pre b txt toks post) : LxG pre true txt toks post := fun free at' rest hp hs => h free at' rest hp (fun _ => hs rfl)
theorem LxG.app {p q r q' : Bool → Prop} {b1 b2 : Bool} {a c : List UInt8} {ta tc : List Tok} (h1 : LxG p b1 a ta q) (h2 : LxG q' b2 c tc r) (hq : ∀ f, q f → q' f) (hc : b1 = false ∨ ∃ x c', c = x :: c' ∧ wordC x = false) : LxG p b2 (a ++ c) (ta ++ tc) r := fun free at' rest hp hs => by
  obtain ⟨l1, f1, g1, m1, e1⟩ := h1 free at' (c ++ rest) hp (fun hb => by
    rcases hc with hc | ⟨x, c', rfl, hx⟩
    · rw [hc] at hb; cases hb
    · simpa [headIs] using hx)
  obtain ⟨l2, f2, g2, m2, e2⟩ := h2 f1 (at' + a.length) rest (hq _ g1) hs
  refine ⟨l1 ++ l2, f2, g2, by simp [m1, m2], ?_⟩
  rw [List.append_assoc, e1, e2, List.length_append, Nat.add_assoc]
  cases lexL f2 (at' + (a.length + c.length)) rest with
  | ok x => simp [Except.map]
  | error x => simp [Except.map]
/-- The usual case. -/
theorem LxG.and {p r : Bool → Prop} {b1 b2 : Bool} {a c : List UInt8} {ta tc : List Tok} (h1 : LxG p b1 a ta anyF) (h2 : LxG anyF b2 c tc r) (hc : b1 = false ∨ ∃ x c', c = x :: c' ∧ wordC x = false) : LxG p b2 (a ++ c) (ta ++ tc) r := h1.app h2 (fun _ h => h) hc
theorem LxG.nil (p : Bool → Prop) : LxG p false [] [] p := fun free at' rest hp _ => ⟨[], free, hp, rfl, by
  simp only [List.nil_append, List.length_nil, Nat.add_zero]
  cases lexL free at' rest <;> rfl⟩
theorem LxG.blank (p : Bool → Prop) : LxG p false [32] [] p := fun free at' rest hp _ => ⟨[], free, hp, rfl, by
  show lexL free at' (32 :: rest) = _
  rw [lexL_blank _ _ _ (by decide)]
  show lexL free (at' + 1) rest = (lexL free (at' + 1) rest).map _
  cases lexL free (at' + 1) rest <;> rfl⟩
theorem LxG.tok {pre : Bool → Prop} {b : Bool} {w : List UInt8} {t : Tok} {c : UInt8} {r : List UInt8} (hw : w = c :: r) (hb : blankC c = false) (h35 : c ≠ 35) (hz : t.z = t)
    (h : ∀ (free : Bool) (rest : List UInt8), pre free → (b = true → headIs wordC rest = false) → tokAt free (w ++ rest) = some (t, w.length)) : LxG pre b w [t] (· = t.free) := fun free at' rest hp hs =>
  ⟨[{ t with pos := at' }], t.free, rfl, by rw [List.map_cons, List.map_nil]; exact congrArg (· :: []) hz, step_tok hw hb h35 (h free rest hp hs)⟩

theorem lx_word {l : List UInt8} (h : wordLike l = true) : LxG anyF true l [wT l] anyF := by
  have h' := h
  simp only [wordLike, Bool.and_eq_true] at h'
  cases hl : l with
  | nil => rw [hl] at h'; simp [headIs] at h'
  | cons c r =>
    rw [hl] at h'
    have hc : letC c = true := h'.1.1
    rw [← hl]
    exact (LxG.tok (c := c) (r := r) hl (let_facts hc).1 (let_facts hc).2 rfl (fun free rest _ hs => tok_word free l rest h (hs rfl))).any
theorem lx_num {n : Int} (hn : -9223372036854775808 ≤ n ∧ n ≤ 9223372036854775807) : LxG (fun f => 0 ≤ n ∨ f = true) true (Lib.itoa n) [nT n] anyF := by
  have hc : ∃ c r, Lib.itoa n = c :: r ∧ blankC c = false ∧ c ≠ 35 := by
    unfold Lib.itoa
    split
    · exact ⟨45, _, rfl, by decide, by decide⟩
    · have ha := decP_all n.toNat
      cases hd : Lib.decDigits n.toNat with
      | nil => exact absurd hd (decP_ne _)
      | cons c d =>
        rw [hd] at ha
        simp only [List.all_cons, Bool.and_eq_true] at ha
        exact ⟨c, d, rfl, (dg_facts ha.1).1, (dg_facts ha.1).2.1⟩
  obtain ⟨c, r, e, h1, h2⟩ := hc
  exact (LxG.tok e h1 h2 rfl (fun free rest hp hs => tok_itoa free n rest hp hn (hs rfl))).any
theorem lx_text {x : List UInt8} (h : x.length ≤ 64) : LxG anyF false (quoteL x) [xT x] anyF :=
  (LxG.tok (w := quoteL x) (c := 34) (r := qs x ++ [34]) (by simp [quoteL]) (by decide) (by decide) rfl (fun free rest _ _ => tok_text free x rest h)).any
theorem lx_sign (c : UInt8) (h : (!letC c && !(c == 34) && !dgC c && !(c == 45) && !pairC c && signC c) = true) (hb : blankC c = false) (h35 : c ≠ 35) : LxG anyF false [c] [sT [c]] (· = (sT [c]).free) :=
  LxG.tok (c := c) (r := []) rfl hb h35 rfl (fun free rest _ _ => tok_sign free c rest h)
theorem lx_op {op : Int} (h : 1 ≤ op ∧ op ≤ 9) : LxG anyF false ([32] ++ signL op ++ [32]) [sT (signL op)] freeF := by
  have h2 : LxG anyF false (signL op ++ [32]) [sT (signL op)] freeF := fun free at' rest _ _ => by
    obtain ⟨e1, e2, c, r, e3, e4, e5⟩ := tok_op free op rest h
    refine ⟨[{ sT (signL op) with pos := at' }], true, rfl, rfl, ?_⟩
    rw [List.append_assoc]
    show lexL free at' (signL op ++ 32 :: rest) = _
    rw [step_tok e3 e4 e5 e1, e2, lexL_blank _ _ _ (by decide), List.length_append]
    rfl
  have := (LxG.blank anyF).and h2 (.inl rfl)
  rw [List.append_assoc]; exact this
theorem lx_op_num {op n : Int} (h : 1 ≤ op ∧ op ≤ 9) (hn : -9223372036854775808 ≤ n ∧ n ≤ 9223372036854775807) : LxG anyF true ([32] ++ signL op ++ [32] ++ Lib.itoa n) [sT (signL op), nT n] anyF :=
  (lx_op h).app (lx_num hn) (fun f hf => .inr hf) (.inl rfl)

theorem name_word {s : ByteArray} (h : nameB s = true) : wordLike s.data.toList = true := by
  simp only [nameB, Bool.and_eq_true, decide_eq_true_eq, Bool.not_eq_true'] at h
  obtain ⟨⟨⟨h1, h2⟩, h3⟩, h4⟩ := h
  have hw : ∀ c, okC c = true → wordC c = true := fun c hc => by
    simp only [okC, wordC, letC, dgC, Bool.or_eq_true, Bool.and_eq_true] at hc ⊢
    rcases hc with (hc | hc) | hc
    · exact .inl (.inl hc)
    · exact .inr hc
    · exact .inl (.inr hc)
  have hlen : s.data.toList.length = s.size := by simp
  simp only [wordLike, Bool.and_eq_true, decide_eq_true_eq]
  refine ⟨⟨?_, ?_⟩, by omega⟩
  · cases hl : s.data.toList with
    | nil => rw [hl] at hlen; simp at hlen; omega
    | cons c r =>
      rw [hl] at h3 h4
      simp only [List.getD_cons_zero] at h3
      simp only [List.all_cons, Bool.and_eq_true] at h4
      have hd : dgC c = false := h3
      have hc := hw c h4.1
      simp only [wordC, hd, Bool.or_false] at hc
      simpa [headIs] using hc
  · rw [List.all_eq_true] at h4 ⊢
    exact fun c hc => hw c (h4 c hc)
theorem word1_word {k : Int} (h : 1 ≤ k ∧ k ≤ 6) : wordLike (wordL 1 k) = true := by
  have : k = 1 ∨ k = 2 ∨ k = 3 ∨ k = 4 ∨ k = 5 ∨ k = 6 := by omega
  rcases this with rfl | rfl | rfl | rfl | rfl | rfl <;> decide
theorem word2_word {k : Int} (h : 1 ≤ k ∧ k ≤ 4) : wordLike (wordL 2 k) = true := by
  have : k = 1 ∨ k = 2 ∨ k = 3 ∨ k = 4 := by omega
  rcases this with rfl | rfl | rfl | rfl <;> decide

/-! ### matchers and names -/
def mat1 (m : Mat) : List UInt8 := m.name.data.toList ++ (eqL m.kind ++ quoteL m.text.data.toList)
theorem lx_eq {k : Int} (h : k = 1 ∨ k = 2) (x : List UInt8) (hx : x.length ≤ 64) : LxG anyF false (eqL k ++ quoteL x) [sT (eqL k), xT x] anyF := fun free at' rest _ _ => by
  obtain ⟨l, f, g1, g2, g3⟩ := lx_text hx (sT (eqL k)).free (at' + (eqL k).length) rest trivial (fun h => by cases h)
  have ht : tokAt free (eqL k ++ (quoteL x ++ rest)) = some (sT (eqL k), (eqL k).length) := by
    rcases h with rfl | rfl <;> simp [eqL, quoteL, tokAt, letC, dgC, signAt, pairC, signC, headIs, sT]
  have hs : ∃ c r, eqL k = c :: r ∧ blankC c = false ∧ c ≠ 35 := by
    rcases h with rfl | rfl <;> exact ⟨_, _, rfl, by decide, by decide⟩
  obtain ⟨c, r, e1, e2, e3⟩ := hs
  refine ⟨{ sT (eqL k) with pos := at' } :: l, f, trivial, by rw [List.map_cons, g2]; rfl, ?_⟩
  rw [List.append_assoc, step_tok e1 e2 e3 ht, g3, List.length_append, Nat.add_assoc]
  cases lexL f (at' + ((eqL k).length + (quoteL x).length)) rest <;> rfl
theorem lx_mat {m : Mat} (h : matB m = true) : LxG anyF false (mat1 m) (matT m) anyF := by
  simp only [matB, Bool.and_eq_true, Bool.or_eq_true, beq_iff_eq, decide_eq_true_eq] at h
  obtain ⟨⟨h1, h2⟩, h3⟩ := h
  have hs : m.text.data.toList.length = m.text.size := by simp
  refine (lx_word (name_word h2)).and (lx_eq h1 m.text.data.toList (by omega)) (.inr ?_)
  rcases h1 with h1 | h1
  · exact ⟨61, quoteL m.text.data.toList, by rw [h1]; rfl, by decide⟩
  · exact ⟨33, 61 :: quoteL m.text.data.toList, by rw [h1]; rfl, by decide⟩
theorem lx_comma : LxG anyF false [44, 32] [sT [44]] anyF := (lx_sign 44 (by decide) (by decide) (by decide)).any.and (LxG.blank anyF) (.inl rfl)
theorem matL_eq (b : Bool) (m : Mat) : matL b m = (if b then [123] else [44, 32]) ++ mat1 m := by unfold matL mat1; simp
theorem lx_tail : ∀ (l : List Mat) (m : Mat), matB m = true → l.all matB = true → LxG anyF false (mat1 m ++ matsTail l) (commas ((m :: l).map matT)) anyF
  | [], m, hm, _ => by simpa [matsTail, commas] using lx_mat hm
  | n :: l, m, hm, hl => by
    simp only [List.all_cons, Bool.and_eq_true] at hl
    have ih := lx_tail l n hl.1 hl.2
    have := ((lx_mat hm).and lx_comma (.inl rfl)).and ih (.inl rfl)
    have e1 : mat1 m ++ matsTail (n :: l) = mat1 m ++ [44, 32] ++ (mat1 n ++ matsTail l) := by
      simp [matsTail, matL_eq]
    rw [e1]
    simpa [commas] using this
theorem lx_mats {l : List Mat} (h : checkMats l = 0) : LxG anyF false (matsL l) (matsT l) anyF := by
  cases l with
  | nil => simpa [matsL, matsT] using LxG.nil anyF
  | cons m l =>
    have ha := (mats_all h).1
    simp only [List.all_cons, Bool.and_eq_true] at ha
    have h1 := ((lx_sign 123 (by decide) (by decide) (by decide)).any.and (lx_tail l m ha.1 ha.2) (.inl rfl)).and (lx_sign 125 (by decide) (by decide) (by decide)).any (.inl rfl)
    have e1 : matsL (m :: l) = [123] ++ (mat1 m ++ matsTail l) ++ [125] := by
      simp [matsL, matsUp, matL_eq]
    have e2 : matsT (m :: l) = [sT [123]] ++ commas ((m :: l).map matT) ++ [sT [125]] := by simp [matsT]
    rw [e1, e2]; exact h1
theorem lx_names : ∀ (l : List ByteArray) (w : ByteArray), (∀ x ∈ w :: l, nameB x = true) → LxG anyF true (namesL (w :: l)) (commas ((w :: l).map fun n => [wT n.data.toList])) anyF
  | [], w, h => by
    have := lx_word (name_word (h w (by simp)))
    simpa [namesL, Lib.join_one, commas] using this
  | v :: l, w, h => by
    have ih := lx_names l v (fun x hx => h x (by simp at hx ⊢; exact .inr hx))
    have h1 := ((lx_word (name_word (h w (by simp)))).and lx_comma (.inr ⟨44, [32], rfl, by decide⟩)).and ih (.inl rfl)
    have e1 : namesL (w :: v :: l) = w.data.toList ++ [44, 32] ++ namesL (v :: l) := by
      unfold namesL
      simp only [List.map_cons]
      rw [Lib.join_cons, Lib.join_cons]; simp [Lib.joinTail]
    rw [e1]
    simpa [commas] using h1
/-- Names with the brackets' inside. -/
theorem lx_namesAll {l : List ByteArray} (h : namesB l = true) : LxG anyF true (namesL l) (commas (l.map fun n => [wT n.data.toList])) anyF := by
  cases l with
  | nil => exact (LxG.nil anyF).weak
  | cons w l => exact lx_names l w (names_each h).1
theorem lx_s (c : UInt8) (h : (!letC c && !(c == 34) && !dgC c && !(c == 45) && !pairC c && signC c && !blankC c && !(c == 35)) = true) : LxG anyF false [c] [sT [c]] anyF := by
  have h' := h
  simp only [Bool.and_eq_true, Bool.not_eq_true', beq_eq_false_iff_ne] at h'
  refine (lx_sign c ?_ h'.1.2 h'.2).any
  simp only [Bool.and_eq_true, Bool.not_eq_true', beq_eq_false_iff_ne]
  exact h'.1.1
theorem lx_on {l : List ByteArray} (h : namesB l = true) : LxG anyF false (onL l) (onTs l) anyF := by
  by_cases hn : l = []
  · subst hn; exact LxG.nil anyF
  · have h0 : LxG anyF true [111, 110] [wT [111, 110]] anyF := lx_word (by decide)
    have h1 := ((((h0.and (LxG.blank anyF) (.inr ⟨32, [], rfl, by decide⟩)).and (lx_s 40 (by decide)) (.inl rfl)).and (lx_namesAll h) (.inl rfl)).and (lx_s 41 (by decide)) (.inr ⟨41, [], rfl, by decide⟩)).and (LxG.blank anyF) (.inl rfl)
    have e1 : onL l = [111, 110] ++ [32] ++ [40] ++ namesL l ++ [41] ++ [32] := by simp [onL, hn]
    have e2 : onTs l = [wT [111, 110]] ++ [] ++ [sT [40]] ++ commas (l.map fun n => [wT n.data.toList]) ++ [sT [41]] ++ [] := by simp [onTs, hn, namesT]
    rw [e1, e2]; exact h1
theorem lx_kid {ts : List UInt8} {tk : List Tok} (l s : Int) (h : LxG anyF true ts tk anyF) : LxG anyF true (kidT l (s, ts)) (kidTs l (s, tk)) anyF := by
  unfold kidT kidTs
  split
  · exact h
  · exact (((lx_s 40 (by decide)).and h (.inl rfl)).and (lx_s 41 (by decide)) (.inr ⟨41, [], rfl, by decide⟩)).weak

theorem tx_win (fn span : Int) (metric : ByteArray) (mats : List Mat) : exT (.mk 1 fn 0 0 metric mats span [] []) = wordL 1 fn ++ [40] ++ metric.data.toList ++ matsL mats ++ ([91] ++ Lib.itoa span ++ [93, 41]) := by
  rw [exT, nodeT, if_pos rfl, windowL]
theorem tx_grp (fn : Int) (names : List ByteArray) (a : Ex) : exT (.mk 2 fn 0 0 ⟨#[]⟩ [] 0 names [a]) = wordL 2 fn ++ [32, 98, 121, 32, 40] ++ namesL names ++ [41, 32, 40] ++ exT a ++ [41] := by
  rw [exT, nodeT, if_neg (by decide), if_pos rfl]; simp [exTs]
theorem tx_join (op : Int) (names : List ByteArray) (a b : Ex) : exT (.mk 3 0 op 0 ⟨#[]⟩ [] 0 names [a, b]) = kidT (strI 3 op) (strI a.kind a.op, exT a) ++ ([32] ++ signL op ++ [32]) ++ onL names ++ kidT (strI 3 op + 1) (strI b.kind b.op, exT b) := by
  rw [exT, nodeT, if_neg (by decide), if_neg (by decide), if_pos rfl]; simp [exTs]
theorem tx_scale (op num : Int) (a : Ex) : exT (.mk 4 0 op num ⟨#[]⟩ [] 0 [] [a]) = kidT (strI 4 op) (strI a.kind a.op, exT a) ++ ([32] ++ signL op ++ [32] ++ Lib.itoa num) := by
  rw [exT, nodeT, if_neg (by decide), if_neg (by decide), if_neg (by decide), if_pos rfl]; simp [exTs]
theorem tx_filt (op num : Int) (a : Ex) : exT (.mk 5 0 op num ⟨#[]⟩ [] 0 [] [a]) = kidT 1 (strI a.kind a.op, exT a) ++ ([32] ++ signL op ++ [32] ++ Lib.itoa num) := by
  rw [exT, nodeT, if_neg (by decide), if_neg (by decide), if_neg (by decide), if_neg (by decide), if_pos rfl]; simp [exTs]

theorem lx_by : LxG anyF false [32, 98, 121, 32, 40] [wT [98, 121], sT [40]] anyF :=
  (((LxG.blank anyF).and (lx_word (l := [98, 121]) (by decide)) (.inl rfl)).and (LxG.blank anyF) (.inr ⟨32, [], rfl, by decide⟩)).and (lx_s 40 (by decide)) (.inl rfl)
theorem lx_mid : LxG anyF false [41, 32, 40] [sT [41], sT [40]] anyF :=
  ((lx_s 41 (by decide)).and (LxG.blank anyF) (.inl rfl)).and (lx_s 40 (by decide)) (.inl rfl)
theorem lx_ends : LxG anyF false [93, 41] [sT [93], sT [41]] anyF := (lx_s 93 (by decide)).and (lx_s 41 (by decide)) (.inl rfl)
end Go.Proofs.YtobelmipjanibaaDoor
