/- Tokens of shown pieces: words, numbers, texts, signs. No program here. -/
import Derived.Test.YtobelmipjanibaaDoorPp1
namespace Go.Proofs.YtobelmipjanibaaDoor
open Go.RowKit
set_option linter.unusedSimpArgs false
set_option linter.unusedVariables false

/-! ### numerals -/
theorem decP_push (l : List UInt8) (c : UInt8) : decV (l ++ [c]) = decV l * 10 + (c.toNat - 48) := by simp [decV]
theorem decP_digit {k : Nat} (h : k < 10) : dgC (UInt8.ofNat (48 + k)) = true ∧ (UInt8.ofNat (48 + k)).toNat = 48 + k := by
  have e : (UInt8.ofNat (48 + k)).toNat = 48 + k := by rw [UInt8.toNat_ofNat']; omega
  refine ⟨?_, e⟩
  simp only [dgC, Bool.and_eq_true, decide_eq_true_eq, UInt8.le_iff_toNat_le, e]
  constructor
  · show 48 ≤ _; omega
  · show _ ≤ 57; omega
theorem decP_ne (n : Nat) : Lib.decDigits n ≠ [] := by
  rw [Lib.decDigits]; split <;> simp
theorem decP_all (n : Nat) : (Lib.decDigits n).all dgC = true := by
  induction n using Nat.strongRecOn with
  | ind n ih =>
    rw [Lib.decDigits]
    split
    · rename_i h; simp only [List.all_cons, List.all_nil, Bool.and_true, (decP_digit h).1]
    · rename_i h
      rw [List.all_append, ih (n / 10) (by omega)]
      simp only [List.all_cons, List.all_nil, Bool.and_true, Bool.true_and, (decP_digit (Nat.mod_lt n (by omega : 10 > 0))).1]
theorem decP_val (n : Nat) : decV (Lib.decDigits n) = n := by
  induction n using Nat.strongRecOn with
  | ind n ih =>
    rw [Lib.decDigits]
    split
    · rename_i h
      rw [show [UInt8.ofNat (48 + n)] = [] ++ [UInt8.ofNat (48 + n)] from rfl, decP_push, (decP_digit h).2, show decV [] = 0 from rfl]; omega
    · rename_i h
      rw [decP_push, ih (n / 10) (by omega), (decP_digit (Nat.mod_lt n (by omega : 10 > 0))).2]; omega
theorem decP_head (n : Nat) (h0 : 0 < n) : headIs (· == 48) (Lib.decDigits n) = false := by
  induction n using Nat.strongRecOn with
  | ind n ih =>
    rw [Lib.decDigits]
    split
    · rename_i h
      simp only [headIs, beq_eq_false_iff_ne]
      intro e
      have := congrArg UInt8.toNat e
      rw [(decP_digit h).2] at this
      have e48 : (48 : UInt8).toNat = 48 := rfl
      omega
    · rename_i h
      have := ih (n / 10) (by omega) (by omega)
      revert this
      cases hd : Lib.decDigits (n / 10) with
      | nil => exact absurd hd (decP_ne _)
      | cons a b => exact id
theorem decP_zero : Lib.decDigits 0 = [48] := by rw [Lib.decDigits]; rfl

/-! ### runs -/
theorem runN_stopP {p : UInt8 → Bool} : ∀ (l rest : List UInt8), l.all p = true → headIs p rest = false → runN p (l ++ rest) = l.length
  | [], [], _, _ => rfl
  | [], x :: t, _, h => by simp only [headIs] at h; simp [runN, h]
  | c :: r, rest, ha, h => by
    simp only [List.all_cons, Bool.and_eq_true] at ha
    simp only [List.cons_append, runN, ha.1, if_true, List.length_cons]
    rw [runN_stopP r rest ha.2 h]
theorem headIs_mono {p q : UInt8 → Bool} (h : ∀ c, p c = true → q c = true) {l : List UInt8} (hl : headIs q l = false) : headIs p l = false := by
  cases l with
  | nil => rfl
  | cons c r =>
    simp only [headIs] at hl ⊢
    cases hp : p c with
    | false => rfl
    | true => rw [h c hp] at hl; cases hl
theorem dg_word {c : UInt8} (h : dgC c = true) : wordC c = true := by simp [wordC, h]
theorem let_word {c : UInt8} (h : letC c = true) : wordC c = true := by simp [wordC, h]
theorem let_facts {c : UInt8} (h : letC c = true) : blankC c = false ∧ c ≠ 35 := by
  simp only [letC, Bool.or_eq_true, Bool.and_eq_true, decide_eq_true_eq, beq_iff_eq, UInt8.le_iff_toNat_le] at h
  have e : (97 : UInt8).toNat = 97 := rfl
  have e2 : ((95 : UInt8)).toNat = 95 := rfl
  have hc : 90 < c.toNat := by
    rcases h with h | h
    · omega
    · rw [h]; omega
  constructor
  · simp only [blankC, Bool.or_eq_false_iff, beq_eq_false_iff_ne]
    refine ⟨⟨⟨?_, ?_⟩, ?_⟩, ?_⟩ <;> (rintro rfl; revert hc; decide)
  · rintro rfl; revert hc; decide
theorem dg_facts {c : UInt8} (h : dgC c = true) : blankC c = false ∧ c ≠ 35 ∧ letC c = false ∧ c ≠ 34 ∧ c ≠ 45 := by
  simp only [dgC, Bool.and_eq_true, decide_eq_true_eq, UInt8.le_iff_toNat_le] at h
  have e : (48 : UInt8).toNat = 48 := rfl
  have e2 : ((57 : UInt8)).toNat = 57 := rfl
  have h1 : 48 ≤ c.toNat := by omega
  have h2 : c.toNat ≤ 57 := by omega
  refine ⟨?_, ?_, ?_, ?_, ?_⟩
  · simp only [blankC, Bool.or_eq_false_iff, beq_eq_false_iff_ne]
    refine ⟨⟨⟨?_, ?_⟩, ?_⟩, ?_⟩ <;> (rintro rfl; revert h1; decide)
  · rintro rfl; revert h1; decide
  · rw [Bool.eq_false_iff]
    intro hl
    simp only [letC, Bool.or_eq_true, Bool.and_eq_true, decide_eq_true_eq, beq_iff_eq, UInt8.le_iff_toNat_le] at hl
    have e : (97 : UInt8).toNat = 97 := rfl
    rcases hl with hl | hl
    · omega
    · subst hl; revert h2; decide
  · rintro rfl; revert h1; decide
  · rintro rfl; revert h1; decide

/-! ### tokens -/
/-- A word. -/
def wordLike (l : List UInt8) : Bool := headIs letC l && l.all wordC && decide (l.length ≤ 24)
theorem tok_word (free : Bool) (l rest : List UInt8) (h : wordLike l = true) (hr : headIs wordC rest = false) : tokAt free (l ++ rest) = some (wT l, l.length) := by
  simp only [wordLike, Bool.and_eq_true, decide_eq_true_eq] at h
  obtain ⟨⟨h1, h2⟩, h3⟩ := h
  match l, h1, h2, h3 with
  | c :: d, h1, h2, h3 =>
    simp only [headIs] at h1
    simp only [List.all_cons, Bool.and_eq_true] at h2
    simp only [List.length_cons] at h3
    simp only [List.cons_append, tokAt, h1, if_true, runN_stopP d rest h2.2 hr]
    rw [if_pos h3]
    simp [wT]
theorem tok_num (free : Bool) (c : UInt8) (d rest : List UInt8) (n : Int) (h1 : letC c = false) (h2 : c ≠ 34) (h3 : dgC c = true ∨ (c = 45 ∧ free = true ∧ d ≠ [])) (hd : d.all dgC = true) (hw : wholeOk (c :: d) = true) (hv : wholeV (c :: d) = n) (hr : headIs wordC rest = false) :
    tokAt free (c :: d ++ rest) = some (⟨2, c :: d, n, 0⟩, (c :: d).length) := by
  have hb : (c == 34) = false := by simp [h2]
  have hc : (dgC c || (c == 45 && free && headIs dgC (d ++ rest))) = true := by
    rcases h3 with h3 | ⟨rfl, rfl, h3⟩
    · simp [h3]
    · match d, h3, hd with
      | x :: y, _, hd =>
        simp only [List.all_cons, Bool.and_eq_true] at hd
        simp [headIs, hd.1]
  have hrd : headIs dgC rest = false := headIs_mono (fun c h => dg_word h) hr
  have hrl : headIs letC rest = false := headIs_mono (fun c h => let_word h) hr
  have e1 : runN dgC (d ++ rest) = d.length := runN_stopP d rest hd hrd
  have e2 : (c :: (d ++ rest)).take (d.length + 1) = c :: d := by simp
  have e3 : (d ++ rest).drop d.length = rest := by simp
  simp only [List.cons_append, tokAt, h1, hb, hc, e1, e2, e3, hw, hrl, hv]
  simp
theorem tok_itoa (free : Bool) (n : Int) (rest : List UInt8) (hf : 0 ≤ n ∨ free = true) (hn : -9223372036854775808 ≤ n ∧ n ≤ 9223372036854775807) (hr : headIs wordC rest = false) :
    tokAt free (Lib.itoa n ++ rest) = some (nT n, (Lib.itoa n).length) := by
  unfold nT
  by_cases h0 : n < 0
  · have e : Lib.itoa n = 45 :: Lib.decDigits n.natAbs := by unfold Lib.itoa; rw [if_pos h0]
    rw [e]
    refine tok_num free 45 _ rest n (by decide) (by decide) (.inr ⟨rfl, hf.resolve_left (by omega), decP_ne _⟩) (decP_all _) ?_ ?_ hr
    · unfold wholeOk
      simp only [beq_self_eq_true, if_true, decP_val, decP_head _ (show 0 < n.natAbs by omega)]
      simp [decP_ne]; omega
    · unfold wholeV
      simp only [beq_self_eq_true, if_true, decP_val]; omega
  · have e : Lib.itoa n = Lib.decDigits n.toNat := by unfold Lib.itoa; rw [if_neg h0]
    rw [e]
    have ha := decP_all n.toNat
    have hv := decP_val n.toNat
    have hh := decP_head n.toNat
    have hz : n.toNat = 0 → Lib.decDigits n.toNat = [48] := fun h => by rw [h]; exact decP_zero
    cases hd : Lib.decDigits n.toNat with
    | nil => exact absurd hd (decP_ne _)
    | cons c d =>
      rw [hd] at ha hv hh hz
      simp only [List.all_cons, Bool.and_eq_true] at ha
      obtain ⟨-, -, f3, f4, f5⟩ := dg_facts ha.1
      have hb : (c == 45) = false := by simp [f5]
      refine tok_num free c d rest n f3 f4 (.inl ha.1) ha.2 ?_ ?_ hr
      · unfold wholeOk
        simp only [hb, Bool.false_eq_true, if_false, hv, Bool.and_eq_true, decide_eq_true_eq, Bool.or_eq_true, Bool.not_eq_true', beq_eq_false_iff_ne, beq_iff_eq]
        refine ⟨?_, by omega⟩
        rcases Nat.eq_zero_or_pos n.toNat with h | h
        · right; have := hz h; simp at this; exact this.2
        · left; have := hh h; simpa [headIs] using this
      · unfold wholeV
        simp only [hb, Bool.false_eq_true, if_false, hv]; omega
theorem hexP_fin : ∀ n : Fin 16, hexC (hexAt n.val) = true ∧ hexV (hexAt n.val) = n.val := by decide +kernel
theorem txt_qc (c : UInt8) (r : List UInt8) : textAt (qc c ++ r) = (textAt r).map fun x => (c :: x.1, x.2 + (qc c).length) := by
  by_cases h1 : c.toNat = 92 ∨ c.toNat = 34
  · rw [qc_two h1]
    show textAt (92 :: c :: r) = _
    rw [textAt_esc r (h1.imp (fun h => UInt8.toNat_inj.1 h) (fun h => UInt8.toNat_inj.1 h))]; rfl
  by_cases h2 : c.toNat < 32 ∨ 126 < c.toNat
  · rw [qc_four h1 h2]
    have hlt := c.toNat_lt
    obtain ⟨a1, a2⟩ := hexP_fin ⟨c.toNat / 16, by omega⟩
    obtain ⟨b1, b2⟩ := hexP_fin ⟨c.toNat % 16, by omega⟩
    simp only at a1 a2 b1 b2
    show textAt (92 :: 120 :: hexAt (c.toNat / 16) :: hexAt (c.toNat % 16) :: r) = _
    rw [textAt_hex r a1 b1, a2, b2, show 16 * (c.toNat / 16) + c.toNat % 16 = c.toNat by omega, UInt8.ofNat_toNat]; rfl
  · rw [qc_one h1 h2]
    show textAt (c :: r) = _
    rw [textAt_plain r (fun e => h1 (.inr (by rw [e]; rfl))) (by rw [UInt8.le_iff_toNat_le]; show 32 ≤ _; omega) (by rw [UInt8.le_iff_toNat_le]; show _ ≤ 126; omega) (fun e => h1 (.inl (by rw [e]; rfl)))]; rfl
theorem txt_qs : ∀ (l r : List UInt8), textAt (qs l ++ 34 :: r) = some (l, (qs l).length + 1)
  | [], r => textAt_quote r
  | c :: l, r => by
    rw [show qs (c :: l) = qc c ++ qs l from rfl, List.append_assoc, txt_qc, txt_qs l r]
    simp; omega
theorem tok_text (free : Bool) (x rest : List UInt8) (hx : x.length ≤ 64) : tokAt free (quoteL x ++ rest) = some (xT x, (quoteL x).length) := by
  have e : quoteL x ++ rest = 34 :: (qs x ++ 34 :: rest) := by simp [quoteL]
  rw [e]
  simp only [tokAt, txt_qs]
  simp [letC, hx, quoteL, xT]
/-- A sign of one byte that is no number's front and no pair's. -/
theorem tok_sign (free : Bool) (c : UInt8) (rest : List UInt8) (h : (!letC c && !(c == 34) && !dgC c && !(c == 45) && !pairC c && signC c) = true) : tokAt free (c :: rest) = some (sT [c], 1) := by
  simp only [Bool.and_eq_true, Bool.not_eq_true'] at h
  obtain ⟨⟨⟨⟨⟨h1, h2⟩, h3⟩, h4⟩, h5⟩, h6⟩ := h
  simp only [tokAt, h1, h2, h3, h4, signAt, h5, h6]
  simp [sT]
/-- An operator's sign, a blank behind it. -/
theorem tok_op (free : Bool) (op : Int) (rest : List UInt8) (h : 1 ≤ op ∧ op ≤ 9) : tokAt free (signL op ++ 32 :: rest) = some (sT (signL op), (signL op).length) ∧ (sT (signL op)).free = true ∧ ∃ c r, signL op = c :: r ∧ blankC c = false ∧ c ≠ 35 := by
  have : op = 1 ∨ op = 2 ∨ op = 3 ∨ op = 4 ∨ op = 5 ∨ op = 6 ∨ op = 7 ∨ op = 8 ∨ op = 9 := by omega
  rcases this with rfl | rfl | rfl | rfl | rfl | rfl | rfl | rfl | rfl <;> exact ⟨by simp [signL, tokAt, letC, dgC, signAt, pairC, signC, headIs, sT], by decide, _, _, rfl, by decide, by decide⟩
end Go.Proofs.YtobelmipjanibaaDoor
