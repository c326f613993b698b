/- Tokens that are joined are read again: the plain law. No program here. -/
import Derived.Test.YtgjeomcflapmpaaDoorLx8
import Derived.Test.YtgjeomcflapmpaaDoorLy1
import Derived.Test.YtgjeomcflapmpaaDoorQt0
import Derived.Lib.ItoaNum
import Derived.Lib.Join
namespace Go.Proofs.YtgjeomcflapmpaaDoor
open Go.RowKit
set_option linter.unusedSimpArgs false
set_option linter.unusedVariables false

/-! ### quotes -/
theorem hex_fin : ∀ n : Fin 16, hexC (hexAt n.val) = true ∧ hexV (hexAt n.val) = n.val := by decide +kernel
theorem textAt_qc (c : UInt8) (r : List UInt8) : textAt (qc c ++ r) = (textAt r).map fun x => (c :: x.1, x.2 + (qc c).length) := by
  by_cases h1 : c.toNat = 92 ∨ c.toNat = 34
  · rw [qc_two h1]
    show textAt (92 :: c :: r) = _
    rw [textAt_esc r (h1.imp (fun h => UInt8.toNat_inj.1 h) (fun h => UInt8.toNat_inj.1 h))]; rfl
  by_cases h2 : c.toNat < 32 ∨ 126 < c.toNat
  · rw [qc_four h1 h2]
    have hlt := c.toNat_lt
    obtain ⟨a1, a2⟩ := hex_fin ⟨c.toNat / 16, by omega⟩
    obtain ⟨b1, b2⟩ := hex_fin ⟨c.toNat % 16, by omega⟩
    simp only at a1 a2 b1 b2
    show textAt (92 :: 120 :: hexAt (c.toNat / 16) :: hexAt (c.toNat % 16) :: r) = _
    rw [textAt_hex r a1 b1, a2, b2, show 16 * (c.toNat / 16) + c.toNat % 16 = c.toNat by omega, UInt8.ofNat_toNat]; rfl
  · rw [qc_one h1 h2]
    show textAt (c :: r) = _
    rw [textAt_plain r (fun e => h1 (.inr (by rw [e]; rfl))) (by rw [UInt8.le_iff_toNat_le]; show 32 ≤ _; omega) (by rw [UInt8.le_iff_toNat_le]; show _ ≤ 126; omega) (fun e => h1 (.inl (by rw [e]; rfl)))]; rfl
theorem textAt_qs : ∀ (l r : List UInt8), textAt (qs l ++ 34 :: r) = some (l, (qs l).length + 1)
  | [], r => textAt_quote r
  | c :: l, r => by
    rw [show qs (c :: l) = qc c ++ qs l from rfl, List.append_assoc, textAt_qc, textAt_qs l r]
    simp; omega

/-! ### numerals -/
theorem decV_push (l : List UInt8) (c : UInt8) : decV (l ++ [c]) = decV l * 10 + (c.toNat - 48) := by simp [decV]
theorem decV_pos {c : UInt8} {r : List UInt8} (hd : dgC c = true) (h : c ≠ 48) : 1 ≤ decV (c :: r) := by
  have key : ∀ (r : List UInt8) (n : Nat), 1 ≤ n → 1 ≤ r.foldl (fun n c => n * 10 + (c.toNat - 48)) n := by
    intro r
    induction r with
    | nil => intro n h; exact h
    | cons d r ih => intro n h; exact ih (n * 10 + (d.toNat - 48)) (by omega)
  refine key r (0 * 10 + (c.toNat - 48)) ?_
  simp [dgC, UInt8.le_iff_toNat_le] at hd
  have : c.toNat ≠ 48 := fun e => h (UInt8.toNat_inj.1 e)
  have h48 : (48 : UInt8).toNat = 48 := rfl
  omega
theorem dg_range {c : UInt8} (h : dgC c = true) : 48 ≤ c.toNat ∧ c.toNat ≤ 57 := by
  simp [dgC, UInt8.le_iff_toNat_le] at h; exact h
theorem dec_back : ∀ (n : Nat) (l : List UInt8), l.length = n → l ≠ [] → l.all dgC = true → (headIs (· == 48) l = false ∨ l.length = 1) → Lib.decDigits (decV l) = l := by
  intro n
  induction n using Nat.strongRecOn with
  | ind n ih =>
    intro l hn h0 ha hz
    obtain ⟨q, c, rfl⟩ : ∃ q c, l = q ++ [c] := ⟨l.dropLast, l.getLast h0, (List.dropLast_concat_getLast h0).symm⟩
    simp only [List.all_append, List.all_cons, List.all_nil, Bool.and_true, Bool.and_eq_true] at ha
    obtain ⟨hc1, hc2⟩ := dg_range ha.2
    rw [decV_push]
    cases q with
    | nil =>
      rw [show decV [] = 0 from rfl, Lib.decDigits_one (by omega)]
      simp only [List.nil_append, List.cons.injEq, and_true]
      rw [show 48 + (0 * 10 + (c.toNat - 48)) = c.toNat by omega, UInt8.ofNat_toNat]
    | cons d q =>
      have hd : headIs (· == 48) (d :: q) = false := by
        rcases hz with hz | hz
        · simpa [headIs] using hz
        · simp at hz
      have hd' : d ≠ 48 := by simpa [headIs] using hd
      simp only [List.all_cons, Bool.and_eq_true] at ha
      have hp := decV_pos (r := q) ha.1.1 hd'
      rw [Lib.decDigits, dif_neg (by omega), show (decV (d :: q) * 10 + (c.toNat - 48)) / 10 = decV (d :: q) by omega, show (decV (d :: q) * 10 + (c.toNat - 48)) % 10 = c.toNat - 48 by omega,
        ih (d :: q).length (by rw [← hn]; simp) (d :: q) rfl (by simp) (by simp [ha.1]) (.inl hd)]
      rw [show 48 + (c.toNat - 48) = c.toNat by omega, UInt8.ofNat_toNat]
/-- A number's text is its number's. -/
theorem itoa_back (c : UInt8) (r : List UInt8) (hc : dgC c = true ∨ c = 45) (hr : r.all dgC = true) (h : wholeOk (c :: r) = true) : Lib.itoa (wholeV (c :: r)) = c :: r := by
  unfold wholeOk at h
  unfold wholeV
  by_cases h45 : c = 45
  · subst h45
    simp at h
    obtain ⟨⟨h1, h2⟩, _⟩ := h
    have hp : 1 ≤ decV r := by
      match r, h1, h2, hr with
      | d :: r, _, h2, hr => simp [headIs] at h2; simp only [List.all_cons, Bool.and_eq_true] at hr; exact decV_pos hr.1 h2
    simp only [beq_self_eq_true, if_true]
    unfold Lib.itoa
    rw [if_pos (by omega), show (-(decV r : Int)).natAbs = decV r by omega, dec_back _ r rfl h1 hr (.inl h2)]
  · have hb : (c == 45) = false := by simp [h45]
    simp only [hb, Bool.false_eq_true, if_false, Bool.and_eq_true, decide_eq_true_eq] at h
    have hd : dgC c = true := hc.resolve_right h45
    simp only [hb, Bool.false_eq_true, if_false]
    unfold Lib.itoa
    rw [if_neg (by omega), show ((decV (c :: r) : Nat) : Int).toNat = decV (c :: r) by omega]
    refine dec_back _ (c :: r) rfl (by simp) (by simp [hd]; simpa using hr) ?_
    have h1 := h.1
    simp only [Bool.or_eq_true, Bool.not_eq_true', beq_iff_eq] at h1
    rcases h1 with h1 | h1
    · left; simpa [headIs] using h1
    · right; subst h1; rfl

/-! ### tokens -/
/-- A token's text. -/
def tokText (t : Tok) : List UInt8 := if t.kind = 3 then quoteL t.text else if t.kind = 2 then Lib.itoa t.num else t.text
def joinToks (l : List Tok) : List UInt8 := Lib.join (l.map tokText) [32]
theorem runN_front {p : UInt8 → Bool} : ∀ (l : List UInt8) {x : UInt8} (t : List UInt8), l.all p = true → p x = false → runN p (l ++ x :: t) = l.length
  | [], x, t, _, h => by simp [runN, h]
  | c :: r, x, t, ha, h => by
    simp only [List.all_cons, Bool.and_eq_true] at ha
    simp only [List.cons_append, runN, ha.1, if_true, List.length_cons]
    rw [runN_front r t ha.2 h]
theorem let_facts {c : UInt8} (h : letC c = true) : blankC c = false ∧ c ≠ 35 ∧ wordC c = true := by
  refine ⟨?_, ?_, by simp [wordC, h]⟩
  · cases hb : blankC c with
    | false => rfl
    | true =>
      simp [blankC] at hb
      rcases hb with ((rfl | rfl) | rfl) | rfl <;> simp [letC] at h
  · rintro rfl; simp [letC] at h
theorem dg_facts {c : UInt8} (h : dgC c = true ∨ c = 45) : blankC c = false ∧ c ≠ 35 ∧ c ≠ 34 ∧ letC c = false := by
  rcases h with h | rfl
  · have key : ∀ d : Fin 256, dgC (UInt8.ofNat d.val) = true → blankC (UInt8.ofNat d.val) = false ∧ UInt8.ofNat d.val ≠ 35 ∧ UInt8.ofNat d.val ≠ 34 ∧ letC (UInt8.ofNat d.val) = false := by decide +kernel
    have := key ⟨c.toNat, c.toNat_lt⟩
    simp only [UInt8.ofNat_toNat] at this
    exact this h
  · decide
theorem sign_facts {c : UInt8} (h : signC c = true ∨ pairC c = true) : blankC c = false ∧ c ≠ 35 ∧ c ≠ 34 ∧ letC c = false ∧ dgC c = false := by
  have key : ∀ d : Fin 256, (signC (UInt8.ofNat d.val) = true ∨ pairC (UInt8.ofNat d.val) = true) → blankC (UInt8.ofNat d.val) = false ∧ UInt8.ofNat d.val ≠ 35 ∧ UInt8.ofNat d.val ≠ 34 ∧ letC (UInt8.ofNat d.val) = false ∧ dgC (UInt8.ofNat d.val) = false := by decide +kernel
  have := key ⟨c.toNat, c.toNat_lt⟩
  simp only [UInt8.ofNat_toNat] at this
  exact this h
theorem pair_not {c : UInt8} (h : pairC c = true) : c ≠ 45 := by rintro rfl; simp [pairC] at h
/-- A token's text, a blank behind it, is read as the token. -/
theorem tokAt_back {free : Bool} {l : List UInt8} {t : Tok} {n : Nat} (h : tokAt free l = some (t, n)) (u : List UInt8) :
    ∃ c q, tokText t = c :: q ∧ blankC c = false ∧ c ≠ 35 ∧ tokAt free (c :: q ++ 32 :: u) = some (t, (c :: q).length) := by
  match l, h with
  | [], h => cases h
  | c :: r, h =>
    simp only [tokAt] at h
    split at h
    · rename_i hc
      split at h
      · rename_i hn
        cases h
        obtain ⟨f1, f2, f3⟩ := let_facts hc
        refine ⟨c, r.take (runN wordC r), by simp [tokText], f1, f2, ?_⟩
        have e : runN wordC (r.take (runN wordC r) ++ 32 :: u) = runN wordC r := by
          rw [runN_front _ u (runN_all wordC r) (by decide), List.length_take, Nat.min_eq_left (runN_le wordC r)]
        have hl : (r.take (runN wordC r)).length = runN wordC r := by rw [List.length_take, Nat.min_eq_left (runN_le wordC r)]
        simp only [List.cons_append, tokAt, hc, if_true, e, hn]
        simp [hl]
      · cases h
    · rename_i hc
      split at h
      · rename_i hq
        obtain rfl : c = 34 := by simpa using hq
        cases hh : textAt r with
        | none => rw [hh] at h; cases h
        | some y =>
          obtain ⟨y, m⟩ := y
          rw [hh] at h
          simp only at h
          split at h
          · rename_i h64
            cases h
            refine ⟨34, qs y ++ [34], by simp [tokText, quoteL], by decide, by decide, ?_⟩
            have e : textAt (qs y ++ [34] ++ 32 :: u) = some (y, (qs y).length + 1) := by rw [List.append_assoc]; exact textAt_qs y (32 :: u)
            simp only [List.cons_append, tokAt, e]
            simp [h64, letC]
          · cases h
      · rename_i hq
        split at h
        · rename_i hd
          split at h
          · rename_i hw
            cases h
            simp only [Bool.or_eq_true, Bool.and_eq_true, beq_iff_eq] at hd
            have hd' : dgC c = true ∨ c = 45 := hd.imp id (fun h => h.1.1)
            obtain ⟨f1, f2, f3, f4⟩ := dg_facts hd'
            have hl : (r.take (runN dgC r)).length = runN dgC r := by rw [List.length_take, Nat.min_eq_left (runN_le dgC r)]
            have hw1 : wholeOk (c :: r.take (runN dgC r)) = true := by simp only [Bool.and_eq_true] at hw; simpa using hw.1
            have hi := itoa_back c (r.take (runN dgC r)) hd' (runN_all dgC r) hw1
            refine ⟨c, r.take (runN dgC r), by simp only [tokText, List.take_succ_cons]; exact hi, f1, f2, ?_⟩
            have e : runN dgC (r.take (runN dgC r) ++ 32 :: u) = runN dgC r := by
              rw [runN_front _ u (runN_all dgC r) (by decide), hl]
            have hg : (dgC c || c == 45 && free && headIs dgC (r.take (runN dgC r) ++ 32 :: u)) = true := by
              simp only [Bool.or_eq_true, Bool.and_eq_true, beq_iff_eq]
              rcases hd with hd | ⟨⟨h1, h2⟩, h3⟩
              · exact .inl hd
              · refine .inr ⟨⟨h1, h2⟩, ?_⟩
                cases r with
                | nil => simp [headIs] at h3
                | cons d r => simp only [headIs] at h3; simp [runN, h3, headIs]
            have t1 : (c :: (r.take (runN dgC r) ++ 32 :: u)).take (runN dgC r + 1) = c :: r.take (runN dgC r) := by
              rw [List.take_succ_cons, List.take_append_of_le_length (by omega), List.take_of_length_le (by omega)]
            have t2 : (r.take (runN dgC r) ++ 32 :: u).drop (runN dgC r) = 32 :: u := by
              rw [List.drop_append_of_le_length (by omega), List.drop_of_length_le (by omega)]; rfl
            have hl32 : headIs letC (32 :: u) = false := rfl
            have f3' : (c == 34) = false := by simp [f3]
            simp only [List.cons_append, tokAt, f4, Bool.false_eq_true, if_false, f3', hg, if_true, e, t1, t2, hw1, hl32, Bool.not_false, Bool.and_self, List.take_succ_cons, List.length_cons, hl]
          · cases h
        · rename_i hd
          simp only [signAt] at h
          split at h
          · rename_i hp
            simp only [Bool.and_eq_true] at hp
            cases h
            obtain ⟨f1, f2, f3, f4, f5⟩ := sign_facts (c := c) (.inr hp.1)
            have f3' : (c == 34) = false := by simp [f3]
            have f6 : (c == 45) = false := by simp [pair_not hp.1]
            refine ⟨c, [61], rfl, f1, f2, ?_⟩
            simp [tokAt, signAt, f4, f3, f5, f6, hp.1, headIs, pair_not hp.1]
          · split at h
            · rename_i hs
              cases h
              obtain ⟨f1, f2, f3, f4, f5⟩ := sign_facts (c := c) (.inl hs)
              refine ⟨c, [], rfl, f1, f2, ?_⟩
              have hd32 : dgC 32 = false := rfl
              simp [tokAt, signAt, f4, f3, f5, hs, headIs, hd32]
            · cases h

/-! ### all of them -/
theorem lex_err : ∀ (n : Nat) (r : List UInt8) (free : Bool) (k a : Nat), r.length ≤ n → lexL free k r = .error a → k ≤ a ∧ a < k + r.length := by
  intro n
  induction n with
  | zero =>
    intro r free k a h e
    have : r = [] := List.eq_nil_of_length_eq_zero (by omega)
    subst this
    rw [lexL_nil] at e; cases e
  | succ n ih =>
    intro r free k a h e
    match r, h, e with
    | [], _, e => rw [lexL_nil] at e; cases e
    | c :: r, h, e =>
      simp only [List.length_cons] at h ⊢
      by_cases hb : blankC c = true
      · rw [lexL_blank _ _ _ hb] at e
        have := ih r free _ a (by omega) e; omega
      · have hb : blankC c = false := by simpa using hb
        by_cases hc : c = 35
        · subst hc
          rw [lexL_note] at e
          have hl := runN_le notNl r
          have := ih _ free _ a (by simp; omega) e
          simp at this; omega
        · cases ht : tokAt free (c :: r) with
          | none => rw [lexL_bad k hb hc ht] at e; cases e; omega
          | some x =>
            obtain ⟨t, m⟩ := x
            have h1 := tokAt_pos ht
            have h2 := tokAt_len ht
            simp only [List.length_cons] at h2
            rw [lexL_tok k hb hc ht] at e
            cases e' : lexL t.free (k + m) ((c :: r).drop m) with
            | ok l => rw [e'] at e; cases e
            | error a' =>
              rw [e'] at e; cases e
              have := ih _ t.free _ a (by simp; omega) e'
              simp at this; omega
theorem lex_rise : ∀ (n : Nat) (r : List UInt8) (free : Bool) (k : Nat) (l : List Tok), r.length ≤ n → lexL free k r = .ok l →
    (∀ t ∈ l, (k : Int) ≤ t.pos) ∧ l.Pairwise (fun a b => a.pos < b.pos) ∧ (∃ ts, l = ts ++ [⟨5, [], 0, ((k + r.length : Nat) : Int)⟩] ∧ (∀ t ∈ ts, t.kind ≠ 5)) ∧
      ∃ ts, l = ts ++ [⟨5, [], 0, ((k + r.length : Nat) : Int)⟩] ∧ ∀ k' : Nat, ∃ l', lexL free k' (ts.flatMap fun t => tokText t ++ [32]) = .ok l' ∧ l'.map (Tok.bare false) = l.map (Tok.bare false) := by
  intro n
  induction n with
  | zero =>
    intro r free k l h e
    have : r = [] := List.eq_nil_of_length_eq_zero (by omega)
    subst this
    rw [lexL_nil] at e; cases e
    exact ⟨by simp, by simp, ⟨[], by simp, by simp⟩, [], by simp, fun k' => ⟨_, lexL_nil _ _, by simp [Tok.bare]⟩⟩
  | succ n ih =>
    intro r free k l h e
    match r, h, e with
    | [], _, e =>
      rw [lexL_nil] at e; cases e
      exact ⟨by simp, by simp, ⟨[], by simp, by simp⟩, [], by simp, fun k' => ⟨_, lexL_nil _ _, by simp [Tok.bare]⟩⟩
    | c :: r, h, e =>
      simp only [List.length_cons] at h
      by_cases hb : blankC c = true
      · rw [lexL_blank _ _ _ hb] at e
        obtain ⟨h1, h2, h3, h4⟩ := ih r free _ l (by omega) e
        rw [show k + 1 + r.length = k + (c :: r).length by simp; omega] at h3 h4
        exact ⟨fun t ht => by have := h1 t ht; omega, h2, h3, h4⟩
      · have hb : blankC c = false := by simpa using hb
        by_cases hc : c = 35
        · subst hc
          rw [lexL_note] at e
          have hl := runN_le notNl r
          obtain ⟨h1, h2, h3, h4⟩ := ih _ free _ l (by simp; omega) e
          rw [show k + (runN notNl r + 1) + (r.drop (runN notNl r)).length = k + ((35 : UInt8) :: r).length by simp; omega] at h3 h4
          exact ⟨fun t ht => by have := h1 t ht; omega, h2, h3, h4⟩
        · cases ht : tokAt free (c :: r) with
          | none => rw [lexL_bad k hb hc ht] at e; cases e
          | some x =>
            obtain ⟨t, m⟩ := x
            have q1 := tokAt_pos ht
            have q2 := tokAt_len ht
            simp only [List.length_cons] at q2
            rw [lexL_tok k hb hc ht] at e
            cases e' : lexL t.free (k + m) ((c :: r).drop m) with
            | error a' => rw [e'] at e; cases e
            | ok l1 =>
              rw [e'] at e; cases e
              obtain ⟨h1, h2, ⟨ts, h3, h5⟩, us, h6, h7⟩ := ih _ t.free _ l1 (by simp; omega) e'
              have hk : k + m + ((c :: r).drop m).length = k + (c :: r).length := by simp; omega
              rw [hk] at h3 h6
              have hkind : t.kind ≠ 5 := by
                unfold tokAt at ht
                simp only [signAt] at ht
                repeat' split at ht
                all_goals first
                  | (cases ht; done)
                  | (cases ht; simp)
              refine ⟨?_, ?_, ⟨{ t with pos := (k : Int) } :: ts, by rw [h3]; rfl, ?_⟩, { t with pos := (k : Int) } :: us, by rw [h6]; rfl, ?_⟩
              · intro x hx
                rcases List.mem_cons.1 hx with rfl | hx
                · exact Int.le_refl _
                · have := h1 x hx; omega
              · refine List.pairwise_cons.2 ⟨fun x hx => ?_, h2⟩
                have := h1 x hx
                simp; omega
              · intro x hx
                rcases List.mem_cons.1 hx with rfl | hx
                · exact hkind
                · exact h5 x hx
              · intro k'
                obtain ⟨d, q, g1, g2, g3, g4⟩ := tokAt_back ht (us.flatMap fun t => tokText t ++ [32])
                obtain ⟨l', g5, g6⟩ := h7 (k' + (d :: q).length + 1)
                have e1 : (({ t with pos := (k : Int) } :: us).flatMap fun t => tokText t ++ [32]) = d :: q ++ 32 :: us.flatMap fun t => tokText t ++ [32] := by
                  rw [List.flatMap_cons, show tokText { t with pos := (k : Int) } = tokText t from rfl, g1]; simp
                refine ⟨{ t with pos := (k' : Int) } :: l', ?_, ?_⟩
                · rw [e1]
                  simp only [List.cons_append] at g4 ⊢
                  rw [lexL_tok k' g2 g3 g4]
                  have e2 : (d :: (q ++ 32 :: us.flatMap fun t => tokText t ++ [32])).drop (d :: q).length = 32 :: us.flatMap fun t => tokText t ++ [32] := by simp
                  rw [e2, lexL_blank _ _ _ (by decide), g5]; rfl
                · rw [List.map_cons, List.map_cons, g6]; rfl
theorem flat_join (e : Int) : ∀ ts : List Tok, Lib.join ((ts ++ [(⟨5, [], 0, e⟩ : Tok)]).map tokText) [32] = ts.flatMap fun t => tokText t ++ [32]
  | [] => rfl
  | t :: ts => by
    have ih := flat_join e ts
    rw [List.cons_append, List.map_cons, Lib.join_cons, List.flatMap_cons, ← ih]
    cases ts with
    | nil => simp [Lib.joinTail, Lib.join_one, tokText]
    | cons u us => rw [List.cons_append, List.map_cons, Lib.join_cons]; simp [Lib.joinTail]
theorem text_bare (t : Tok) : tokText (t.bare false) = tokText t := rfl
theorem join_bare {a b : List Tok} (h : a.map (Tok.bare false) = b.map (Tok.bare false)) : joinToks a = joinToks b := by
  have e : ∀ l : List Tok, l.map tokText = (l.map (Tok.bare false)).map tokText := fun l => by rw [List.map_map]; rfl
  unfold joinToks
  rw [e a, e b, h]
/-- Tokens that are joined are the same tokens, but for places. -/
theorem lex_back {r : List UInt8} {l : List Tok} (h : lexL true 0 r = .ok l) : ∃ m, lexL true 0 (joinToks l) = .ok m ∧ m.map (Tok.bare false) = l.map (Tok.bare false) := by
  obtain ⟨_, _, _, ts, rfl, h7⟩ := lex_rise _ r true 0 l (Nat.le_refl _) h
  obtain ⟨m, h8, h9⟩ := h7 0
  exact ⟨m, by unfold joinToks; rw [flat_join]; exact h8, h9⟩
end Go.Proofs.YtgjeomcflapmpaaDoor
