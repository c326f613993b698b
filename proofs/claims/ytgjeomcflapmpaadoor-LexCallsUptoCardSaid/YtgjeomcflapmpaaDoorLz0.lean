/- Tokens of two texts, a line's end between: the plain law. No program here. -/
import Derived.Test.YtgjeomcflapmpaaDoorLx8
namespace Go.Proofs.YtgjeomcflapmpaaDoor
open Go.RowKit
set_option linter.unusedSimpArgs false
set_option linter.unusedVariables false

theorem headIs_app {p : UInt8 → Bool} (l : List UInt8) {x : UInt8} (t : List UInt8) (h : p x = false) : headIs p (l ++ x :: t) = headIs p l := by
  cases l with
  | nil => simpa [headIs] using h
  | cons c r => rfl
/-- A text in quotes that ends is the same, whatever stands behind it. -/
theorem textAt_app : ∀ (l x : List UInt8) (n : Nat) (t : List UInt8), textAt l = some (x, n) → textAt (l ++ t) = some (x, n) := by
  intro l
  refine textAt_ind (P := fun l => ∀ (x : List UInt8) (n : Nat) (t : List UInt8), textAt l = some (x, n) → textAt (l ++ t) = some (x, n)) ?_ l
  clear l
  intro l ih x n t h
  match l, ih, h with
  | [], _, h => cases h
  | c :: r, ih, h =>
    rw [List.cons_append]
    by_cases h1 : c = 34
    · subst h1; rw [textAt_quote] at h ⊢; exact h
    by_cases h2 : c < 32 ∨ 126 < c
    · rw [textAt_bad r h1 h2] at h; cases h
    have h3 : 32 ≤ c ∧ c ≤ 126 := by
      simp only [UInt8.lt_iff_toNat_lt, UInt8.le_iff_toNat_le] at *; omega
    by_cases h4 : c = 92
    · subst h4
      by_cases h5 : headIs (fun d => d == 92 || d == 34) r = true
      · match r, h5, h, ih with
        | d :: r', h5, h, ih =>
          simp [headIs] at h5
          rw [textAt_esc r' h5] at h
          rw [List.cons_append, textAt_esc (r' ++ t) h5]
          cases hh : textAt r' with
          | none => rw [hh] at h; cases h
          | some y =>
            obtain ⟨y, m⟩ := y
            rw [ih r' (by simp; omega) y m t hh]; rw [hh] at h; exact h
      · by_cases h6 : ∃ a b r', r = 120 :: a :: b :: r' ∧ hexC a = true ∧ hexC b = true
        · obtain ⟨a, b, r', rfl, ha, hb⟩ := h6
          rw [textAt_hex r' ha hb] at h
          rw [List.cons_append, List.cons_append, List.cons_append, textAt_hex (r' ++ t) ha hb]
          cases hh : textAt r' with
          | none => rw [hh] at h; cases h
          | some y =>
            obtain ⟨y, m⟩ := y
            rw [ih r' (by simp; omega) y m t hh]; rw [hh] at h; exact h
        · rw [textAt_no (by simpa using h5)] at h
          · cases h
          · intro a b r' e
            cases ha : hexC a with
            | false => exact .inl rfl
            | true =>
              cases hb : hexC b with
              | false => exact .inr rfl
              | true => exact absurd ⟨a, b, r', e, ha, hb⟩ h6
    · rw [textAt_plain r h1 h3.1 h3.2 h4] at h
      rw [textAt_plain (r ++ t) h1 h3.1 h3.2 h4]
      cases hh : textAt r with
      | none => rw [hh] at h; cases h
      | some y =>
        obtain ⟨y, m⟩ := y
        rw [ih r (by simp) y m t hh]; rw [hh] at h; exact h

/-- A token is the same, a line's end and whatever else behind it. -/
theorem tokAt_app {free : Bool} {l : List UInt8} {t : Tok} {n : Nat} (u : List UInt8) (h : tokAt free l = some (t, n)) : tokAt free (l ++ 10 :: u) = some (t, n) := by
  match l, h with
  | [], h => cases h
  | c :: r, h =>
    have hw := runN_app (p := wordC) r (x := 10) u (by decide)
    have hd := runN_app (p := dgC) r (x := 10) u (by decide)
    have h1 := runN_le wordC r
    have h2 := runN_le dgC r
    have hq := headIs_app (p := (· == 61)) r (x := 10) u (by decide)
    have hg := headIs_app (p := dgC) r (x := 10) u (by decide)
    have hl : headIs letC ((r ++ 10 :: u).drop (runN dgC r)) = headIs letC (r.drop (runN dgC r)) := by
      rw [List.drop_append_of_le_length h2]; exact headIs_app (p := letC) _ (x := 10) u (by decide)
    have t1 : ((c :: r) ++ 10 :: u).take (runN wordC r + 1) = (c :: r).take (runN wordC r + 1) := List.take_append_of_le_length (by simp; omega)
    have t2 : ((c :: r) ++ 10 :: u).take (runN dgC r + 1) = (c :: r).take (runN dgC r + 1) := List.take_append_of_le_length (by simp; omega)
    simp only [List.cons_append] at t1 t2
    simp only [List.cons_append, tokAt, signAt] at h ⊢
    rw [hw, hd, hq, hg, hl, t1, t2]
    split at h
    · rename_i hc
      rw [if_pos hc]; exact h
    · rename_i hc
      rw [if_neg hc]
      split at h
      · rename_i hq
        rw [if_pos hq]
        cases hh : textAt r with
        | none => rw [hh] at h; cases h
        | some y =>
          obtain ⟨y, m⟩ := y
          rw [textAt_app r y m _ hh]; rw [hh] at h; exact h
      · rename_i hq
        rw [if_neg hq]; exact h

/-- A list of tokens, moved. -/
def shift (d : Nat) (t : Tok) : Tok := { t with pos := t.pos + d }
def moveE (d : Nat) : Except Nat (List Tok) → Except Nat (List Tok)
  | .ok l => .ok (l.map (shift d))
  | .error a => .error (a + d)
theorem lex_shift (d : Nat) : ∀ (n : Nat) (r : List UInt8) (free : Bool) (k : Nat), r.length ≤ n → lexL free (k + d) r = moveE d (lexL free k r) := by
  intro n
  induction n with
  | zero =>
    intro r free k h
    have : r = [] := List.eq_nil_of_length_eq_zero (by omega)
    subst this
    rw [lexL_nil, lexL_nil]; simp [moveE, shift]
  | succ n ih =>
    intro r free k h
    match r, h with
    | [], _ => rw [lexL_nil, lexL_nil]; simp [moveE, shift]
    | c :: r, h =>
      simp only [List.length_cons] at h
      by_cases hb : blankC c = true
      · rw [lexL_blank _ _ _ hb, lexL_blank _ _ _ hb, show k + d + 1 = k + 1 + d by omega]
        exact ih r free _ (by omega)
      have hb' : blankC c = false := by simpa using hb
      by_cases hc : c = 35
      · subst hc
        rw [lexL_note, lexL_note, show k + d + (runN notNl r + 1) = k + (runN notNl r + 1) + d by omega]
        exact ih _ free _ (by simp; omega)
      cases ht : tokAt free (c :: r) with
      | none => rw [lexL_bad _ hb' hc ht, lexL_bad _ hb' hc ht]; rfl
      | some x =>
        obtain ⟨t, m⟩ := x
        have hm := tokAt_pos ht
        rw [lexL_tok _ hb' hc ht, lexL_tok _ hb' hc ht, show k + d + m = k + m + d by omega, ih ((c :: r).drop m) t.free (k + m) (by simp; omega)]
        cases lexL t.free (k + m) ((c :: r).drop m) with
        | ok l => simp [moveE, Except.map, shift]
        | error a => simp [moveE, Except.map]

/-- The first byte that is not blank and in no note, if there is one, is not a -. -/
def okHead : Nat → List UInt8 → Bool
  | 0, _ => true
  | _ + 1, [] => true
  | f + 1, c :: r => if blankC c then okHead f r else if c == 35 then okHead f (r.drop (runN notNl r)) else !(c == 45)
theorem tokAt_free {c : UInt8} (hc : c ≠ 45) (f f' : Bool) (r : List UInt8) : tokAt f (c :: r) = tokAt f' (c :: r) := by
  have h : (c == 45) = false := by simp [hc]
  simp only [tokAt, h, Bool.false_and]
theorem lex_free : ∀ (n : Nat) (r : List UInt8) (f f' : Bool) (k : Nat), r.length < n → okHead n r = true → lexL f k r = lexL f' k r := by
  intro n
  induction n with
  | zero => intro r f f' k h; omega
  | succ n ih =>
    intro r f f' k h ho
    match r, h, ho with
    | [], _, _ => rfl
    | c :: r, h, ho =>
      simp only [List.length_cons] at h
      simp only [okHead] at ho
      by_cases hb : blankC c = true
      · rw [lexL_blank _ _ _ hb, lexL_blank _ _ _ hb]
        rw [if_pos hb] at ho
        exact ih r f f' _ (by omega) ho
      have hb' : blankC c = false := by simpa using hb
      rw [if_neg hb] at ho
      by_cases hc : c = 35
      · subst hc
        rw [lexL_note, lexL_note]
        exact ih _ f f' _ (by simp; omega) ho
      rw [if_neg (by simp [hc])] at ho
      have h45 : c ≠ 45 := by simpa using ho
      cases ht : tokAt f (c :: r) with
      | none => rw [lexL_bad _ hb' hc ht, lexL_bad _ hb' hc (by rw [tokAt_free h45 f' f]; exact ht)]
      | some x =>
        obtain ⟨t, m⟩ := x
        rw [lexL_tok _ hb' hc ht, lexL_tok _ hb' hc (by rw [tokAt_free h45 f' f]; exact ht)]

theorem lex_ne : ∀ {r : List UInt8} {f : Bool} {k : Nat} {l : List Tok}, lexL f k r = .ok l → l ≠ [] := by
  intro r
  have key : ∀ (n : Nat) (r : List UInt8) (f : Bool) (k : Nat) (l : List Tok), r.length < n → lexL f k r = .ok l → l ≠ [] := by
    intro n
    induction n with
    | zero => intro r f k l h; omega
    | succ n ih =>
      intro r f k l h hl
      match r, h, hl with
      | [], _, hl => rw [lexL_nil] at hl; cases hl; simp
      | c :: r, h, hl =>
        simp only [List.length_cons] at h
        by_cases hb : blankC c = true
        · rw [lexL_blank _ _ _ hb] at hl; exact ih r f _ l (by omega) hl
        have hb' : blankC c = false := by simpa using hb
        by_cases hc : c = 35
        · subst hc
          rw [lexL_note] at hl
          exact ih _ f _ l (by simp; omega) hl
        cases ht : tokAt f (c :: r) with
        | none => rw [lexL_bad _ hb' hc ht] at hl; cases hl
        | some x =>
          obtain ⟨t, m⟩ := x
          rw [lexL_tok _ hb' hc ht] at hl
          cases hh : lexL t.free (k + m) ((c :: r).drop m) with
          | error a => rw [hh] at hl; cases hl
          | ok l' => rw [hh] at hl; cases hl; simp
  intro f k l h
  exact key (r.length + 1) r f k l (by omega) h

theorem tokAt_kind {free : Bool} {l : List UInt8} {t : Tok} {n : Nat} (h : tokAt free l = some (t, n)) : t.kind ≠ 5 := by
  unfold tokAt at h
  split at h
  · cases h
  · repeat' split at h
    all_goals first
      | (cases h; done)
      | (simp only [Option.some.injEq, Prod.mk.injEq] at h; obtain ⟨rfl, -⟩ := h; simp)
      | skip
    unfold signAt at h
    simp only at h
    repeat' split at h
    all_goals first
      | (cases h; done)
      | (simp only [Option.some.injEq, Prod.mk.injEq] at h; obtain ⟨rfl, -⟩ := h; simp)

/-- The first token, and whether it begins with a -. -/
theorem lex_head : ∀ (n : Nat) (r : List UInt8) (f : Bool) (k : Nat) (b : List Tok), r.length < n → lexL f k r = .ok b →
    ∃ t0 b', b = t0 :: b' ∧ ((t0.kind = 5 ∧ okHead n r = true) ∨ (t0.kind ≠ 5 ∧ ∃ j, ∃ hj : j < r.length, t0.pos = ((k + j : Nat) : Int) ∧ okHead n r = !(r[j] == 45))) := by
  intro n
  induction n with
  | zero => intro r f k b h; omega
  | succ n ih =>
    intro r f k b h hl
    match r, h, hl with
    | [], _, hl => rw [lexL_nil] at hl; cases hl; exact ⟨_, _, rfl, .inl ⟨rfl, rfl⟩⟩
    | c :: r, h, hl =>
      simp only [List.length_cons] at h
      simp only [okHead]
      by_cases hb : blankC c = true
      · rw [lexL_blank _ _ _ hb] at hl
        rw [if_pos hb]
        obtain ⟨t0, b', e, h1⟩ := ih r f _ b (by omega) hl
        refine ⟨t0, b', e, ?_⟩
        rcases h1 with h1 | ⟨h1, j, hj, h2, h3⟩
        · exact .inl h1
        · exact .inr ⟨h1, j + 1, by simpa using hj, by rw [h2]; congr 1; omega, by simpa using h3⟩
      have hb' : blankC c = false := by simpa using hb
      rw [if_neg hb]
      by_cases hc : c = 35
      · subst hc
        rw [lexL_note] at hl
        rw [if_pos (show ((35 : UInt8) == 35) = true from rfl)]
        obtain ⟨t0, b', e, h1⟩ := ih _ f _ b (by simp; omega) hl
        refine ⟨t0, b', e, ?_⟩
        rcases h1 with h1 | ⟨h1, j, hj, h2, h3⟩
        · exact .inl h1
        · have hle := runN_le notNl r
          have hj' := hj
          rw [List.length_drop] at hj'
          refine .inr ⟨h1, runN notNl r + j + 1, by simp; omega, by rw [h2]; congr 1; omega, ?_⟩
          rw [h3, List.getElem_drop]
          rfl
      rw [if_neg (by simp [hc])]
      cases ht : tokAt f (c :: r) with
      | none => rw [lexL_bad _ hb' hc ht] at hl; cases hl
      | some x =>
        obtain ⟨t, m⟩ := x
        rw [lexL_tok _ hb' hc ht] at hl
        cases hh : lexL t.free (k + m) ((c :: r).drop m) with
        | error a => rw [hh] at hl; cases hl
        | ok l' =>
          rw [hh] at hl
          cases hl
          exact ⟨_, _, rfl, .inr ⟨show t.kind ≠ 5 from tokAt_kind ht, 0, by simp, rfl, rfl⟩⟩

theorem lex_len : ∀ (n : Nat) (r : List UInt8) (f : Bool) (k : Nat) (l : List Tok), r.length < n → lexL f k r = .ok l → l.length ≤ r.length + 1 := by
  intro n
  induction n with
  | zero => intro r f k l h; omega
  | succ n ih =>
    intro r f k l h hl
    match r, h, hl with
    | [], _, hl => rw [lexL_nil] at hl; cases hl; simp
    | c :: r, h, hl =>
      simp only [List.length_cons] at h
      by_cases hb : blankC c = true
      · rw [lexL_blank _ _ _ hb] at hl
        have := ih r f _ l (by omega) hl
        simp only [List.length_cons]; omega
      have hb' : blankC c = false := by simpa using hb
      by_cases hc : c = 35
      · subst hc
        rw [lexL_note] at hl
        have := ih _ f _ l (by simp; omega) hl
        rw [List.length_drop] at this
        simp only [List.length_cons]; omega
      cases ht : tokAt f (c :: r) with
      | none => rw [lexL_bad _ hb' hc ht] at hl; cases hl
      | some x =>
        obtain ⟨t, m⟩ := x
        have hm := tokAt_pos ht
        rw [lexL_tok _ hb' hc ht] at hl
        cases hh : lexL t.free (k + m) ((c :: r).drop m) with
        | error a => rw [hh] at hl; cases hl
        | ok l' =>
          rw [hh] at hl; cases hl
          have := ih _ t.free _ l' (by simp; omega) hh
          rw [List.length_drop] at this
          simp only [List.length_cons] at this ⊢; omega
theorem lex_pos : ∀ (n : Nat) (r : List UInt8) (f : Bool) (k : Nat) (l : List Tok), r.length < n → lexL f k r = .ok l → ∀ t ∈ l, (k : Int) ≤ t.pos ∧ t.pos ≤ (k : Int) + r.length := by
  intro n
  induction n with
  | zero => intro r f k l h; omega
  | succ n ih =>
    intro r f k l h hl
    match r, h, hl with
    | [], _, hl => rw [lexL_nil] at hl; cases hl; intro t ht; simp at ht; subst ht; simp
    | c :: r, h, hl =>
      simp only [List.length_cons] at h
      by_cases hb : blankC c = true
      · rw [lexL_blank _ _ _ hb] at hl
        intro t ht
        have := ih r f _ l (by omega) hl t ht
        simp only [List.length_cons]; omega
      have hb' : blankC c = false := by simpa using hb
      by_cases hc : c = 35
      · subst hc
        rw [lexL_note] at hl
        intro t ht
        have := ih _ f _ l (by simp; omega) hl t ht
        have hle := runN_le notNl r
        rw [List.length_drop] at this
        simp only [List.length_cons]; omega
      cases ht : tokAt f (c :: r) with
      | none => rw [lexL_bad _ hb' hc ht] at hl; cases hl
      | some x =>
        obtain ⟨t, m⟩ := x
        have hm := tokAt_pos ht
        have hml := tokAt_len ht
        rw [lexL_tok _ hb' hc ht] at hl
        cases hh : lexL t.free (k + m) ((c :: r).drop m) with
        | error a => rw [hh] at hl; cases hl
        | ok l' =>
          rw [hh] at hl; cases hl
          intro u hu
          rcases List.mem_cons.1 hu with rfl | hu
          · simp only [List.length_cons]
            show (k : Int) ≤ (k : Int) ∧ (k : Int) ≤ _
            omega
          · have := ih _ t.free _ l' (by simp; omega) hh u hu
            rw [List.length_drop] at this
            simp only [List.length_cons] at this hml ⊢; omega

/-- All tokens but the end, then the tokens of the other text. -/
theorem lex_app : ∀ (n : Nat) (r : List UInt8) (f : Bool) (k : Nat) (l : List Tok) (u : List UInt8) (b : List Tok), r.length < n → lexL f k r = .ok l → okHead (u.length + 1) u = true → lexL true 0 u = .ok b →
    lexL f k (r ++ 10 :: u) = .ok (l.dropLast ++ b.map (shift (k + r.length + 1))) := by
  intro n
  induction n with
  | zero => intro r f k l u b h; omega
  | succ n ih =>
    intro r f k l u b h hl ho hu
    match r, h, hl with
    | [], _, hl =>
      rw [lexL_nil] at hl; cases hl
      rw [List.nil_append, lexL_blank _ _ _ (by decide), lex_free (u.length + 1) u f true _ (by omega) ho]
      have := lex_shift (k + 1) u.length u true 0 (Nat.le_refl _)
      rw [Nat.zero_add, hu] at this
      rw [this]; simp [moveE]
    | c :: r, h, hl =>
      simp only [List.length_cons] at h
      rw [List.cons_append]
      by_cases hb : blankC c = true
      · rw [lexL_blank _ _ _ hb] at hl ⊢
        rw [ih r f (k + 1) l u b (by omega) hl ho hu]
        congr 4; simp; omega
      have hb' : blankC c = false := by simpa using hb
      by_cases hc : c = 35
      · subst hc
        rw [lexL_note] at hl ⊢
        have hn := runN_app (p := notNl) r (x := 10) u (by decide)
        have hle := runN_le notNl r
        rw [hn, List.drop_append_of_le_length hle, ih (r.drop (runN notNl r)) f _ l u b (by simp; omega) hl ho hu]
        congr 4; simp; omega
      cases ht : tokAt f (c :: r) with
      | none => rw [lexL_bad _ hb' hc ht] at hl; cases hl
      | some x =>
        obtain ⟨t, m⟩ := x
        have hm := tokAt_pos ht
        rw [lexL_tok _ hb' hc ht] at hl
        have ht2 := tokAt_app u ht
        rw [List.cons_append] at ht2
        rw [lexL_tok _ hb' hc ht2]
        have hml : m ≤ (c :: r).length := tokAt_len ht
        rw [← List.cons_append, List.drop_append_of_le_length hml]
        cases hh : lexL t.free (k + m) ((c :: r).drop m) with
        | error a => rw [hh] at hl; cases hl
        | ok l' =>
          rw [hh] at hl
          have e : l = { t with pos := (k : Int) } :: l' := by cases hl; rfl
          rw [ih ((c :: r).drop m) t.free (k + m) l' u b (by simp; omega) hh ho hu]
          have hne : l' ≠ [] := lex_ne hh
          subst e
          rw [List.dropLast_cons_of_ne_nil hne]
          simp only [Except.map, List.cons_append]
          congr 5
          simp at hml
          simp; omega

end Go.Proofs.YtgjeomcflapmpaaDoor
