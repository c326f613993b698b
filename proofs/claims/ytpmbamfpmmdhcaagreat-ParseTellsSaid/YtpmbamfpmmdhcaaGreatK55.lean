/- Tokens of two texts, a line's end between: the plain law. No program here. -/
import Derived.Test.YtpmbamfpmmdhcaaGreatK54
import Derived.Test.YtpmbamfpmmdhcaaGreatK41
set_option maxRecDepth 100000
set_option maxHeartbeats 16000000
namespace Go.Proofs.YtpmbamfpmmdhcaaGreat
open Go.RowKit
set_option linter.unusedSimpArgs false
set_option linter.unusedVariables false
theorem headIs_app {p : UInt8 → Bool} (l : List UInt8) {x : UInt8} (t : List UInt8) (h : p x = false) : headIs p (l ++ x :: t) = headIs p l := by
  cases l with
  | nil => simpa [headIs] using h
  | cons c r => rfl
theorem textAt_app : ∀ (l x : List UInt8) (n : Nat) (t : List UInt8),textAt l = some (x,n) → textAt (l ++ t) = some (x,n) := by
  intro l
  refine textAt_ind (P := fun l => ∀ (x : List UInt8) (n : Nat) (t : List UInt8),textAt l = some (x,n) → textAt (l ++ t) = some (x,n)) ?_ l
  clear l
  intro l ih x n t h
  match l,ih,h with
  | [],_,h => cases h
  | c :: r,ih,h =>
    rw [List.cons_append]
    by_cases h1 : c = 34
    · subst h1;rw [textAt_quote] at h ⊢;exact h
    by_cases h2 : c < 32 ∨ 126 < c
    · rw [textAt_bad r h1 h2] at h;cases h
    have h3 : 32 ≤ c ∧ c ≤ 126 := by
      simp only [UInt8.lt_iff_toNat_lt,UInt8.le_iff_toNat_le] at *;omega
    by_cases h4 : c = 92
    · subst h4
      by_cases h5 : headIs (fun d => d == 92 || d == 34) r = true
      · match r,h5,h,ih with
        | d :: r',h5,h,ih =>
          simp [headIs] at h5
          rw [textAt_esc r' h5] at h;rw [List.cons_append,textAt_esc (r' ++ t) h5];cases hh : textAt r' with
          | none => rw [hh] at h;cases h
          | some y =>
            obtain ⟨y,m⟩ := y;rw [ih r' (by simp;omega) y m t hh];rw [hh] at h;exact h
      · by_cases h6 : ∃ a b r',r = 120 :: a :: b :: r' ∧ hexC a = true ∧ hexC b = true
        · obtain ⟨a,b,r',rfl,ha,hb⟩ := h6
          rw [textAt_hex r' ha hb] at h;rw [List.cons_append,List.cons_append,List.cons_append,textAt_hex (r' ++ t) ha hb];cases hh : textAt r' with
          | none => rw [hh] at h;cases h
          | some y =>
            obtain ⟨y,m⟩ := y;rw [ih r' (by simp;omega) y m t hh];rw [hh] at h;exact h
        · rw [textAt_no (by simpa using h5)] at h
          · cases h
          · intro a b r' e
            cases ha : hexC a with
            | false => exact .inl rfl
            | true =>
              cases hb : hexC b with
              | false => exact .inr rfl
              | true => exact absurd ⟨a,b,r',e,ha,hb⟩ h6
    · rw [textAt_plain r h1 h3.1 h3.2 h4] at h
      rw [textAt_plain (r ++ t) h1 h3.1 h3.2 h4];cases hh : textAt r with
      | none => rw [hh] at h;cases h
      | some y =>
        obtain ⟨y,m⟩ := y;rw [ih r (by simp) y m t hh];rw [hh] at h;exact h
theorem tokAt_app {free : Bool} {l : List UInt8} {t : Tok} {n : Nat} (u : List UInt8) (h : tokAt free l = some (t,n)) : tokAt free (l ++ 10 :: u) = some (t,n) := by
  match l,h with
  | [],h => cases h
  | c :: r,h =>
    have hw := runN_app (p := wordC) r (x := 10) u (by decide);have hd := runN_app (p := dgC) r (x := 10) u (by decide);have h1 := runN_le wordC r;have h2 := runN_le dgC r;have hq := headIs_app (p := (· == 61)) r (x := 10) u (by decide);have hg := headIs_app (p := dgC) r (x := 10) u (by decide);have hl : headIs letC ((r ++ 10 :: u).drop (runN dgC r)) = headIs letC (r.drop (runN dgC r)) := by
      rw [List.drop_append_of_le_length h2];exact headIs_app (p := letC) _ (x := 10) u (by decide)
    have t1 : ((c :: r) ++ 10 :: u).take (runN wordC r + 1) = (c :: r).take (runN wordC r + 1) := List.take_append_of_le_length (by simp;omega);have t2 : ((c :: r) ++ 10 :: u).take (runN dgC r + 1) = (c :: r).take (runN dgC r + 1) := List.take_append_of_le_length (by simp;omega);simp only [List.cons_append] at t1 t2;simp only [List.cons_append,tokAt,signAt] at h ⊢;rw [hw,hd,hq,hg,hl,t1,t2]
    split at h
    · rename_i hc
      rw [if_pos hc];exact h
    · rename_i hc
      rw [if_neg hc]
      split at h
      · rename_i hq
        rw [if_pos hq];cases hh : textAt r with
        | none => rw [hh] at h;cases h
        | some y =>
          obtain ⟨y,m⟩ := y;rw [textAt_app r y m _ hh];rw [hh] at h;exact h
      · rename_i hq
        rw [if_neg hq];exact h
def shift (d : Nat) (t : Tok) : Tok := { t with pos := t.pos + d }
def moveE (d : Nat) : Except Nat (List Tok) → Except Nat (List Tok)
  | .ok l => .ok (l.map (shift d))
  | .error a => .error (a + d)
theorem lex_shift (d : Nat) : ∀ (n : Nat) (r : List UInt8) (free : Bool) (k : Nat),r.length ≤ n → lexL free (k + d) r = moveE d (lexL free k r) := by
  intro n
  induction n with
  | zero =>
    intro r free k h;have : r = [] := List.eq_nil_of_length_eq_zero (by omega);subst this;rw [lexL_nil,lexL_nil];simp [moveE,shift]
  | succ n ih =>
    intro r free k h
    match r,h with
    | [],_ => rw [lexL_nil,lexL_nil];simp [moveE,shift]
    | c :: r,h =>
      simp only [List.length_cons] at h
      by_cases hb : blankC c = true
      · rw [lexL_blank _ _ _ hb,lexL_blank _ _ _ hb,show k + d + 1 = k + 1 + d by omega]
        exact ih r free _ (by omega)
      have hb' : blankC c = false := by simpa using hb
      by_cases hc : c = 35
      · subst hc
        rw [lexL_note,lexL_note,show k + d + (runN notNl r + 1) = k + (runN notNl r + 1) + d by omega];exact ih _ free _ (by simp;omega)
      cases ht : tokAt free (c :: r) with
      | none => rw [lexL_bad _ hb' hc ht,lexL_bad _ hb' hc ht];rfl
      | some x =>
        obtain ⟨t,m⟩ := x;have hm := tokAt_pos ht;rw [lexL_tok _ hb' hc ht,lexL_tok _ hb' hc ht,show k + d + m = k + m + d by omega,ih ((c :: r).drop m) t.free (k + m) (by simp;omega)];cases lexL t.free (k + m) ((c :: r).drop m) with
        | ok l => simp [moveE,Except.map,shift]
        | error a => simp [moveE,Except.map]
def okHead : Nat → List UInt8 → Bool
  | 0,_ => true
  | _ + 1,[] => true
  | f + 1,c :: r => if blankC c then okHead f r else if c == 35 then okHead f (r.drop (runN notNl r)) else !(c == 45)
theorem tokAt_free {c : UInt8} (hc : c ≠ 45) (f f' : Bool) (r : List UInt8) : tokAt f (c :: r) = tokAt f' (c :: r) := by
  have h : (c == 45) = false := by simp [hc]
  simp only [tokAt,h,Bool.false_and]
theorem lex_free : ∀ (n : Nat) (r : List UInt8) (f f' : Bool) (k : Nat),r.length < n → okHead n r = true → lexL f k r = lexL f' k r := by
  intro n
  induction n with
  | zero => intro r f f' k h;omega
  | succ n ih =>
    intro r f f' k h ho
    match r,h,ho with
    | [],_,_ => rfl
    | c :: r,h,ho =>
      simp only [List.length_cons] at h;simp only [okHead] at ho
      by_cases hb : blankC c = true
      · rw [lexL_blank _ _ _ hb,lexL_blank _ _ _ hb]
        rw [if_pos hb] at ho;exact ih r f f' _ (by omega) ho
      have hb' : blankC c = false := by simpa using hb
      rw [if_neg hb] at ho
      by_cases hc : c = 35
      · subst hc
        rw [lexL_note,lexL_note];exact ih _ f f' _ (by simp;omega) ho
      rw [if_neg (by simp [hc])] at ho;have h45 : c ≠ 45 := by simpa using ho
      cases ht : tokAt f (c :: r) with
      | none => rw [lexL_bad _ hb' hc ht,lexL_bad _ hb' hc (by rw [tokAt_free h45 f' f];exact ht)]
      | some x =>
        obtain ⟨t,m⟩ := x;rw [lexL_tok _ hb' hc ht,lexL_tok _ hb' hc (by rw [tokAt_free h45 f' f];exact ht)]
theorem lex_ne : ∀ {r : List UInt8} {f : Bool} {k : Nat} {l : List Tok},lexL f k r = .ok l → l ≠ [] := by
  intro r
  have key : ∀ (n : Nat) (r : List UInt8) (f : Bool) (k : Nat) (l : List Tok),r.length < n → lexL f k r = .ok l → l ≠ [] := by
    intro n
    induction n with
    | zero => intro r f k l h;omega
    | succ n ih =>
      intro r f k l h hl
      match r,h,hl with
      | [],_,hl => rw [lexL_nil] at hl;cases hl;simp
      | c :: r,h,hl =>
        simp only [List.length_cons] at h
        by_cases hb : blankC c = true
        · rw [lexL_blank _ _ _ hb] at hl;exact ih r f _ l (by omega) hl
        have hb' : blankC c = false := by simpa using hb
        by_cases hc : c = 35
        · subst hc
          rw [lexL_note] at hl;exact ih _ f _ l (by simp;omega) hl
        cases ht : tokAt f (c :: r) with
        | none => rw [lexL_bad _ hb' hc ht] at hl;cases hl
        | some x =>
          obtain ⟨t,m⟩ := x;rw [lexL_tok _ hb' hc ht] at hl;cases hh : lexL t.free (k + m) ((c :: r).drop m) with
          | error a => rw [hh] at hl;cases hl
          | ok l' => rw [hh] at hl;cases hl;simp
  intro f k l h
  exact key (r.length + 1) r f k l (by omega) h
theorem tokAt_kind {free : Bool} {l : List UInt8} {t : Tok} {n : Nat} (h : tokAt free l = some (t,n)) : t.kind ≠ 5 := by
  unfold tokAt at h
  split at h
  · cases h
  · repeat' split at h
    all_goals first
      | (cases h;done)
      | (simp only [Option.some.injEq,Prod.mk.injEq] at h;obtain ⟨rfl,-⟩ := h;simp)
      | skip
    unfold signAt at h;simp only at h
    repeat' split at h
    all_goals first
      | (cases h;done)
      | (simp only [Option.some.injEq,Prod.mk.injEq] at h;obtain ⟨rfl,-⟩ := h;simp)
theorem lex_pos : ∀ (n : Nat) (r : List UInt8) (f : Bool) (k : Nat) (l : List Tok),r.length < n → lexL f k r = .ok l → ∀ t ∈ l,(k : Int) ≤ t.pos ∧ t.pos ≤ (k : Int) + r.length := by
  intro n
  induction n with
  | zero => intro r f k l h;omega
  | succ n ih =>
    intro r f k l h hl
    match r,h,hl with
    | [],_,hl => rw [lexL_nil] at hl;cases hl;intro t ht;simp at ht;subst ht;simp
    | c :: r,h,hl =>
      simp only [List.length_cons] at h
      by_cases hb : blankC c = true
      · rw [lexL_blank _ _ _ hb] at hl
        intro t ht;have := ih r f _ l (by omega) hl t ht;simp only [List.length_cons];omega
      have hb' : blankC c = false := by simpa using hb
      by_cases hc : c = 35
      · subst hc
        rw [lexL_note] at hl;intro t ht;have := ih _ f _ l (by simp;omega) hl t ht;have hle := runN_le notNl r;rw [List.length_drop] at this;simp only [List.length_cons];omega
      cases ht : tokAt f (c :: r) with
      | none => rw [lexL_bad _ hb' hc ht] at hl;cases hl
      | some x =>
        obtain ⟨t,m⟩ := x;have hm := tokAt_pos ht;have hml := tokAt_len ht;rw [lexL_tok _ hb' hc ht] at hl;cases hh : lexL t.free (k + m) ((c :: r).drop m) with
        | error a => rw [hh] at hl;cases hl
        | ok l' =>
          rw [hh] at hl;cases hl;intro u hu;rcases List.mem_cons.1 hu with rfl | hu
          · simp only [List.length_cons]
            show (k : Int) ≤ (k : Int) ∧ (k : Int) ≤ _
            omega
          · have := ih _ t.free _ l' (by simp;omega) hh u hu
            rw [List.length_drop] at this;simp only [List.length_cons] at this hml ⊢;omega
theorem lex_app : ∀ (n : Nat) (r : List UInt8) (f : Bool) (k : Nat) (l : List Tok) (u : List UInt8) (b : List Tok),r.length < n → lexL f k r = .ok l → okHead (u.length + 1) u = true → lexL true 0 u = .ok b →
    lexL f k (r ++ 10 :: u) = .ok (l.dropLast ++ b.map (shift (k + r.length + 1))) := by
  intro n
  induction n with
  | zero => intro r f k l u b h;omega
  | succ n ih =>
    intro r f k l u b h hl ho hu
    match r,h,hl with
    | [],_,hl =>
      rw [lexL_nil] at hl;cases hl;rw [List.nil_append,lexL_blank _ _ _ (by decide),lex_free (u.length + 1) u f true _ (by omega) ho];have := lex_shift (k + 1) u.length u true 0 (Nat.le_refl _);rw [Nat.zero_add,hu] at this;rw [this];simp [moveE]
    | c :: r,h,hl =>
      simp only [List.length_cons] at h;rw [List.cons_append]
      by_cases hb : blankC c = true
      · rw [lexL_blank _ _ _ hb] at hl ⊢
        rw [ih r f (k + 1) l u b (by omega) hl ho hu]
        congr 4;simp;omega
      have hb' : blankC c = false := by simpa using hb
      by_cases hc : c = 35
      · subst hc
        rw [lexL_note] at hl ⊢;have hn := runN_app (p := notNl) r (x := 10) u (by decide);have hle := runN_le notNl r;rw [hn,List.drop_append_of_le_length hle,ih (r.drop (runN notNl r)) f _ l u b (by simp;omega) hl ho hu]
        congr 4;simp;omega
      cases ht : tokAt f (c :: r) with
      | none => rw [lexL_bad _ hb' hc ht] at hl;cases hl
      | some x =>
        obtain ⟨t,m⟩ := x;have hm := tokAt_pos ht;rw [lexL_tok _ hb' hc ht] at hl;have ht2 := tokAt_app u ht;rw [List.cons_append] at ht2;rw [lexL_tok _ hb' hc ht2];have hml : m ≤ (c :: r).length := tokAt_len ht;rw [← List.cons_append,List.drop_append_of_le_length hml];cases hh : lexL t.free (k + m) ((c :: r).drop m) with
        | error a => rw [hh] at hl;cases hl
        | ok l' =>
          rw [hh] at hl;have e : l = { t with pos := (k : Int) } :: l' := by cases hl;rfl
          rw [ih ((c :: r).drop m) t.free (k + m) l' u b (by simp;omega) hh ho hu];have hne : l' ≠ [] := lex_ne hh;subst e;rw [List.dropLast_cons_of_ne_nil hne];simp only [Except.map,List.cons_append]
          congr 5
          simp at hml
          simp;omega
def nop (t : Tok) : Tok := { t with pos := 0 }
def eT : Tok := ⟨5,[],0,0⟩
def sgT (s : List UInt8) : Tok := ⟨4,s,0,0⟩
theorem getD_nop (M : List Tok) (i : Nat) : nop (M.getD i ⟨5,[],0,0⟩) = (M.map nop).getD i eT := by
  simp only [List.getD_eq_getElem?_getD,List.getElem?_map]
  cases M[i]? <;> rfl
theorem kind_nop {M : List Tok} {i : Nat} {t : Tok} (h : (M.map nop).getD i eT = t) : (M.getD i ⟨5,[],0,0⟩).kind = t.kind ∧ (M.getD i ⟨5,[],0,0⟩).text = t.text ∧ (M.getD i ⟨5,[],0,0⟩).num = t.num := by
  have h' := (getD_nop M i).trans h
  rw [← h'];exact ⟨rfl,rfl,rfl⟩
theorem sign_of {M : List Tok} {i : Nat} {s : List UInt8} (h : (M.map nop).getD i eT = sgT s) : SignAt M i s := by
  obtain ⟨a,b,-⟩ := kind_nop h
  exact ⟨a,b⟩
theorem end_of {M : List Tok} {i : Nat} (h : (M.map nop).getD i eT = eT) : EndAt M i := (kind_nop h).1
theorem getD_app {a b : List Tok} {i : Nat} : (a ++ b).getD (a.length + i) eT = b.getD i eT := by
  simp [List.getD_eq_getElem?_getD,List.getElem?_append_right]
theorem getD_front {a b : List Tok} {i : Nat} (h : i < a.length) : (a ++ b).getD i eT = a.getD i eT := by
  simp [List.getD_eq_getElem?_getD,List.getElem?_append_left,h]
theorem alike_within {L M pre ts post : List Tok} {c : Tok} (hL : L.map nop = ts ++ [eT]) (hM : M.map nop = pre ++ (ts ++ c :: post)) (hc : c = eT ∨ c = sgT [41]) : AlikeT L M pre.length ts.length := by
  refine ⟨fun i hi => ?_,?_,?_⟩
  · have h1 : (L.map nop).getD i eT = ts.getD i eT := by rw [hL];exact getD_front hi
    have h2 : (M.map nop).getD (i + pre.length) eT = ts.getD i eT := by rw [hM,Nat.add_comm,getD_app];exact getD_front hi
    obtain ⟨a,b,c⟩ := kind_nop h1;obtain ⟨a',b',c'⟩ := kind_nop h2;exact ⟨a'.trans a.symm,b'.trans b.symm,c'.trans c.symm⟩
  · refine (kind_nop (t := eT) ?_).1
    rw [hL,show ts.length = ts.length + 0 from rfl,getD_app];rfl
  · have h2 : (M.map nop).getD (ts.length + pre.length) eT = c := by rw [hM,Nat.add_comm,getD_app,show ts.length = ts.length + 0 from rfl,getD_app];rfl
    obtain ⟨a',b',-⟩ := kind_nop h2;rcases hc with rfl | rfl
    · exact Or.inl a'
    · exact Or.inr ⟨a',b'⟩
theorem ends_of {L ts : List Tok} (hL : L.map nop = ts ++ [eT]) (h5 : ∀ t ∈ ts,t.kind ≠ 5) : EndsAt L ts.length := by
  refine ⟨fun i hi => ?_,?_⟩
  · have h1 : (L.map nop).getD i eT = ts[i] := by rw [hL,getD_front hi];simp [List.getD_eq_getElem?_getD,hi]
    rw [(kind_nop h1).1];exact h5 _ (List.getElem_mem hi)
  · refine (kind_nop (t := eT) ?_).1
    rw [hL,show ts.length = ts.length + 0 from rfl,getD_app];rfl
theorem lex_ends : ∀ (n : Nat) (r : List UInt8) (f : Bool) (k : Nat) (l : List Tok),r.length < n → lexL f k r = .ok l → ∃ ts,l.map nop = ts ++ [eT] ∧ (∀ t ∈ ts,t.kind ≠ 5) ∧ l.dropLast.map nop = ts := by
  intro n
  induction n with
  | zero => intro r f k l h;omega
  | succ n ih =>
    intro r f k l h hl
    match r,h,hl with
    | [],_,hl => rw [lexL_nil] at hl;cases hl;exact ⟨[],rfl,by simp,rfl⟩
    | c :: r,h,hl =>
      simp only [List.length_cons] at h
      by_cases hb : blankC c = true
      · rw [lexL_blank _ _ _ hb] at hl;exact ih r f _ l (by omega) hl
      have hb' : blankC c = false := by simpa using hb
      by_cases hc : c = 35
      · subst hc
        rw [lexL_note] at hl;exact ih _ f _ l (by simp;omega) hl
      cases ht : tokAt f (c :: r) with
      | none => rw [lexL_bad _ hb' hc ht] at hl;cases hl
      | some x =>
        obtain ⟨t,m⟩ := x;have hm := tokAt_pos ht;rw [lexL_tok _ hb' hc ht] at hl;cases hh : lexL t.free (k + m) ((c :: r).drop m) with
        | error a => rw [hh] at hl;cases hl
        | ok l' =>
          rw [hh] at hl;have hl' : l = { t with pos := (k : Int) } :: l' := by cases hl;rfl
          subst hl';obtain ⟨ts,a,b,c'⟩ := ih _ _ _ l' (by simp;omega) hh;have hne : l' ≠ [] := lex_ne hh;refine ⟨nop t :: ts,by rw [List.map_cons,a];rfl,?_,?_⟩
          · intro x hx
            rcases List.mem_cons.1 hx with rfl | hx
            · show t.kind ≠ 5
              exact tokAt_kind ht
            · exact b x hx
          · rw [List.dropLast_cons_of_ne_nil hne,List.map_cons,c'];rfl
theorem lex_move {r : List UInt8} {f : Bool} {l : List Tok} (h : lexL f 0 r = .ok l) (k : Nat) : ∃ m,lexL f k r = .ok m ∧ m.map nop = l.map nop := by
  have := lex_shift k r.length r f 0 (Nat.le_refl _)
  rw [Nat.zero_add,h] at this
  exact ⟨_,this,by rw [List.map_map];rfl⟩
theorem lex_sign {c : UInt8} (hb : blankC c = false) (hc : c ≠ 35) {f : Bool} {u : List UInt8} (ht : tokAt f (c :: u) = some (sgT [c],1)) {b : List Tok} (h : lexL (sgT [c]).free 0 u = .ok b) (k : Nat) : ∃ m,lexL f k (c :: u) = .ok m ∧ m.map nop = sgT [c] :: b.map nop := by
  obtain ⟨m,h1,h2⟩ := lex_move h (k + 1)
  refine ⟨{ sgT [c] with pos := (k : Int) } :: m,?_,?_⟩
  · rw [lexL_tok _ hb hc ht]
    show (lexL (sgT [c]).free (k + 1) u).map _ = _
    rw [h1];rfl
  · rw [List.map_cons,h2];rfl
theorem lex_skip {c : UInt8} (hb : blankC c = true) {f : Bool} {u : List UInt8} {b : List Tok} (h : lexL f 0 u = .ok b) (k : Nat) : ∃ m,lexL f k (c :: u) = .ok m ∧ m.map nop = b.map nop := by
  rw [lexL_blank _ _ _ hb];exact lex_move h _
theorem lex_br {a : List UInt8} {la : List Tok} (ha : lexL true 0 a = .ok la) {u : List UInt8} {b : List Tok} (hu : lexL false 0 u = .ok b) (f : Bool) (k : Nat) :
    ∃ m,lexL f k (40 :: (a ++ 10 :: 41 :: u)) = .ok m ∧ m.map nop = sgT [40] :: (la.dropLast.map nop ++ sgT [41] :: b.map nop) := by
  obtain ⟨b1,h1,h2⟩ := lex_sign (c := 41) (f := true) (u := u) (by decide) (by decide) (by cases u <;> rfl) hu 0
  have h3 := lex_app (a.length + 1) a true 0 la (41 :: u) b1 (by omega) ha rfl h1
  obtain ⟨m,h4,h5⟩ := lex_sign (c := 40) (f := f) (u := a ++ 10 :: 41 :: u) (by decide) (by decide) (by cases f <;> (cases a <;> rfl)) h3 k
  refine ⟨m,h4,?_⟩
  rw [h5,List.map_append,List.map_map,show (nop ∘ shift (0 + a.length + 1)) = nop from rfl,h2]
theorem twoX_right {op : Int} (h : 1 ≤ op ∧ op ≤ 3) (a b : Ex) : rightB (twoX op a b) = true := by
  unfold rightB
  rw [Bool.and_eq_true]
  exact ⟨show kindOk 3 = true by decide,(rightH_3 _ _ _ _ _ _ _ _).2 ⟨rfl,rfl,h,rfl,show namesB [] = true by decide,⟨(empty_iff ⟨#[]⟩).2 rfl,rfl⟩,rfl⟩⟩
theorem twoX_all {op : Int} (ho : 1 ≤ op ∧ op ≤ 3) {a b : Ex} (h : a.flat.all rightB = true) (k : b.flat.all rightB = true) : (twoX op a b).flat.all rightB = true := by
  rw [show (twoX op a b).flat = twoX op a b :: (a.flat ++ b.flat) by simp [twoX,Ex.flat,flats],List.all_cons,twoX_right ho,List.all_append,h,k];rfl
theorem ok_partsX {a : Ex} (h : checkExpr a = 0) : a.size ≤ 200 ∧ a.deep ≤ 16 ∧ a.flat.all rightB = true := by
  by_cases h1 : 200 < a.size ∨ 16 < a.deep
  · rw [checkExpr_long h1] at h;omega
  · by_cases h2 : a.flat.all rightB = true
    · exact ⟨by omega,by omega,h2⟩
    · rw [checkExpr_bad h1 h2] at h;omega
theorem right_check {a : Ex} (h : a.flat.all rightB = true) : checkExpr a = 0 ∨ checkExpr a = 3 := by
  by_cases h1 : 200 < a.size ∨ 16 < a.deep
  · exact Or.inr (checkExpr_long h1)
  · exact Or.inl (checkExpr_ok h1 h)
theorem twoX_size (op : Int) (a b : Ex) : (twoX op a b).size = a.size + b.size + 1 := by simp [twoX,Ex.size,sizes];omega
theorem lx_of {t : ByteArray} (hs : t.size ≤ 16384) {M : List Tok} (h : lexL true 0 (sl t 0) = .ok M) : LX t = M ∧ PX t = ⟨0,0,0,0⟩ := by
  have e : lexAll t = (M,0,0) := by unfold lexAll;rw [if_neg (by omega),h]
  unfold LX PX
  rw [e];exact ⟨rfl,rfl⟩
theorem ans (a : ByteArray) (hs : a.size ≤ maxLen) : ∃ x fe fa,(∀ X,Calls Tryz.prog 7 #[.string a] X (ERes x fe fa X)) ∧
    (fe = 0 → fa = 0 ∧ a.size ≤ 16384 ∧ checkExpr x = 0 ∧ ∃ l,lexL true 0 (sl a 0) = .ok l ∧ Reads l ⟨0,0,0,0⟩ x) := by
  obtain ⟨⟨e,p4⟩,F,h⟩ := expr_ev (LX a) (PX a) (pw_begin a)
  have hr := h F (Nat.le_refl _)
  refine ⟨_,_,_,fun X => (tExpr a X hs e p4 F hr).mono fun _ _ h => h.res,fun h0 => ?_⟩
  obtain ⟨c0,e0,k0⟩ := done_ok h0
  obtain ⟨z1,z2⟩ := (zas (LX a) F).expr _ _ _ hr e0
  rw [if_pos h0]
  have hz := px_at z1
  have hx : 16384 < a.size ∨ ∃ l,lexL true 0 (sl a 0) = .ok l ∧ a.size ≤ 16384 := by
    by_cases h1 : 16384 < a.size
    · exact Or.inl h1
    · refine Or.inr ?_
      cases hl : lexL true 0 (sl a 0) with
      | ok l => exact ⟨l,rfl,by omega⟩
      | error b =>
        have e1 : lexAll a = ([],13,(b : Int)) := by unfold lexAll;rw [if_neg h1,hl]
        have : (PX a).err = 13 := by unfold PX;rw [e1]
        rw [this] at z1;exact absurd z1 (by decide)
  rcases hx with h1 | ⟨l,hl,h1⟩
  · have e1 : lexAll a = ([],3,0) := by unfold lexAll;rw [if_pos h1]
    have : (PX a).err = 3 := by unfold PX;rw [e1]
    rw [this] at z1;exact absurd z1 (by decide)
  · obtain ⟨eL,eP⟩ := lx_of h1 hl
    refine ⟨?_,h1,c0,l,hl,?_⟩
    · rw [c0,done_end e0 k0,z2,hz]
    · have := reads_of hr h0
      rw [eL,eP] at this;exact this
theorem comes_of {t : ByteArray} (hs : t.size ≤ 16384) {M : List Tok} (hM : lexL true 0 (sl t 0) = .ok M) {j1 j' : Nat} {x z : Ex} (ht : TermAt M 0 j1 x) (hsu : SumsAt M j1 j' x z) (he : EndAt M j') (hz : z.flat.all rightB = true) :
    ∃ y fe fa,(∀ X,Calls Tryz.prog 7 #[.string t] X (ERes y fe fa X)) ∧ (fe = 3 ∨ (fe = 0 ∧ fa = 0 ∧ y = z ∧ checkExpr z = 0)) := by
  obtain ⟨eL,eP⟩ := lx_of hs hM
  obtain ⟨⟨y,p4⟩,F,h⟩ := expr_ev (LX t) (PX t) (pw_begin t)
  have hr := h F (Nat.le_refl _)
  have hm : t.size ≤ maxLen := by unfold maxLen;omega
  refine ⟨_,_,_,fun X => (tExpr t X hm y p4 F hr).mono fun _ _ h => h.res,?_⟩
  have hr' := hr
  rw [eL,eP] at hr'
  rcases expr_at ht hsu he rfl rfl hr' with ⟨rfl,a,b⟩ | c
  · rw [eL]
    rcases right_check hz with hc | hc
    · rw [hc,done_end a b]
      obtain ⟨-,z2⟩ := (zas M F).expr _ _ _ hr' a;exact Or.inr ⟨a,z2,by rw [if_pos a],rfl⟩
    · refine Or.inl ?_
      rw [hc];unfold PS.done PS.over;rw [if_neg (by decide),if_neg (fun h => h.2 b)];unfold PS.fail;rw [if_pos a]
  · exact Or.inl (by rw [done_bad (by rw [c];decide)];exact c)
def brT (A : List Tok) : List Tok := sgT [40] :: (A ++ [sgT [41]])
theorem sign_in {M pre post : List Tok} {s : List UInt8} (hM : M.map nop = pre ++ (sgT s :: post)) : SignAt M pre.length s := by
  refine sign_of ?_
  rw [hM,show pre.length = pre.length + 0 from rfl,getD_app];rfl
theorem end_in {M pre : List Tok} (hM : M.map nop = pre ++ [eT]) : EndAt M pre.length := by
  refine end_of ?_
  rw [hM,show pre.length = pre.length + 0 from rfl,getD_app];rfl
theorem atom_in {L M pre A post : List Tok} {x : Ex} (hM : M.map nop = pre ++ (brT A ++ post)) (hL : L.map nop = A ++ [eT]) (h5 : ∀ t ∈ A,t.kind ≠ 5) (hR : Reads L ⟨0,0,0,0⟩ x) : AtomAt M pre.length (pre ++ brT A).length x := by
  have e1 : M.map nop = (pre ++ [sgT [40]]) ++ (A ++ sgT [41] :: post) := by rw [hM];simp [brT]
  have e2 : M.map nop = (pre ++ sgT [40] :: A) ++ (sgT [41] :: post) := by rw [hM];simp [brT]
  have e3 : M.map nop = pre ++ (sgT [40] :: (A ++ sgT [41] :: post)) := by rw [hM];simp [brT]
  have hA := alike_within (pre := pre ++ [sgT [40]]) hL e1 (Or.inr rfl)
  have hl : (pre ++ [sgT [40]]).length = pre.length + 1 := by simp
  rw [hl] at hA
  have hs := sign_in e2
  rw [show (pre ++ sgT [40] :: A).length = A.length + (pre.length + 1) by simp;omega] at hs
  have h := atom_br hA (ends_of hL h5) hR rfl rfl (sign_in e3) hs
  rwa [show A.length + (pre.length + 1) + 1 = (pre ++ brT A).length by simp [brT];omega] at h
theorem lex_brT {a : List UInt8} {la : List Tok} (ha : lexL true 0 a = .ok la) {u : List UInt8} {b : List Tok} (hu : lexL false 0 u = .ok b) :
    ∃ m,lexL true 0 (40 :: (a ++ 10 :: 41 :: u)) = .ok m ∧ m.map nop = brT (la.dropLast.map nop) ++ b.map nop := by
  obtain ⟨m,h1,h2⟩ := lex_br ha hu true 0
  exact ⟨m,h1,by rw [h2];simp [brT]⟩
theorem lex_op {s : UInt8} (hs : s = 43 ∨ s = 45 ∨ s = 42) {v : List UInt8} {b : List Tok} (hv : lexL true 0 v = .ok b) : ∃ m,lexL false 0 (32 :: s :: 32 :: v) = .ok m ∧ m.map nop = sgT [s] :: b.map nop := by
  obtain ⟨m1,h1,e1⟩ := lex_skip (c := 32) (by decide) hv 0
  have hb : blankC s = false := by rcases hs with rfl | rfl | rfl <;> decide
  have hc : s ≠ 35 := by rcases hs with rfl | rfl | rfl <;> decide
  have ht : tokAt false (s :: 32 :: v) = some (sgT [s],1) := by rcases hs with rfl | rfl | rfl <;> rfl
  have hf : (sgT [s]).free = true := by rcases hs with rfl | rfl | rfl <;> rfl
  obtain ⟨m2,h2,e2⟩ := lex_sign hb hc ht (by rw [hf];exact h1) 0
  obtain ⟨m3,h3,e3⟩ := lex_skip (c := 32) (by decide) h2 0
  exact ⟨m3,h3,by rw [e3,e2,e1]⟩
structure IsX (a : List UInt8) (x : Ex) : Prop where
  toks : ∃ la A,lexL true 0 a = .ok la ∧ la.map nop = A ++ [eT] ∧ (∀ t ∈ A,t.kind ≠ 5) ∧ la.dropLast.map nop = A ∧ Reads la ⟨0,0,0,0⟩ x
  right : x.flat.all rightB = true
theorem IsX.of {a : List UInt8} {x : Ex} {l : List Tok} (h : lexL true 0 a = .ok l) (hR : Reads l ⟨0,0,0,0⟩ x) : IsX a x := by
  obtain ⟨A,h1,h2,h3⟩ := lex_ends (a.length + 1) a true 0 l (by omega) h
  exact ⟨⟨l,A,h,h1,h2,h3,hR⟩,(ok_partsX hR.ok).2.2⟩
theorem nil_lex : lexL false 0 [] = .ok [⟨5,[],0,0⟩] := rfl
theorem star_not {s : UInt8} (hs : s = 43 ∨ s = 45) : ([s] : List UInt8) ≠ [42] := by rcases hs with rfl | rfl <;> decide
theorem op_s {op : Int} {s : UInt8} (h : (op = 1 ∧ s = 43) ∨ (op = 2 ∧ s = 45)) : (op = 1 ∧ ([s] : List UInt8) = [43]) ∨ (op = 2 ∧ ([s] : List UInt8) = [45]) := by
  rcases h with ⟨h,rfl⟩ | ⟨h,rfl⟩
  · exact Or.inl ⟨h,rfl⟩
  · exact Or.inr ⟨h,rfl⟩
section
variable {a b c : List UInt8} {x y z : Ex} {op : Int} {s : UInt8}
theorem two_reads (ha : IsX a x) (hb : IsX b y) (hop : (op = 1 ∧ s = 43) ∨ (op = 2 ∧ s = 45)) :
    ∃ M j1 j',lexL true 0 (40 :: (a ++ 10 :: 41 :: 32 :: s :: 32 :: 40 :: (b ++ 10 :: 41 :: []))) = .ok M ∧ TermAt M 0 j1 x ∧ SumsAt M j1 j' x (twoX op x y) ∧ EndAt M j' := by
  obtain ⟨la,A,a1,a2,a3,a4,a5⟩ := ha.toks
  obtain ⟨lb,B,b1,b2,b3,b4,b5⟩ := hb.toks
  have hs : s = 43 ∨ s = 45 := by rcases hop with ⟨_,h⟩ | ⟨_,h⟩ <;> simp [h]
  obtain ⟨m1,h1,e1⟩ := lex_brT b1 nil_lex
  obtain ⟨m2,h2,e2⟩ := lex_op (s := s) (by rcases hs with h | h <;> simp [h]) h1
  obtain ⟨M,h3,e3⟩ := lex_brT a1 h2
  rw [e2,e1,a4,b4] at e3
  have f1 : M.map nop = [] ++ (brT A ++ (sgT [s] :: (brT B ++ [eT]))) := e3
  have f2 : M.map nop = brT A ++ (sgT [s] :: (brT B ++ [eT])) := e3
  have f3 : M.map nop = (brT A ++ [sgT [s]]) ++ (brT B ++ [eT]) := by rw [e3];simp;rfl
  have f4 : M.map nop = (brT A ++ [sgT [s]]) ++ (sgT [40] :: (B ++ sgT [41] :: [eT])) := by rw [e3];simp [brT];rfl
  have f5 : M.map nop = ((brT A ++ [sgT [s]]) ++ brT B) ++ [eT] := by rw [e3];simp;rfl
  have l1 : (brT A ++ [sgT [s]]).length = (brT A).length + 1 := by simp
  have t1 : TermAt M 0 (brT A).length x := term_atom (atom_in f1 a2 a3 a5) (Or.inr ⟨_,sign_in f2,star_not hs⟩)
  have t2 := term_atom (atom_in f3 b2 b3 b5) (Or.inl (end_in f5))
  rw [l1] at t2
  have o2 := sign_in f4
  rw [l1] at o2
  exact ⟨M,_,_,h3,t1,sums_step (op_s hop) (sign_in f2) o2 t2 (sums_end (end_in f5)),end_in f5⟩
theorem left_reads (ha : IsX a x) (hb : IsX b y) (hc : IsX c z) (hop : (op = 1 ∧ s = 43) ∨ (op = 2 ∧ s = 45)) :
    ∃ M j1 j',lexL true 0 (40 :: (a ++ 10 :: 41 :: 32 :: s :: 32 :: 40 :: (b ++ 10 :: 41 :: 32 :: s :: 32 :: 40 :: (c ++ 10 :: 41 :: [])))) = .ok M ∧ TermAt M 0 j1 x ∧ SumsAt M j1 j' x (twoX op (twoX op x y) z) ∧ EndAt M j' := by
  obtain ⟨la,A,a1,a2,a3,a4,a5⟩ := ha.toks
  obtain ⟨lb,B,b1,b2,b3,b4,b5⟩ := hb.toks
  obtain ⟨lc,C,c1,c2,c3,c4,c5⟩ := hc.toks
  have hs : s = 43 ∨ s = 45 := by rcases hop with ⟨_,h⟩ | ⟨_,h⟩ <;> simp [h]
  have hs3 : s = 43 ∨ s = 45 ∨ s = 42 := by rcases hs with h | h <;> simp [h]
  obtain ⟨m1,h1,e1⟩ := lex_brT c1 nil_lex
  obtain ⟨m2,h2,e2⟩ := lex_op hs3 h1
  obtain ⟨m3,h3,e3⟩ := lex_brT b1 h2
  obtain ⟨m4,h4,e4⟩ := lex_op hs3 h3
  obtain ⟨M,h5,e5⟩ := lex_brT a1 h4
  rw [e4,e3,e2,e1,a4,b4,c4] at e5
  have f1 : M.map nop = [] ++ (brT A ++ (sgT [s] :: (brT B ++ (sgT [s] :: (brT C ++ [eT]))))) := e5
  have f3 : M.map nop = (brT A ++ [sgT [s]]) ++ (brT B ++ (sgT [s] :: (brT C ++ [eT]))) := by rw [e5];simp;rfl
  have f4 : M.map nop = (brT A ++ [sgT [s]]) ++ (sgT [40] :: (B ++ sgT [41] :: (sgT [s] :: (brT C ++ [eT])))) := by rw [e5];simp [brT];rfl
  have f5 : M.map nop = ((brT A ++ [sgT [s]]) ++ brT B) ++ (sgT [s] :: (brT C ++ [eT])) := by rw [e5];simp;rfl
  have f6 : M.map nop = (((brT A ++ [sgT [s]]) ++ brT B) ++ [sgT [s]]) ++ (brT C ++ [eT]) := by rw [e5];simp;rfl
  have f7 : M.map nop = (((brT A ++ [sgT [s]]) ++ brT B) ++ [sgT [s]]) ++ (sgT [40] :: (C ++ sgT [41] :: [eT])) := by rw [e5];simp [brT];rfl
  have f8 : M.map nop = ((((brT A ++ [sgT [s]]) ++ brT B) ++ [sgT [s]]) ++ brT C) ++ [eT] := by rw [e5];simp;rfl
  have l1 : (brT A ++ [sgT [s]]).length = (brT A).length + 1 := by simp
  have l2 : (((brT A ++ [sgT [s]]) ++ brT B) ++ [sgT [s]]).length = ((brT A ++ [sgT [s]]) ++ brT B).length + 1 := by simp;omega
  have t1 : TermAt M 0 (brT A).length x := term_atom (atom_in f1 a2 a3 a5) (Or.inr ⟨_,sign_in (pre := brT A) f1,star_not hs⟩)
  have t2 := term_atom (atom_in f3 b2 b3 b5) (Or.inr ⟨_,sign_in f5,star_not hs⟩)
  have t3 := term_atom (atom_in f6 c2 c3 c5) (Or.inl (end_in f8))
  have o2 := sign_in f4
  have o3 := sign_in f7
  rw [l1] at t2 o2
  rw [l2] at t3 o3
  exact ⟨M,_,_,h5,t1,sums_step (op_s hop) (sign_in (pre := brT A) f1) o2 t2 (sums_step (op_s hop) (sign_in f5) o3 t3 (sums_end (end_in f8))),end_in f8⟩
theorem right_reads (ha : IsX a x) (hb : IsX b y) (hc : IsX c z) (hop : (op = 1 ∧ s = 43) ∨ (op = 2 ∧ s = 45)) :
    ∃ M j1 j',lexL true 0 (40 :: (a ++ 10 :: 41 :: 32 :: s :: 32 :: 40 :: (b ++ 10 :: 41 :: 32 :: 42 :: 32 :: 40 :: (c ++ 10 :: 41 :: [])))) = .ok M ∧ TermAt M 0 j1 x ∧ SumsAt M j1 j' x (twoX op x (twoX 3 y z)) ∧ EndAt M j' := by
  obtain ⟨la,A,a1,a2,a3,a4,a5⟩ := ha.toks
  obtain ⟨lb,B,b1,b2,b3,b4,b5⟩ := hb.toks
  obtain ⟨lc,C,c1,c2,c3,c4,c5⟩ := hc.toks
  have hs : s = 43 ∨ s = 45 := by rcases hop with ⟨_,h⟩ | ⟨_,h⟩ <;> simp [h]
  have hs3 : s = 43 ∨ s = 45 ∨ s = 42 := by rcases hs with h | h <;> simp [h]
  obtain ⟨m1,h1,e1⟩ := lex_brT c1 nil_lex
  obtain ⟨m2,h2,e2⟩ := lex_op (s := 42) (by simp) h1
  obtain ⟨m3,h3,e3⟩ := lex_brT b1 h2
  obtain ⟨m4,h4,e4⟩ := lex_op hs3 h3
  obtain ⟨M,h5,e5⟩ := lex_brT a1 h4
  rw [e4,e3,e2,e1,a4,b4,c4] at e5
  have f1 : M.map nop = [] ++ (brT A ++ (sgT [s] :: (brT B ++ (sgT [42] :: (brT C ++ [eT]))))) := e5
  have f3 : M.map nop = (brT A ++ [sgT [s]]) ++ (brT B ++ (sgT [42] :: (brT C ++ [eT]))) := by rw [e5];simp;rfl
  have f4 : M.map nop = (brT A ++ [sgT [s]]) ++ (sgT [40] :: (B ++ sgT [41] :: (sgT [42] :: (brT C ++ [eT])))) := by rw [e5];simp [brT];rfl
  have f5 : M.map nop = ((brT A ++ [sgT [s]]) ++ brT B) ++ (sgT [42] :: (brT C ++ [eT])) := by rw [e5];simp;rfl
  have f6 : M.map nop = (((brT A ++ [sgT [s]]) ++ brT B) ++ [sgT [42]]) ++ (brT C ++ [eT]) := by rw [e5];simp;rfl
  have f7 : M.map nop = (((brT A ++ [sgT [s]]) ++ brT B) ++ [sgT [42]]) ++ (sgT [40] :: (C ++ sgT [41] :: [eT])) := by rw [e5];simp [brT];rfl
  have f8 : M.map nop = ((((brT A ++ [sgT [s]]) ++ brT B) ++ [sgT [42]]) ++ brT C) ++ [eT] := by rw [e5];simp;rfl
  have l1 : (brT A ++ [sgT [s]]).length = (brT A).length + 1 := by simp
  have l2 : (((brT A ++ [sgT [s]]) ++ brT B) ++ [sgT [42]]).length = ((brT A ++ [sgT [s]]) ++ brT B).length + 1 := by simp;omega
  have t1 : TermAt M 0 (brT A).length x := term_atom (atom_in f1 a2 a3 a5) (Or.inr ⟨_,sign_in (pre := brT A) f1,star_not hs⟩)
  have g3 := atom_in f6 c2 c3 c5
  have o2 := sign_in f4
  have o3 := sign_in f7
  rw [l2] at g3 o3
  have t2 := term_mul (atom_in f3 b2 b3 b5) (sign_in f5) o3 g3 (Or.inl (end_in f8))
  rw [l1] at t2 o2
  exact ⟨M,_,_,h5,t1,sums_step (op_s hop) (sign_in (pre := brT A) f1) o2 t2 (sums_end (end_in f8)),end_in f8⟩
theorem mul_reads (ha : IsX a x) (hb : IsX b y) (hc : IsX c z) (hop : (op = 1 ∧ s = 43) ∨ (op = 2 ∧ s = 45)) :
    ∃ M j1 j',lexL true 0 (40 :: (a ++ 10 :: 41 :: 32 :: 42 :: 32 :: 40 :: (b ++ 10 :: 41 :: 32 :: s :: 32 :: 40 :: (c ++ 10 :: 41 :: [])))) = .ok M ∧ TermAt M 0 j1 (twoX 3 x y) ∧ SumsAt M j1 j' (twoX 3 x y) (twoX op (twoX 3 x y) z) ∧ EndAt M j' := by
  obtain ⟨la,A,a1,a2,a3,a4,a5⟩ := ha.toks
  obtain ⟨lb,B,b1,b2,b3,b4,b5⟩ := hb.toks
  obtain ⟨lc,C,c1,c2,c3,c4,c5⟩ := hc.toks
  have hs : s = 43 ∨ s = 45 := by rcases hop with ⟨_,h⟩ | ⟨_,h⟩ <;> simp [h]
  have hs3 : s = 43 ∨ s = 45 ∨ s = 42 := by rcases hs with h | h <;> simp [h]
  obtain ⟨m1,h1,e1⟩ := lex_brT c1 nil_lex
  obtain ⟨m2,h2,e2⟩ := lex_op hs3 h1
  obtain ⟨m3,h3,e3⟩ := lex_brT b1 h2
  obtain ⟨m4,h4,e4⟩ := lex_op (s := 42) (by simp) h3
  obtain ⟨M,h5,e5⟩ := lex_brT a1 h4
  rw [e4,e3,e2,e1,a4,b4,c4] at e5
  have f1 : M.map nop = [] ++ (brT A ++ (sgT [42] :: (brT B ++ (sgT [s] :: (brT C ++ [eT]))))) := e5
  have f3 : M.map nop = (brT A ++ [sgT [42]]) ++ (brT B ++ (sgT [s] :: (brT C ++ [eT]))) := by rw [e5];simp;rfl
  have f4 : M.map nop = (brT A ++ [sgT [42]]) ++ (sgT [40] :: (B ++ sgT [41] :: (sgT [s] :: (brT C ++ [eT])))) := by rw [e5];simp [brT];rfl
  have f5 : M.map nop = ((brT A ++ [sgT [42]]) ++ brT B) ++ (sgT [s] :: (brT C ++ [eT])) := by rw [e5];simp;rfl
  have f6 : M.map nop = (((brT A ++ [sgT [42]]) ++ brT B) ++ [sgT [s]]) ++ (brT C ++ [eT]) := by rw [e5];simp;rfl
  have f7 : M.map nop = (((brT A ++ [sgT [42]]) ++ brT B) ++ [sgT [s]]) ++ (sgT [40] :: (C ++ sgT [41] :: [eT])) := by rw [e5];simp [brT];rfl
  have f8 : M.map nop = ((((brT A ++ [sgT [42]]) ++ brT B) ++ [sgT [s]]) ++ brT C) ++ [eT] := by rw [e5];simp;rfl
  have l1 : (brT A ++ [sgT [42]]).length = (brT A).length + 1 := by simp
  have l2 : (((brT A ++ [sgT [42]]) ++ brT B) ++ [sgT [s]]).length = ((brT A ++ [sgT [42]]) ++ brT B).length + 1 := by simp;omega
  have g2 := atom_in f3 b2 b3 b5
  have o2 := sign_in f4
  rw [l1] at g2 o2
  have t1 : TermAt M 0 ((brT A ++ [sgT [42]]) ++ brT B).length (twoX 3 x y) := term_mul (atom_in f1 a2 a3 a5) (sign_in (pre := brT A) f1) o2 g2 (Or.inr ⟨_,sign_in f5,star_not hs⟩)
  have t3 := term_atom (atom_in f6 c2 c3 c5) (Or.inl (end_in f8))
  have o3 := sign_in f7
  rw [l2] at t3 o3
  exact ⟨M,_,_,h5,t1,sums_step (op_s hop) (sign_in f5) o3 t3 (sums_end (end_in f8)),end_in f8⟩
end
end Go.Proofs.YtpmbamfpmmdhcaaGreat
