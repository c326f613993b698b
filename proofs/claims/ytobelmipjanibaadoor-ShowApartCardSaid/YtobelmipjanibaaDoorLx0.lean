/- Tokens of a text, as plain functions on bytes. No program here. -/
import Derived.Test.YtobelmipjanibaaDoorBase
namespace Go.Proofs.YtobelmipjanibaaDoor
open Go.RowKit
set_option linter.unusedSimpArgs false
set_option linter.unusedVariables false

def letC (c : UInt8) : Bool := (97 ≤ c && c ≤ 122) || c == 95
def dgC (c : UInt8) : Bool := 48 ≤ c && c ≤ 57
def wordC (c : UInt8) : Bool := letC c || dgC c
def blankC (c : UInt8) : Bool := c == 32 || c == 9 || c == 10 || c == 13
def notNl (c : UInt8) : Bool := c != 10
def hexC (c : UInt8) : Bool := dgC c || (97 ≤ c && c ≤ 102)
/-- What a digit of sixteen tells. -/
def hexV (c : UInt8) : Nat := if dgC c then c.toNat - 48 else c.toNat - 87
def signC (c : UInt8) : Bool := c == 60 || c == 62 || c == 43 || c == 45 || c == 42 || c == 61 || c == 40 || c == 41 || c == 123 || c == 125 || c == 91 || c == 93 || c == 44 || c == 58
def pairC (c : UInt8) : Bool := c == 61 || c == 33 || c == 60 || c == 62
/-- Has a list a first one that is so? -/
def headIs (p : UInt8 → Bool) : List UInt8 → Bool
  | [] => false
  | c :: _ => p c
/-- How many from the front on are so. -/
def runN (p : UInt8 → Bool) : List UInt8 → Nat
  | [] => 0
  | c :: r => if p c then runN p r + 1 else 0

/-- A text behind its opening quote: what it tells, and how many bytes it has to its closing quote, that one too. -/
def textAt : List UInt8 → Option (List UInt8 × Nat)
  | [] => none
  | [c] => if c == 34 then some ([], 1) else none
  | [c, d] =>
    if c == 34 then some ([], 1)
    else if c < 32 || 126 < c then none
    else if c == 92 then (if d == 92 || d == 34 then (textAt []).map fun x => (d :: x.1, x.2 + 2) else none)
    else (textAt [d]).map fun x => (c :: x.1, x.2 + 1)
  | [c, d, a] =>
    if c == 34 then some ([], 1)
    else if c < 32 || 126 < c then none
    else if c == 92 then (if d == 92 || d == 34 then (textAt [a]).map fun x => (d :: x.1, x.2 + 2) else none)
    else (textAt [d, a]).map fun x => (c :: x.1, x.2 + 1)
  | c :: d :: a :: b :: r =>
    if c == 34 then some ([], 1)
    else if c < 32 || 126 < c then none
    else if c == 92 then
      (if d == 92 || d == 34 then (textAt (a :: b :: r)).map fun x => (d :: x.1, x.2 + 2)
       else if d == 120 && hexC a && hexC b then (textAt r).map fun x => (UInt8.ofNat (16 * hexV a + hexV b) :: x.1, x.2 + 4) else none)
    else (textAt (d :: a :: b :: r)).map fun x => (c :: x.1, x.2 + 1)

/-- The number that digits tell. -/
def decV (l : List UInt8) : Nat := l.foldl (fun n c => n * 10 + (c.toNat - 48)) 0
/-- Is the text of digits, - ahead or not, a number? -/
def wholeOk : List UInt8 → Bool
  | [] => false
  | c :: r =>
    if c == 45 then r != [] && !headIs (· == 48) r && decide (decV r ≤ 9223372036854775808)
    else (!(c == 48) || r == []) && decide (decV (c :: r) < 9223372036854775808)
def wholeV : List UInt8 → Int
  | [] => 0
  | c :: r => if c == 45 then -(decV r : Int) else decV (c :: r)

structure Tok where
  kind : Int
  text : List UInt8
  num : Int
  pos : Int
deriving DecidableEq

def Tok.free (t : Tok) : Bool := t.kind == 4 && t.text != [41] && t.text != [93] && t.text != [125]

/-- A sign at the front. -/
def signAt : List UInt8 → Option (Tok × Nat)
  | [] => none
  | c :: r => if pairC c && headIs (· == 61) r then some (⟨4, [c, 61], 0, 0⟩, 2) else if signC c then some (⟨4, [c], 0, 0⟩, 1) else none

/-- The token at the front (its place 0), and how many bytes it has. -/
def tokAt (free : Bool) : List UInt8 → Option (Tok × Nat)
  | [] => none
  | c :: r =>
    if letC c then (if runN wordC r + 1 ≤ 24 then some (⟨1, (c :: r).take (runN wordC r + 1), 0, 0⟩, runN wordC r + 1) else none)
    else if c == 34 then
      match textAt r with
      | some (x, n) => if x.length ≤ 64 then some (⟨3, x, 0, 0⟩, n + 1) else none
      | none => none
    else if dgC c || (c == 45 && free && headIs dgC r) then
      (if wholeOk ((c :: r).take (runN dgC r + 1)) && !headIs letC (r.drop (runN dgC r)) then
        some (⟨2, (c :: r).take (runN dgC r + 1), wholeV ((c :: r).take (runN dgC r + 1)), 0⟩, runN dgC r + 1) else none)
    else signAt (c :: r)

/-- All tokens of a text that begins at a place; or where it is wrong. -/
def scan : Nat → Bool → Nat → List UInt8 → Except Nat (List Tok)
  | 0, _, at', _ => .error at'
  | _ + 1, _, at', [] => .ok [⟨5, [], 0, at'⟩]
  | f + 1, free, at', c :: r =>
    if blankC c then scan f free (at' + 1) r
    else if c == 35 then scan f free (at' + (runN notNl r + 1)) (r.drop (runN notNl r))
    else match tokAt free (c :: r) with
      | none => .error at'
      | some (t, n) =>
        match scan f t.free (at' + n) ((c :: r).drop n) with
        | .ok l => .ok ({ t with pos := at' } :: l)
        | .error a => .error a
def lexL (free : Bool) (at' : Nat) (r : List UInt8) : Except Nat (List Tok) := scan (r.length + 1) free at' r

/-! ### runs -/
theorem runN_le (p : UInt8 → Bool) : ∀ l, runN p l ≤ l.length
  | [] => Nat.le_refl _
  | c :: r => by have := runN_le p r; simp only [runN]; split <;> simp <;> omega
theorem runN_all (p : UInt8 → Bool) : ∀ l : List UInt8, (l.take (runN p l)).all p = true
  | [] => rfl
  | c :: r => by
    simp only [runN]
    split
    · rename_i h; simp [h]; have := runN_all p r; rw [List.all_eq_true] at this; exact this
    · simp
theorem runN_stop (p : UInt8 → Bool) : ∀ l : List UInt8, headIs p (l.drop (runN p l)) = false
  | [] => rfl
  | c :: r => by
    simp only [runN]
    split
    · simp; exact runN_stop p r
    · rename_i h; simp [headIs]; simpa using h
theorem runN_eq {p : UInt8 → Bool} : ∀ {l : List UInt8} {n : Nat}, n ≤ l.length → (l.take n).all p = true → headIs p (l.drop n) = false → runN p l = n
  | [], n, h, _, _ => by simp at h; simp [runN, h]
  | c :: r, 0, _, _, h => by simp [headIs] at h; simp [runN, h]
  | c :: r, n + 1, hn, ha, hs => by
    simp only [List.take_succ_cons, List.all_cons, Bool.and_eq_true] at ha
    simp only [runN, ha.1, if_true]
    rw [runN_eq (by simpa using hn) ha.2 (by simpa using hs)]
theorem runN_app {p : UInt8 → Bool} : ∀ (l : List UInt8) {x : UInt8} (t : List UInt8), p x = false → runN p (l ++ x :: t) = runN p l
  | [], x, t, h => by simp [runN, h]
  | c :: r, x, t, h => by
    simp only [List.cons_append, runN]
    rw [runN_app r t h]

/-! ### textAt, one byte after the other -/
theorem textAt_quote (r : List UInt8) : textAt (34 :: r) = some ([], 1) := by
  match r with
  | [] | [_] | [_, _] | _ :: _ :: _ :: _ => simp [textAt]
theorem textAt_bad {c : UInt8} (r : List UInt8) (h : c ≠ 34) (hb : c < 32 ∨ 126 < c) : textAt (c :: r) = none := by
  match r with
  | [] | [_] | [_, _] | _ :: _ :: _ :: _ => simp [textAt, h, hb]
theorem textAt_plain {c : UInt8} (r : List UInt8) (h : c ≠ 34) (h1 : 32 ≤ c) (h2 : c ≤ 126) (h3 : c ≠ 92) : textAt (c :: r) = (textAt r).map fun x => (c :: x.1, x.2 + 1) := by
  have hb : ¬ (c < 32 ∨ 126 < c) := by rintro (h | h) <;> simp [UInt8.lt_iff_toNat_lt, UInt8.le_iff_toNat_le] at * <;> omega
  match r with
  | [] => simp [textAt, h]
  | [_] | [_, _] | _ :: _ :: _ :: _ => simp [textAt, h, hb, h3]
theorem textAt_esc {d : UInt8} (r : List UInt8) (h : d = 92 ∨ d = 34) : textAt (92 :: d :: r) = (textAt r).map fun x => (d :: x.1, x.2 + 2) := by
  match r with
  | [] | [_] | _ :: _ :: _ => simp [textAt, h]
theorem textAt_hex {a b : UInt8} (r : List UInt8) (ha : hexC a = true) (hb : hexC b = true) : textAt (92 :: 120 :: a :: b :: r) = (textAt r).map fun x => (UInt8.ofNat (16 * hexV a + hexV b) :: x.1, x.2 + 4) := by
  simp [textAt, ha, hb]
theorem textAt_no {r : List UInt8} (h : headIs (fun d => d == 92 || d == 34) r = false) (h' : ∀ a b r', r = 120 :: a :: b :: r' → hexC a = false ∨ hexC b = false) : textAt (92 :: r) = none := by
  match r, h, h' with
  | [], _, _ => simp [textAt]
  | [d], h, _ => simp [headIs] at h; simp [textAt, h]
  | [d, a], h, _ => simp [headIs] at h; simp [textAt, h]
  | d :: a :: b :: r', h, h' =>
    simp [headIs] at h
    simp [textAt, h]
    intro hd
    subst hd
    rcases h' a b r' rfl with h1 | h1 <;> simp [h1]
theorem textAt_nil : textAt [] = none := rfl

/-- A text is shown by going on: a rule of induction along textAt's own steps. -/
theorem textAt_ind {P : List UInt8 → Prop} (h : ∀ l, (∀ l', l'.length < l.length → P l') → P l) (l : List UInt8) : P l := by
  have : ∀ n, ∀ l : List UInt8, l.length = n → P l := by
    intro n
    induction n using Nat.strongRecOn with
    | ind n ih => exact fun l hl => h l fun l' hl' => ih l'.length (by omega) l' rfl
  exact this _ l rfl

theorem tokAt_pos {free : Bool} {l : List UInt8} {t : Tok} {n : Nat} (h : tokAt free l = some (t, n)) : 0 < n := by
  unfold tokAt at h
  split at h
  · cases h
  · repeat' split at h
    all_goals first
      | (cases h; done)
      | (simp only [Option.some.injEq, Prod.mk.injEq] at h; obtain ⟨-, rfl⟩ := h; omega)
      | skip
    unfold signAt at h
    simp only at h
    repeat' split at h
    all_goals first
      | (cases h; done)
      | (simp only [Option.some.injEq, Prod.mk.injEq] at h; obtain ⟨-, rfl⟩ := h; omega)
theorem tokAt_place {free : Bool} {l : List UInt8} {t : Tok} {n : Nat} (h : tokAt free l = some (t, n)) : t.pos = 0 := by
  unfold tokAt at h
  split at h
  · cases h
  · repeat' split at h
    all_goals first
      | (cases h; done)
      | (simp only [Option.some.injEq, Prod.mk.injEq] at h; obtain ⟨rfl, -⟩ := h; rfl)
      | skip
    unfold signAt at h
    simp only at h
    repeat' split at h
    all_goals first
      | (cases h; done)
      | (simp only [Option.some.injEq, Prod.mk.injEq] at h; obtain ⟨rfl, -⟩ := h; rfl)

/-! ### scan does not hang on its fuel -/
theorem scan_fuel : ∀ (f g : Nat) (free : Bool) (at' : Nat) (r : List UInt8), r.length < f → r.length < g → scan f free at' r = scan g free at' r := by
  intro f
  induction f with
  | zero => intro _ _ _ r h; omega
  | succ f ih =>
    intro g free at' r h hg
    obtain ⟨g, rfl⟩ : ∃ k, g = k + 1 := ⟨g - 1, by omega⟩
    cases r with
    | nil => rfl
    | cons c r =>
      simp only [List.length_cons] at h hg
      simp only [scan]
      by_cases hb : blankC c = true
      · simp only [hb, if_true]; exact ih g _ _ _ (by omega) (by omega)
      · by_cases hc : (c == 35) = true
        · simp only [hb, hc, if_true, Bool.false_eq_true, if_false]
          exact ih g _ _ _ (by simp; omega) (by simp; omega)
        · simp only [hb, hc, Bool.false_eq_true, if_false]
          cases ht : tokAt free (c :: r) with
          | none => rfl
          | some x =>
            obtain ⟨t, n⟩ := x
            have hn := tokAt_pos ht
            simp only
            rw [ih g t.free (at' + n) ((c :: r).drop n) (by simp; omega) (by simp; omega)]
theorem lexL_nil (free : Bool) (at' : Nat) : lexL free at' [] = .ok [⟨5, [], 0, at'⟩] := rfl
theorem lexL_blank {c : UInt8} (free : Bool) (at' : Nat) (r : List UInt8) (h : blankC c = true) : lexL free at' (c :: r) = lexL free (at' + 1) r := by
  unfold lexL; simp [scan, h]
theorem lexL_note (free : Bool) (at' : Nat) (r : List UInt8) : lexL free at' (35 :: r) = lexL free (at' + (runN notNl r + 1)) (r.drop (runN notNl r)) := by
  unfold lexL
  have h : blankC 35 = false := by decide
  simp only [List.length_cons, scan, h, Bool.false_eq_true, if_false, beq_self_eq_true, if_true]
  exact scan_fuel _ _ _ _ _ (by simp; omega) (by omega)
theorem lexL_bad {c : UInt8} {free : Bool} (at' : Nat) {r : List UInt8} (h : blankC c = false) (h2 : c ≠ 35) (ht : tokAt free (c :: r) = none) : lexL free at' (c :: r) = .error at' := by
  unfold lexL; simp [scan, h, h2, ht]
theorem lexL_tok {c : UInt8} {free : Bool} (at' : Nat) {r : List UInt8} {t : Tok} {n : Nat} (h : blankC c = false) (h2 : c ≠ 35) (ht : tokAt free (c :: r) = some (t, n)) :
    lexL free at' (c :: r) = (lexL t.free (at' + n) ((c :: r).drop n)).map ({ t with pos := at' } :: ·) := by
  have hn := tokAt_pos ht
  have hb : (c == 35) = false := by simp [h2]
  unfold lexL
  simp only [List.length_cons, scan, h, Bool.false_eq_true, if_false, hb, ht]
  rw [scan_fuel (r.length + 1) (((c :: r).drop n).length + 1) t.free (at' + n) ((c :: r).drop n) (by simp; omega) (by omega)]
  cases scan (((c :: r).drop n).length + 1) t.free (at' + n) ((c :: r).drop n) <;> rfl

end Go.Proofs.YtobelmipjanibaaDoor
