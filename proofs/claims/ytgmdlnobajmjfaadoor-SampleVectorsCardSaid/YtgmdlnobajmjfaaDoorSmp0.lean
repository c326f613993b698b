/- Results and vectors as data: the order of sets of labels, may a vector be, what is found. No program here. -/
import Derived.Test.YtgmdlnobajmjfaaDoorLa0
namespace Go.Proofs.YtgmdlnobajmjfaaDoor
open Go.RowKit
set_option linter.unusedSimpArgs false
set_option linter.unusedVariables false

structure Rs where
  labs : List Lab
  n : Int
  over : Bool
deriving DecidableEq

def cmpW (a b : ByteArray) : Int := if sless a b then -1 else if sless b a then 1 else 0
def cmpLab (a b : Lab) : Int := if cmpW a.name b.name = 0 then cmpW a.text b.text else cmpW a.name b.name
def orderL : List Lab → List Lab → Int
  | [], [] => 0
  | [], _ :: _ => -1
  | _ :: _, [] => 1
  | a :: xs, b :: ys => if cmpLab a b = 0 then orderL xs ys else cmpLab a b
def compareL (a b : List Lab) : Int := if checkL a = 0 ∧ checkL b = 0 then orderL a b else 0
def valB (r : Rs) : Bool := !(r.over && decide (r.n ≠ 0))
def rightR (r : Rs) : Bool := decide (checkL r.labs = 0) && valB r
/-- May the result at this place stand there? -/
def okAt (v : List Rs) (i : Nat) : Bool := match v[i]? with
  | none => false
  | some r => rightR r && (match i with
    | 0 => true
    | j + 1 => match v[j]? with
      | none => false
      | some p => decide (compareL p.labs r.labs < 0))
def checkV (v : List Rs) : Int := if 4096 < v.length then 3 else if upto (okAt v) v.length then 0 else 2

/-! ### the order -/
theorem cmpW_zero {a b : ByteArray} : cmpW a b = 0 ↔ a = b := by
  unfold cmpW
  constructor
  · intro h
    rcases sless_tri a b with h1 | h1 | h1
    · rw [if_pos h1] at h; omega
    · exact h1
    · rw [if_neg (by rw [sless_asymm h1]; simp), if_pos h1] at h; omega
  · rintro rfl
    rw [sless_irrefl]; simp
theorem cmpW_neg {a b : ByteArray} : cmpW a b < 0 ↔ sless a b = true := by
  unfold cmpW
  split
  · rename_i h; simp [h]
  · rename_i h
    split
    · constructor
      · intro h2; omega
      · intro h2; exact absurd h2 h
    · constructor
      · intro h2; omega
      · intro h2; exact absurd h2 h
theorem cmpW_swap (a b : ByteArray) : cmpW b a = - cmpW a b := by
  unfold cmpW
  by_cases h1 : sless a b = true
  · have := sless_asymm h1
    simp [h1, this]
  · by_cases h2 : sless b a = true
    · simp [h1, h2]
    · simp [h1, h2]
theorem cmpW_trans {a b c : ByteArray} (h1 : cmpW a b < 0) (h2 : cmpW b c < 0) : cmpW a c < 0 := cmpW_neg.2 (sless_trans (cmpW_neg.1 h1) (cmpW_neg.1 h2))
theorem cmpLab_zero {a b : Lab} : cmpLab a b = 0 ↔ a = b := by
  unfold cmpLab
  by_cases h : cmpW a.name b.name = 0
  · rw [if_pos h, cmpW_zero]
    have hn := cmpW_zero.1 h
    constructor
    · intro ht; cases a; cases b; simp_all
    · rintro rfl; rfl
  · rw [if_neg h]
    constructor
    · intro h2; exact absurd h2 h
    · rintro rfl; exact absurd (cmpW_zero.2 rfl) h
theorem cmpLab_swap (a b : Lab) : cmpLab b a = - cmpLab a b := by
  unfold cmpLab
  rw [cmpW_swap a.name b.name, cmpW_swap a.text b.text]
  by_cases h : cmpW a.name b.name = 0
  · rw [if_pos h, if_pos (by omega)]
  · rw [if_neg h, if_neg (by omega)]
theorem cmpLab_trans {a b c : Lab} (h1 : cmpLab a b < 0) (h2 : cmpLab b c < 0) : cmpLab a c < 0 := by
  unfold cmpLab at *
  by_cases e1 : cmpW a.name b.name = 0
  · rw [if_pos e1] at h1
    have e1' := cmpW_zero.1 e1
    by_cases e2 : cmpW b.name c.name = 0
    · rw [if_pos e2] at h2
      rw [e1', if_pos e2]
      exact cmpW_trans h1 h2
    · rw [if_neg e2] at h2
      rw [e1', if_neg e2]; exact h2
  · rw [if_neg e1] at h1
    by_cases e2 : cmpW b.name c.name = 0
    · rw [← cmpW_zero.1 e2, if_neg e1]; exact h1
    · rw [if_neg e2] at h2
      have := cmpW_trans h1 h2
      rw [if_neg (by omega)]; exact this
theorem orderL_zero : ∀ {a b : List Lab}, orderL a b = 0 ↔ a = b
  | [], [] => by simp [orderL]
  | [], _ :: _ => by simp [orderL]
  | _ :: _, [] => by simp [orderL]
  | a :: xs, b :: ys => by
    unfold orderL
    by_cases h : cmpLab a b = 0
    · rw [if_pos h, orderL_zero, cmpLab_zero.1 h]; simp
    · rw [if_neg h]
      constructor
      · intro h2; exact absurd h2 h
      · intro h2
        simp only [List.cons.injEq] at h2
        exact absurd (cmpLab_zero.2 h2.1) h
theorem orderL_swap : ∀ (a b : List Lab), orderL b a = - orderL a b
  | [], [] => by simp [orderL]
  | [], _ :: _ => by simp [orderL]
  | _ :: _, [] => by simp [orderL]
  | a :: xs, b :: ys => by
    unfold orderL
    rw [cmpLab_swap a b]
    by_cases h : cmpLab a b = 0
    · rw [if_pos h, if_pos (by omega)]; exact orderL_swap xs ys
    · rw [if_neg h, if_neg (by omega)]
theorem orderL_trans : ∀ {a b c : List Lab}, orderL a b < 0 → orderL b c < 0 → orderL a c < 0
  | [], [], _, h1, h2 => by simp [orderL] at h1
  | [], _ :: _, [], h1, h2 => by simp [orderL] at h2
  | [], _ :: _, _ :: _, h1, h2 => by simp [orderL]
  | _ :: _, [], _, h1, h2 => by simp [orderL] at h1
  | _ :: _, _ :: _, [], h1, h2 => by simp [orderL] at h2
  | a :: xs, b :: ys, c :: zs, h1, h2 => by
    unfold orderL at *
    by_cases e1 : cmpLab a b = 0
    · rw [if_pos e1] at h1
      have e1' := cmpLab_zero.1 e1
      by_cases e2 : cmpLab b c = 0
      · rw [if_pos e2] at h2
        rw [e1', if_pos e2]
        exact orderL_trans h1 h2
      · rw [if_neg e2] at h2
        rw [e1', if_neg e2]; exact h2
    · rw [if_neg e1] at h1
      by_cases e2 : cmpLab b c = 0
      · rw [← cmpLab_zero.1 e2, if_neg e1]; exact h1
      · rw [if_neg e2] at h2
        have := cmpLab_trans h1 h2
        rw [if_neg (by omega)]; exact this
theorem compareL_ok {a b : List Lab} (h1 : checkL a = 0) (h2 : checkL b = 0) : compareL a b = orderL a b := by unfold compareL; rw [if_pos ⟨h1, h2⟩]

/-! ### a vector that may be -/
theorem okAt_right {v : List Rs} {i : Nat} (h : okAt v i = true) {r : Rs} (hr : v[i]? = some r) : rightR r = true := by
  unfold okAt at h
  rw [hr] at h
  simp only [Bool.and_eq_true] at h
  exact h.1
theorem okAt_less {v : List Rs} {i : Nat} (h : okAt v (i + 1) = true) {p r : Rs} (hp : v[i]? = some p) (hr : v[i + 1]? = some r) : compareL p.labs r.labs < 0 := by
  unfold okAt at h
  rw [hr] at h
  simp only [hp, Bool.and_eq_true, decide_eq_true_eq] at h
  exact h.2
theorem checkV_ok {v : List Rs} (h : checkV v = 0) : v.length ≤ 4096 ∧ ∀ i, i < v.length → okAt v i = true := by
  unfold checkV at h
  split at h
  · omega
  · split at h
    · rename_i h1 h2; exact ⟨by omega, fun i hi => upto_iff.1 h2 i hi⟩
    · omega
theorem right_check {r : Rs} (h : rightR r = true) : checkL r.labs = 0 := by unfold rightR at h; simp at h; exact h.1
/-- The labels rise. -/
theorem checkV_rise {v : List Rs} (h : checkV v = 0) : ∀ {j i : Nat} {p r : Rs}, i < j → v[i]? = some p → v[j]? = some r → orderL p.labs r.labs < 0 := by
  have hall := (checkV_ok h).2
  intro j
  induction j with
  | zero => intro i p r hij; omega
  | succ j ih =>
    intro i p r hij hp hr
    have hj : j + 1 < v.length := (List.getElem?_eq_some_iff.1 hr).1
    obtain ⟨q, hq⟩ : ∃ q, v[j]? = some q := ⟨_, List.getElem?_eq_getElem (by omega)⟩
    have h1 := okAt_less (hall (j + 1) hj) hq hr
    rw [compareL_ok (right_check (okAt_right (hall j (by omega)) hq)) (right_check (okAt_right (hall (j + 1) hj) hr))] at h1
    rcases Nat.lt_or_ge i j with h2 | h2
    · exact orderL_trans (ih h2 hp hq) h1
    · have : i = j := by omega
      subst this
      rw [hp] at hq; cases hq; exact h1
theorem checkV_mem {v : List Rs} (h : checkV v = 0) : ∀ r ∈ v, rightR r = true := by
  intro r hr
  obtain ⟨i, hi, rfl⟩ := List.getElem_of_mem hr
  exact okAt_right ((checkV_ok h).2 i hi) (List.getElem?_eq_getElem hi)
def findV (v : List Rs) (l : List Lab) : Option Rs := v.find? fun r => decide (r.labs = l)
theorem findV_at {v : List Rs} (h : checkV v = 0) {i : Nat} {r : Rs} (hr : v[i]? = some r) : findV v r.labs = some r := by
  unfold findV
  cases hf : v.find? (fun x => decide (x.labs = r.labs)) with
  | none =>
    have := List.find?_eq_none.1 hf r (List.mem_of_getElem? hr)
    simp at this
  | some x =>
    have h1 := List.find?_some hf
    obtain ⟨j, hj, hx⟩ := List.getElem_of_mem (List.mem_of_find?_eq_some hf)
    have hxj : v[j]? = some x := by rw [List.getElem?_eq_getElem hj, hx]
    simp only [decide_eq_true_eq] at h1
    rcases Nat.lt_trichotomy j i with h2 | h2 | h2
    · have := checkV_rise h h2 hxj hr
      rw [orderL_zero.2 h1] at this; omega
    · subst h2; rw [hr] at hxj; cases hxj; rfl
    · have := checkV_rise h h2 hr hxj
      rw [orderL_zero.2 h1.symm] at this; omega
theorem findV_some (v : List Rs) (l : List Lab) : (findV v l).isSome = v.any fun r => decide (r.labs = l) := by
  unfold findV
  rw [Bool.eq_iff_iff, List.find?_isSome]
  simp
/-- Where a search in a vector that may be ends. -/
theorem findV_split {v : List Rs} (h : checkV v = 0) {l : List Lab} {k : Nat} (hk : k ≤ v.length) (hs : ∀ j r, v[j]? = some r → (orderL r.labs l < 0 ↔ j < k)) : findV v l = match v[k]? with
    | some r => if orderL r.labs l = 0 then some r else none
    | none => none := by
  unfold findV
  cases hr : v[k]? with
  | none =>
    refine List.find?_eq_none.2 fun x hx => ?_
    obtain ⟨j, hj, rfl⟩ := List.getElem_of_mem hx
    have hkl : v.length ≤ k := List.getElem?_eq_none_iff.1 hr
    have := (hs j v[j] (List.getElem?_eq_getElem hj)).2 (by omega)
    simp only [decide_eq_true_eq]
    intro e
    rw [orderL_zero.2 e] at this; omega
  | some r =>
    by_cases h0 : orderL r.labs l = 0
    · show _ = if orderL r.labs l = 0 then some r else none
      rw [if_pos h0]
      have e := orderL_zero.1 h0
      have := findV_at h hr
      unfold findV at this
      rw [e] at this
      exact this
    · show _ = if orderL r.labs l = 0 then some r else none
      rw [if_neg h0]
      refine List.find?_eq_none.2 fun x hx => ?_
      obtain ⟨j, hj, hx2⟩ := List.getElem_of_mem hx
      have hxj : v[j]? = some x := by rw [List.getElem?_eq_getElem hj, hx2]
      simp only [decide_eq_true_eq]
      intro e
      have hz := orderL_zero.2 e
      have h1 := hs j x hxj
      have h2 : ¬ j < k := fun hlt => by have := h1.2 hlt; omega
      rcases Nat.lt_or_ge k j with h3 | h3
      · have h4 := checkV_rise h h3 hr hxj
        have h5 := hs k r hr
        have h6 : ¬ orderL r.labs l < 0 := fun hlt => by have := h5.1 hlt; omega
        rw [e] at h4
        exact h6 h4
      · have : j = k := by omega
        subst this
        rw [hr] at hxj; cases hxj
        exact h0 hz
end Go.Proofs.YtgmdlnobajmjfaaDoor
