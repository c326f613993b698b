/- Series, their keys, a table of series, in plain lists. No program here. -/
import Derived.Test.YtkheeiipkdeihaaLa0
namespace Go.Proofs.Ytkheeiipkdeihaa
open Go.RowKit
set_option linter.unusedSimpArgs false
set_option linter.unusedVariables false

structure Sr where
  metric : ByteArray
  labs : List Lab
deriving DecidableEq

/-- May a series be? -/
def okS (s : Sr) : Int := if nameB s.metric = true then checkL s.labs else 2
/-- A text of 1 to 255 bytes as it is told. -/
def encT (s : ByteArray) : List UInt8 := 1 :: UInt8.ofNat s.size :: s.data.toList
def encL (l : List Lab) : List UInt8 := (l.map fun x => encT x.name ++ encT x.text).flatten
def keyS (s : Sr) : List UInt8 := encT s.metric ++ encL s.labs
theorem encT_inj {a b : ByteArray} (ha : a.size ≤ 255) (hb : b.size ≤ 255) {r s : List UInt8} (h : encT a ++ r = encT b ++ s) : a = b ∧ r = s := by
  unfold encT at h
  simp only [List.cons_append, List.cons.injEq, true_and] at h
  obtain ⟨h1, h2⟩ := h
  have hs : a.size = b.size := by
    have := congrArg UInt8.toNat h1
    simp only [UInt8.toNat_ofNat'] at this
    omega
  have hl : a.data.toList.length = b.data.toList.length := by
    have e1 : a.data.toList.length = a.size := by simp
    have e2 : b.data.toList.length = b.size := by simp
    omega
  obtain ⟨h3, h4⟩ := List.append_inj h2 hl
  refine ⟨?_, h4⟩
  obtain ⟨⟨a⟩⟩ := a
  obtain ⟨⟨b⟩⟩ := b
  simp at h3
  rw [h3]
theorem encL_inj : ∀ {a b : List Lab}, (∀ x ∈ a, x.name.size ≤ 255 ∧ x.text.size ≤ 255) → (∀ x ∈ b, x.name.size ≤ 255 ∧ x.text.size ≤ 255) → encL a = encL b → a = b
  | [], [], _, _, _ => rfl
  | [], y :: b, _, _, h => by
    unfold encL at h
    simp [encT] at h
  | x :: a, [], _, _, h => by
    unfold encL at h
    simp [encT] at h
  | x :: a, y :: b, ha, hb, h => by
    unfold encL at h
    simp only [List.map_cons, List.flatten_cons, List.append_assoc] at h
    have hx := ha x (by simp)
    have hy := hb y (by simp)
    obtain ⟨h1, h⟩ := encT_inj hx.1 hy.1 h
    obtain ⟨h2, h⟩ := encT_inj hx.2 hy.2 h
    have := encL_inj (a := a) (b := b) (fun z hz => ha z (by simp [hz])) (fun z hz => hb z (by simp [hz])) h
    rw [this]
    obtain ⟨n, t⟩ := x
    obtain ⟨n', t'⟩ := y
    simp only at h1 h2
    rw [h1, h2]
/-- Bounds of what may be. -/
structure FitS (s : Sr) : Prop where
  metric : 1 ≤ s.metric.size ∧ s.metric.size ≤ 24
  few : s.labs.length ≤ 8
  labs : ∀ x ∈ s.labs, (1 ≤ x.name.size ∧ x.name.size ≤ 24) ∧ 1 ≤ x.text.size ∧ x.text.size ≤ 64
theorem rising_fit : ∀ {l : List Lab} {last : ByteArray}, rising last l = true → ∀ x ∈ l, (1 ≤ x.name.size ∧ x.name.size ≤ 24) ∧ 1 ≤ x.text.size ∧ x.text.size ≤ 64
  | [], _, _, x, h => by cases h
  | y :: l, last, h, x, hx => by
    unfold rising at h
    simp only [Bool.and_eq_true] at h
    obtain ⟨⟨h1, -⟩, h3⟩ := h
    rcases List.mem_cons.1 hx with rfl | hx
    · unfold labB at h1
      simp only [Bool.and_eq_true, decide_eq_true_eq] at h1
      exact ⟨nameB_size h1.1.1, h1.1.2, h1.2⟩
    · exact rising_fit h3 x hx
theorem checkL_fit {l : List Lab} (h : checkL l = 0) : l.length ≤ 8 ∧ ∀ x ∈ l, (1 ≤ x.name.size ∧ x.name.size ≤ 24) ∧ 1 ≤ x.text.size ∧ x.text.size ≤ 64 := by
  unfold checkL at h
  split at h
  · cases h
  · rename_i h8
    split at h
    · rename_i hr
      exact ⟨by omega, rising_fit hr⟩
    · cases h
theorem okS_fit {s : Sr} (h : okS s = 0) : FitS s := by
  unfold okS at h
  split at h
  · rename_i hn
    obtain ⟨h1, h2⟩ := checkL_fit h
    exact ⟨nameB_size hn, h1, h2⟩
  · cases h
theorem okS_parts {s : Sr} (h : okS s = 0) : nameB s.metric = true ∧ checkL s.labs = 0 := by
  unfold okS at h
  split at h
  · rename_i hn; exact ⟨hn, h⟩
  · cases h
theorem keyS_inj {a b : Sr} (ha : FitS a) (hb : FitS b) (h : keyS a = keyS b) : a = b := by
  unfold keyS at h
  obtain ⟨h1, h2⟩ := encT_inj (by have := ha.metric; omega) (by have := hb.metric; omega) h
  have h3 := encL_inj (fun x hx => by have := ha.labs x hx; omega) (fun x hx => by have := hb.labs x hx; omega) h2
  obtain ⟨m, l⟩ := a
  obtain ⟨m', l'⟩ := b
  simp only at h1 h3
  rw [h1, h3]
theorem encT_len (s : ByteArray) : (encT s).length = s.size + 2 := by unfold encT; simp
theorem encL_len {l : List Lab} (h : ∀ x ∈ l, x.name.size ≤ 24 ∧ x.text.size ≤ 64) : (encL l).length ≤ 92 * l.length := by
  induction l with
  | nil => simp [encL]
  | cons x l ih =>
    have h1 := h x (by simp)
    have h2 := ih (fun y hy => h y (by simp [hy]))
    unfold encL at h2 ⊢
    simp only [List.map_cons, List.flatten_cons, List.length_append, encT_len, List.length_cons]
    omega
theorem keyS_len {s : Sr} (h : FitS s) : (keyS s).length ≤ 1000 := by
  unfold keyS
  rw [List.length_append, encT_len]
  have h1 := encL_len (l := s.labs) (fun x hx => by have := h.labs x hx; omega)
  have h2 := h.few
  have h3 := h.metric
  omega
/-- Where a series stands in a table; the number of none is nothing. -/
def idxS (s : Sr) : List Sr → Option Nat
  | [] => none
  | x :: T => if x = s then some 0 else (idxS s T).map (· + 1)
theorem idxS_some : ∀ {T : List Sr} {s : Sr} {j : Nat}, idxS s T = some j → T[j]? = some s
  | [], s, j, h => by cases h
  | x :: T, s, j, h => by
    unfold idxS at h
    split at h
    · rename_i hx
      cases h; rw [hx]; rfl
    · cases hq : idxS s T with
      | none => rw [hq] at h; cases h
      | some i =>
        rw [hq] at h
        simp at h
        subst h
        rw [List.getElem?_cons_succ]
        exact idxS_some hq
theorem idxS_none : ∀ {T : List Sr} {s : Sr}, idxS s T = none → s ∉ T
  | [], s, _ => by simp
  | x :: T, s, h => by
    unfold idxS at h
    split at h
    · cases h
    · rename_i hx
      have h1 : idxS s T = none := by
        cases hq : idxS s T with
        | none => rfl
        | some i => rw [hq] at h; cases h
      intro hm
      rcases List.mem_cons.1 hm with rfl | hm
      · exact hx rfl
      · exact idxS_none h1 hm
theorem idxS_snoc : ∀ (T : List Sr) (s t : Sr), idxS t (T ++ [s]) = match idxS t T with
    | some j => some j
    | none => if s = t then some T.length else none
  | [], s, t => by
    simp only [List.nil_append, idxS]
    split <;> simp
  | x :: T, s, t => by
    rw [List.cons_append, idxS, idxS]
    split
    · rfl
    · rw [idxS_snoc T s t]
      cases hq : idxS t T with
      | some j => rfl
      | none =>
        simp only [Option.map_none]
        split <;> simp
theorem idxS_lt {T : List Sr} {s : Sr} {j : Nat} (h : idxS s T = some j) : j < T.length := (List.getElem?_eq_some_iff.1 (idxS_some h)).1
/-- The table behind a series. -/
def putS (T : List Sr) (s : Sr) : List Sr := if okS s = 0 then (match idxS s T with | some _ => T | none => T ++ [s]) else T
def idS (T : List Sr) (s : Sr) : Int := match idxS s T with | some j => (j : Int) + 1 | none => 0
/-- The numbers of a metric's series. -/
def idsFrom (m : ByteArray) : Nat → List Sr → List Int
  | _, [] => []
  | k, x :: T => if x.metric = m then ((k : Int) + 1) :: idsFrom m (k + 1) T else idsFrom m (k + 1) T
def idsOf (m : ByteArray) (T : List Sr) : List Int := idsFrom m 0 T
theorem idsFrom_snoc (m : ByteArray) : ∀ (T : List Sr) (k : Nat) (s : Sr), idsFrom m k (T ++ [s]) = idsFrom m k T ++ if s.metric = m then [((k + T.length : Nat) : Int) + 1] else []
  | [], k, s => by
    simp only [List.nil_append, idsFrom]
    split <;> simp
  | x :: T, k, s => by
    rw [List.cons_append, idsFrom, idsFrom, idsFrom_snoc m T (k + 1) s]
    have e : k + 1 + T.length = k + (x :: T).length := by simp; omega
    rw [e]
    split <;> simp
theorem idsOf_snoc (m : ByteArray) (T : List Sr) (s : Sr) : idsOf m (T ++ [s]) = idsOf m T ++ if s.metric = m then [(T.length : Int) + 1] else [] := by
  unfold idsOf
  rw [idsFrom_snoc]
  simp
theorem idsFrom_bd (m : ByteArray) : ∀ (T : List Sr) (k : Nat), ∀ x ∈ idsFrom m k T, (k : Int) < x ∧ x ≤ (k : Int) + T.length
  | [], _, x, h => by cases h
  | y :: T, k, x, h => by
    unfold idsFrom at h
    have hl : ((y :: T).length : Int) = (T.length : Int) + 1 := by simp
    split at h
    · rcases List.mem_cons.1 h with rfl | h
      · omega
      · have := idsFrom_bd m T (k + 1) x h; omega
    · have := idsFrom_bd m T (k + 1) x h; omega
theorem idsOf_bd {m : ByteArray} {T : List Sr} {x : Int} (h : x ∈ idsOf m T) : 1 ≤ x ∧ x ≤ T.length := by
  have := idsFrom_bd m T 0 x h
  omega
theorem idsFrom_rise (m : ByteArray) : ∀ (T : List Sr) (k : Nat), (idsFrom m k T).Pairwise (· < ·)
  | [], _ => List.Pairwise.nil
  | y :: T, k => by
    unfold idsFrom
    split
    · refine List.pairwise_cons.2 ⟨fun x hx => ?_, idsFrom_rise m T (k + 1)⟩
      have := idsFrom_bd m T (k + 1) x hx
      omega
    · exact idsFrom_rise m T (k + 1)
theorem idsOf_rise (m : ByteArray) (T : List Sr) : (idsOf m T).Pairwise (· < ·) := idsFrom_rise m T 0
theorem idsFrom_len (m : ByteArray) : ∀ (T : List Sr) (k : Nat), (idsFrom m k T).length ≤ T.length
  | [], _ => Nat.le_refl _
  | y :: T, k => by
    unfold idsFrom
    have := idsFrom_len m T (k + 1)
    split <;> simp <;> omega
theorem idsOf_len (m : ByteArray) (T : List Sr) : (idsOf m T).length ≤ T.length := idsFrom_len m T 0
theorem putS_bad {T : List Sr} {s : Sr} (h : okS s ≠ 0) : putS T s = T := by unfold putS; rw [if_neg h]
theorem putS_old {T : List Sr} {s : Sr} {j : Nat} (h : okS s = 0) (hj : idxS s T = some j) : putS T s = T := by unfold putS; rw [if_pos h, hj]
theorem putS_new {T : List Sr} {s : Sr} (h : okS s = 0) (hj : idxS s T = none) : putS T s = T ++ [s] := by unfold putS; rw [if_pos h, hj]
/-- All that a table has may be, each once. -/
structure GoodT (T : List Sr) : Prop where
  ok : ∀ s ∈ T, okS s = 0
theorem GoodT.snoc {T : List Sr} (h : GoodT T) {s : Sr} (hs : okS s = 0) : GoodT (T ++ [s]) := ⟨fun x hx => by
  rcases List.mem_append.1 hx with hx | hx
  · exact h.ok x hx
  · simp at hx; subst hx; exact hs⟩
end Go.Proofs.Ytkheeiipkdeihaa
