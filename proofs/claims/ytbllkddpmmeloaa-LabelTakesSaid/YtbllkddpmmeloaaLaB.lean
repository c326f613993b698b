/- LabelTakes: the plain law. No program here. -/
import Derived.Test.YtbllkddpmmeloaaLa0
namespace Go.Proofs.Ytbllkddpmmeloaa
open Go.RowKit
set_option linter.unusedSimpArgs false
set_option linter.unusedVariables false

theorem rising_weaken {a b : ByteArray} {l : List Lab} (hab : sless a b = true) (h : rising b l = true) : rising a l = true := by
  cases l with
  | nil => rfl
  | cons x l =>
    simp only [rising, Bool.and_eq_true] at h ⊢
    exact ⟨⟨h.1.1, sless_trans hab h.1.2⟩, h.2⟩
theorem rising_filter {p : Lab → Bool} {l : List Lab} : ∀ {a : ByteArray}, rising a l = true → rising a (l.filter p) = true := by
  induction l with
  | nil => intro a _; rfl
  | cons x l ih =>
    intro a h
    simp only [rising, Bool.and_eq_true] at h
    cases hx : p x with
    | true =>
      rw [List.filter_cons_of_pos hx]
      simp only [rising, Bool.and_eq_true]
      exact ⟨h.1, ih h.2⟩
    | false =>
      rw [List.filter_cons_of_neg (by simp [hx])]
      exact ih (rising_weaken h.1.2 h.2)
theorem checkL_iff {l : List Lab} : checkL l = 0 ↔ l.length ≤ 8 ∧ rising ByteArray.empty l = true := by
  unfold checkL
  constructor
  · intro h
    split at h
    · cases h
    · split at h
      · exact ⟨by omega, by assumption⟩
      · cases h
  · rintro ⟨h1, h2⟩
    rw [if_neg (by omega), if_pos h2]
theorem checkL_filter {l : List Lab} (p : Lab → Bool) (h : checkL l = 0) : checkL (l.filter p) = 0 := by
  rw [checkL_iff] at h ⊢
  exact ⟨Nat.le_trans (List.length_filter_le _ _) h.1, rising_filter h.2⟩
theorem partL_ok {l : List Lab} (h : checkL l = 0) (names : List ByteArray) (among : Bool) : partL l names among = l.filter fun x => amongB x.name names == among := by unfold partL; rw [if_pos h]
theorem partL_check {l : List Lab} (h : checkL l = 0) (names : List ByteArray) (among : Bool) : checkL (partL l names among) = 0 := by rw [partL_ok h]; exact checkL_filter _ h
theorem part_comm {l : List Lab} (h : checkL l = 0) (a b : List ByteArray) (s t : Bool) : partL (partL l a s) b t = partL (partL l b t) a s := by
  rw [partL_ok (partL_check h _ _), partL_ok (partL_check h _ _), partL_ok h, partL_ok h, List.filter_filter, List.filter_filter]
  congr 1
  funext x
  exact Bool.and_comm _ _
theorem part_none {l : List Lab} (h : checkL l = 0) (a : List ByteArray) : partL (partL l a false) a true = [] := by
  rw [partL_ok (partL_check h _ _), partL_ok h, List.filter_filter, List.filter_eq_nil_iff]
  intro x _
  cases amongB x.name a <;> simp
theorem part_sub {l : List Lab} {names : List ByteArray} {among : Bool} : ∀ x ∈ partL l names among, x ∈ l := by
  intro x hx
  unfold partL at hx
  split at hx
  · exact (List.mem_filter.1 hx).1
  · cases hx
theorem checkMats_iff {l : List Mat} : checkMats l = 0 ↔ l.length ≤ 8 ∧ l.all matB = true := by
  unfold checkMats
  constructor
  · intro h
    split at h
    · cases h
    · split at h
      · exact ⟨by omega, by assumption⟩
      · cases h
  · rintro ⟨h1, h2⟩
    rw [if_neg (by omega), if_pos h2]
theorem takes_append {m n : List Mat} {l : List Lab} (hm : checkMats m = 0) (hn : checkMats n = 0) (hl : m.length + n.length ≤ 8) : takesAll (m ++ n) l = (takesAll m l && takesAll n l) := by
  have h1 := checkMats_iff.1 hm
  have h2 := checkMats_iff.1 hn
  have h3 : checkMats (m ++ n) = 0 := checkMats_iff.2 ⟨by rw [List.length_append]; exact hl, by rw [List.all_append, h1.2, h2.2]; rfl⟩
  unfold takesAll
  rw [hm, hn, h3, List.all_append]
  cases decide (checkL l = 0) <;> simp
/-- The opposite. -/
def opp (m : Mat) : Mat := ⟨3 - m.kind, m.name, m.text⟩
theorem opp_ok {m : Mat} (h : matB m = true) : matB (opp m) = true ∧ (m.kind = 1 ∨ m.kind = 2) := by
  unfold matB at h ⊢
  simp only [Bool.and_eq_true, Bool.or_eq_true, beq_iff_eq, decide_eq_true_eq] at h ⊢
  obtain ⟨⟨h1, h2⟩, h3⟩ := h
  exact ⟨⟨⟨by show 3 - m.kind = 1 ∨ 3 - m.kind = 2; omega, h2⟩, h3⟩, h1⟩
theorem opp_takes {m : Mat} {l : List Lab} (hl : checkL l = 0) (h : matB m = true) : takesAll [opp m] l = !takesAll [m] l := by
  obtain ⟨h1, h2⟩ := opp_ok h
  have c1 : checkMats [m] = 0 := checkMats_iff.2 ⟨by simp, by simp [h]⟩
  have c2 : checkMats [opp m] = 0 := checkMats_iff.2 ⟨by simp, by simp [h1]⟩
  unfold takesAll
  rw [c1, c2, hl]
  simp only [decide_true, Bool.true_and, List.all_cons, List.all_nil, Bool.and_true]
  unfold takesOne opp
  rcases h2 with h2 | h2 <;> rw [h2] <;> cases decide (getL l m.name = m.text) <;> rfl
theorem takes_nil {l : List Lab} (hl : checkL l = 0) : takesAll [] l = true := by unfold takesAll; rw [hl]; rfl
end Go.Proofs.Ytbllkddpmmeloaa
