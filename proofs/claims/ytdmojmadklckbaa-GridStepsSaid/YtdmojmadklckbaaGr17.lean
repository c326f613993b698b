/- GridNeeds: the plain law. No program here. -/
import Derived.Test.YtdmojmadklckbaaGr11
namespace Go.Proofs.Ytdmojmadklckbaa
open Go.RowKit
set_option linter.unusedSimpArgs false
set_option linter.unusedVariables false

theorem nextT_some {ev m : Int} (he : 1 ≤ ev ∧ ev ≤ 1073741824) (h0 : 0 ≤ m) (h1 : m ≤ 4000) : nextT ev m = some (t0 ev m) := by
  have hb := t0_bd (ev := ev) (mark := m) he.1
  unfold nextT
  rw [if_pos]
  simp only [Bool.and_eq_true, decide_eq_true_eq, evOk_iff]
  unfold MT
  omega
/-- What comes next is the least multiple above the mark. -/
theorem t0_least {ev m t : Int} (he : 1 ≤ ev) (h0 : 0 ≤ m) (ht : m < t) (hd : t % ev = 0) : t0 ev m ≤ t := by
  obtain ⟨c, rfl⟩ := Int.dvd_of_emod_eq_zero hd
  have hc : m / ev < c := Int.ediv_lt_of_lt_mul (by omega) (by rw [Int.mul_comm]; exact ht)
  unfold t0
  rw [show max 0 m = m by omega, Int.mul_comm]
  exact Int.mul_le_mul_of_nonneg_left (by omega) (by omega)
theorem t0_mult (ev m : Int) : t0 ev m % ev = 0 := by unfold t0; exact Int.mul_emod_left _ _
theorem t0_mono {ev m m' : Int} (he : 1 ≤ ev) (h0 : 0 ≤ m) (h : m ≤ m') : t0 ev m ≤ t0 ev m' :=
  t0_least he h0 (by have := t0_bd (ev := ev) (mark := m') he; omega) (t0_mult _ _)
theorem check_ev {ev : Int} {e : Ex} (h : checkQuery ev e = 0) : 1 ≤ ev ∧ ev ≤ 1073741824 := by
  unfold checkQuery at h
  split at h
  · assumption
  · cases h
/-- Some time of the grid, up to the k-th, has it in a window. -/
def someTo (ev : Int) (e : Ex) (mark time : Int) (k : Nat) : Bool := (List.range k).any fun j => decide (mark < (j : Int) + 1) && decide (((j : Int) + 1) % ev = 0) && inW e.hor ((j : Int) + 1) time
theorem someTo_succ (ev : Int) (e : Ex) (mark time : Int) (k : Nat) : someTo ev e mark time (k + 1) = (someTo ev e mark time k || (decide (mark < (k : Int) + 1) && decide (((k : Int) + 1) % ev = 0) && inW e.hor ((k : Int) + 1) time)) := by
  unfold someTo; rw [List.range_succ, List.any_append, List.any_cons, List.any_nil, Bool.or_false]
theorem wrap64_id {x : Int} (h : i64 x) : wrap64 x = x := by unfold i64 at h; unfold wrap64; omega
theorem needed_eq {ev : Int} {e : Ex} {mark time : Int} (hc : checkQuery ev e = 0) (hm : 0 ≤ mark ∧ mark ≤ 3000) (ht : 1 ≤ time ∧ time ≤ 3000) : neededT ev e mark time = inW e.hor (t0 ev (max mark (time - 1))) time := by
  unfold neededT
  rw [wrap64_id (by unfold i64; omega), nextT_some (check_ev hc) (by omega) (by omega), hc]
  simp
theorem needs_some {ev : Int} {e : Ex} {mark time : Int} (hc : checkQuery ev e = 0) (hh : e.hor ≤ 200) (hm : 0 ≤ mark ∧ mark ≤ 2000) (ht : 1 ≤ time ∧ time ≤ 2000) {N : Nat} (hN : (N : Int) = time + 300) : neededT ev e mark time = someTo ev e mark time N := by
  have he := check_ev hc
  rw [needed_eq hc (by omega) (by omega), Bool.eq_iff_iff]
  have hb := t0_bd (ev := ev) (mark := max mark (time - 1)) he.1
  unfold someTo
  rw [List.any_eq_true]
  constructor
  · intro h
    have h' := h
    unfold inW at h'
    simp only [decide_eq_true_eq] at h'
    have e1 : (((t0 ev (max mark (time - 1)) - 1).toNat : Nat) : Int) + 1 = t0 ev (max mark (time - 1)) := by omega
    refine ⟨(t0 ev (max mark (time - 1)) - 1).toNat, by rw [List.mem_range]; omega, ?_⟩
    rw [e1, h, t0_mult]
    simp; omega
  · rintro ⟨j, hj, h⟩
    simp only [Bool.and_eq_true, decide_eq_true_eq] at h
    obtain ⟨⟨h1, h2⟩, h3⟩ := h
    have h3' := h3
    unfold inW at h3' ⊢
    simp only [decide_eq_true_eq] at h3' ⊢
    have := t0_least he.1 (m := max mark (time - 1)) (by omega) (by omega) h2
    omega
theorem keepT_some {ev : Int} {e : Ex} {m : Int} (hc : checkQuery ev e = 0) (hm : 0 ≤ m ∧ m ≤ 3000) : keepT ev e m = min m (max 0 (t0 ev m - e.hor)) := by
  unfold keepT; rw [nextT_some (check_ev hc) hm.1 (by omega)]
theorem foldl_min_mem (l : List Int) (a : Int) : l.foldl min a = a ∨ l.foldl min a ∈ l := by
  induction l generalizing a with
  | nil => exact .inl rfl
  | cons x l ih =>
    rw [List.foldl_cons]
    rcases ih (min a x) with h | h
    · rw [h]
      rcases Int.le_total a x with h' | h'
      · left; omega
      · right; rw [show min a x = x by omega]; simp
    · right; simp [h]
theorem foldl_min_le_mem {l : List Int} {a x : Int} (h : x ∈ l) : l.foldl min a ≤ x := by
  induction l generalizing a with
  | nil => cases h
  | cons y l ih =>
    rw [List.foldl_cons]
    rcases List.mem_cons.1 h with rfl | h
    · have := foldl_min_le l (min a x); omega
    · exact ih h
theorem keepTo_le_q {m : Int} {l : List (Int × Ex)} {q : Int × Ex} (hq : q ∈ l) (hc : checkQuery q.1 q.2 = 0) : keepTo m l ≤ keepT q.1 q.2 m :=
  foldl_min_le_mem (List.mem_flatMap.2 ⟨q, hq, by unfold kp; rw [if_pos hc]; simp⟩)
theorem keepTo_is (m : Int) (l : List (Int × Ex)) : keepTo m l = m ∨ ∃ q ∈ l, checkQuery q.1 q.2 = 0 ∧ keepTo m l = keepT q.1 q.2 m := by
  rcases foldl_min_mem (l.flatMap (kp m)) m with h | h
  · exact .inl h
  · right
    obtain ⟨q, hq, h⟩ := List.mem_flatMap.1 h
    unfold kp at h
    split at h
    · rename_i hc
      exact ⟨q, hq, hc, List.mem_singleton.1 h⟩
    · simp at h
theorem keepTo_ge2 {m b : Int} {l : List (Int × Ex)} (hb : b ≤ m) (h : ∀ q ∈ l, checkQuery q.1 q.2 = 0 → b ≤ keepT q.1 q.2 m) : b ≤ keepTo m l := by
  refine foldl_min_ge hb fun x hx => ?_
  obtain ⟨q, hq, hx⟩ := List.mem_flatMap.1 hx
  unfold kp at hx
  split at hx
  · rename_i hc
    simp at hx; subst hx; exact h q hq hc
  · simp at hx
theorem keepTo_nonneg {m : Int} (hm : 0 ≤ m ∧ m ≤ 3000) (l : List (Int × Ex)) : 0 ≤ keepTo m l :=
  keepTo_ge2 hm.1 fun q _ hc => by rw [keepT_some hc hm]; omega
/-- What is let go is never needed again. -/
theorem kept_not {mark later x : Int} {l : List (Int × Ex)} (hm : 0 ≤ mark) (hl : mark ≤ later ∧ later ≤ 3000) (hx : 1 ≤ x ∧ x ≤ keepTo mark l) : ∀ q ∈ l, neededT q.1 q.2 later x = false := by
  intro q hq
  by_cases hc : checkQuery q.1 q.2 = 0
  · have h1 := keepTo_le_q (m := mark) hq hc
    have h2 := keepTo_le mark l
    rw [keepT_some hc (by omega)] at h1
    have h3 := t0_mono (ev := q.1) (check_ev hc).1 hm hl.1
    rw [needed_eq hc (by omega) (by omega), show max later (x - 1) = later by omega]
    unfold inW
    simp only [decide_eq_false_iff_not]
    omega
  · unfold neededT; simp [hc]
/-- What is next is needed, or above the mark. -/
theorem kept_next {mark : Int} {l : List (Int × Ex)} (hm : 0 ≤ mark ∧ mark ≤ 2000) : keepTo mark l = mark ∨ ∃ q ∈ l, neededT q.1 q.2 mark (keepTo mark l + 1) = true := by
  have h2 := keepTo_le mark l
  have h0 := keepTo_nonneg (m := mark) (by omega) l
  rcases keepTo_is mark l with h | ⟨q, hq, hc, h⟩
  · exact .inl h
  · by_cases hlt : keepTo mark l = mark
    · exact .inl hlt
    · right
      refine ⟨q, hq, ?_⟩
      rw [needed_eq hc (by omega) (by omega), show max mark (keepTo mark l + 1 - 1) = mark by omega]
      rw [keepT_some hc (by omega)] at h
      have := t0_bd (ev := q.1) (mark := mark) (check_ev hc).1
      unfold inW
      simp only [decide_eq_true_eq]
      omega
theorem keepTo_mono {mark later : Int} {l : List (Int × Ex)} (hm : 0 ≤ mark) (hl : mark ≤ later ∧ later ≤ 3000) : keepTo mark l ≤ keepTo later l := by
  refine keepTo_ge2 (by have := keepTo_le mark l; omega) fun q hq hc => ?_
  have h1 := keepTo_le_q (m := mark) hq hc
  rw [keepT_some hc (by omega)] at h1 ⊢
  have h3 := t0_mono (ev := q.1) (check_ev hc).1 hm hl.1
  omega
end Go.Proofs.Ytdmojmadklckbaa
