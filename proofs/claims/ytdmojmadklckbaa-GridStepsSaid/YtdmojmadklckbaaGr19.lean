/- GridSteps: the plain law. No program here. -/
import Derived.Test.YtdmojmadklckbaaGr7
import Derived.Test.YtdmojmadklckbaaGr17
namespace Go.Proofs.Ytdmojmadklckbaa
open Go.RowKit
set_option linter.unusedSimpArgs false
set_option linter.unusedVariables false

theorem tk_le_iff {ev x z : Int} (he : 1 ≤ ev) (h0 : 0 ≤ x) (k : Nat) : tk ev x k ≤ z ↔ x / ev + 1 + k ≤ z / ev := by
  unfold tk t0
  rw [show max 0 x = x by omega, ← Int.add_mul, Int.le_ediv_iff_mul_le (by omega)]
theorem div_bd {ev z : Int} (he : 30 ≤ ev) (h0 : 0 ≤ z) (h2 : z ≤ 100000) : 0 ≤ z / ev ∧ z / ev ≤ 4000 := by
  have h1 : 0 ≤ z / ev := Int.ediv_nonneg h0 (by omega)
  refine ⟨h1, ?_⟩
  have h3 := Int.ediv_mul_le z (show ev ≠ 0 by omega)
  have h4 : z / ev * 30 ≤ z / ev * ev := Int.mul_le_mul_of_nonneg_left he h1
  omega
theorem betL_eq {ev x z : Int} (he : 30 ≤ ev ∧ ev ≤ 1073741824) (h0 : 0 ≤ x) (h1 : x ≤ z) (h2 : z ≤ 100000) : betL ev x z = ticks ev x (z / ev - x / ev).toNat := by
  have hx := div_bd he.1 h0 (by omega)
  have hz := div_bd he.1 (show 0 ≤ z by omega) h2
  have hxz : x / ev ≤ z / ev := Int.ediv_le_ediv (by omega) h1
  obtain ⟨m, hm⟩ : ∃ m : Nat, m = (z / ev - x / ev).toNat := ⟨_, rfl⟩
  have hk : ∀ k : Nat, tk ev x k ≤ z ↔ k < m := fun k => by rw [tk_le_iff (by omega) h0]; omega
  have hmc : m ≤ cntT ev x := by
    by_cases h : m = 0
    · omega
    · have h3 := (hk (m - 1)).2 (by omega)
      have := (tk_lt (ev := ev) (mark := x) (by omega) (by unfold MT; omega) he.2 (k := m - 1)).2 (by unfold MT; omega)
      omega
  rw [← hm]
  unfold betL
  have e1 : ticks ev x (cntT ev x) = ticks ev x m ++ (ticks ev x (cntT ev x)).drop m := by
    rw [← ticks_take ev x hmc, List.take_append_drop]
  rw [e1, takeWhile_stop _ _ (by
    intro y hy
    unfold ticks at hy
    obtain ⟨k, hk1, rfl⟩ := List.mem_map.1 hy
    rw [List.mem_range] at hk1
    exact decide_eq_true ((hk k).2 hk1))]
  have e2 : ((ticks ev x (cntT ev x)).drop m).takeWhile (fun t => decide (t ≤ z)) = [] := by
    cases h : (ticks ev x (cntT ev x)).drop m with
    | nil => rfl
    | cons y ys =>
      have hlt : m < cntT ev x := by
        have := congrArg List.length h
        rw [List.length_drop, ticks_length, List.length_cons] at this
        omega
      have hy : y = tk ev x m := by
        rw [List.drop_eq_getElem_cons (by rw [ticks_length]; exact hlt)] at h
        have := (List.cons.inj h).1
        rw [← this]
        simp [ticks]
      rw [List.takeWhile_cons_of_neg]
      rw [hy]
      have := hk m
      simp; omega
  rw [e2, List.append_nil, List.take_of_length_le (by rw [ticks_length]; omega)]
theorem ticks_append {ev x y : Int} {a : Nat} (h0 : 0 ≤ x) (h1 : 0 ≤ y) (ha : (a : Int) = y / ev - x / ev) : ∀ b : Nat, ticks ev x a ++ ticks ev y b = ticks ev x (a + b)
  | 0 => by simp [ticks]
  | b + 1 => by
    rw [ticks_succ, ← List.append_assoc, ticks_append h0 h1 ha b, ← Nat.add_assoc, ticks_succ]
    congr 2
    unfold tk t0
    rw [show max 0 x = x by omega, show max 0 y = y by omega, ← Int.add_mul, ← Int.add_mul]
    congr 1
    omega
theorem betL_split {ev x y z : Int} (he : 30 ≤ ev ∧ ev ≤ 1073741824) (h0 : 0 ≤ x) (h1 : x ≤ y) (h2 : y ≤ z) (h3 : z ≤ 100000) : betL ev x y ++ betL ev y z = betL ev x z := by
  rw [betL_eq he h0 h1 (by omega), betL_eq he (by omega) h2 h3, betL_eq he h0 (by omega) h3]
  have hxy : x / ev ≤ y / ev := Int.ediv_le_ediv (by omega) h1
  have hyz : y / ev ≤ z / ev := Int.ediv_le_ediv (by omega) h2
  rw [ticks_append h0 (by omega) (by omega)]
  congr 1
  omega
theorem betL_len {ev x z : Int} (he : 30 ≤ ev ∧ ev ≤ 1073741824) (h0 : 0 ≤ x) (h1 : x ≤ z) (h2 : z ≤ 100000) : ((betL ev x z).length : Int) = z / ev - x / ev := by
  have hxz : x / ev ≤ z / ev := Int.ediv_le_ediv (by omega) h1
  rw [betL_eq he h0 h1 h2, ticks_length]
  omega
theorem betL_le (ev x z : Int) : (betL ev x z).length ≤ 4096 := by unfold betL; rw [List.length_take]; omega
/-- What is told of a time between. -/
structure Between (ev t : Int) : Prop where
  pos : 1 ≤ t
  le : t ≤ 100000
  lev : ev ≤ t
  mul : t % ev = 0
  last : lastT ev t = t
  last1 : lastT ev (t - 1) = t - ev
  next : nextT ev (t - 1) = some t
  first : firstT ev (t - 1) = t / ev
theorem betL_at {ev x z t : Int} (he : 30 ≤ ev ∧ ev ≤ 1073741824) (h0 : 0 ≤ x) (h1 : x ≤ z) (h2 : z ≤ 100000) (h : t ∈ betL ev x z) : Between ev t := by
  rw [betL_eq he h0 h1 h2] at h
  unfold ticks at h
  obtain ⟨k, hk, rfl⟩ := List.mem_map.1 h
  rw [List.mem_range] at hk
  have hx := div_bd he.1 h0 (by omega)
  have hle : tk ev x k ≤ z := (tk_le_iff (by omega) h0 k).2 (by omega)
  obtain ⟨c, hc⟩ : ∃ c : Int, c = x / ev + 1 + k := ⟨_, rfl⟩
  have ht : tk ev x k = c * ev := by
    unfold tk t0
    rw [show max 0 x = x by omega, ← Int.add_mul, hc]
  rw [ht] at hle ⊢
  have hc1 : 1 ≤ c := by omega
  have h3 : 1 * ev ≤ c * ev := Int.mul_le_mul_of_nonneg_right hc1 (by omega)
  have hmul : c * ev % ev = 0 := Int.mul_emod_left _ _
  have hm1 : (c * ev - 1) % ev = ev - 1 := by
    rw [show c * ev - 1 = (ev - 1) + ev * (c - 1) by rw [Int.mul_sub, Int.mul_comm ev c]; omega, Int.add_mul_emod_self_left]
    exact Int.emod_eq_of_lt (by omega) (by omega)
  have hok : evOk ev = true := evOk_iff.2 ⟨by omega, he.2⟩
  have hl : lastT ev (c * ev) = c * ev := by
    unfold lastT
    rw [hok, decide_eq_true (by omega : 0 ≤ c * ev), Bool.and_self, if_pos rfl, show min (c * ev) MT = c * ev by unfold MT; omega, hmul]
    omega
  have hl1 : lastT ev (c * ev - 1) = c * ev - ev := by
    unfold lastT
    rw [hok, decide_eq_true (by omega : 0 ≤ c * ev - 1), Bool.and_self, if_pos rfl, show min (c * ev - 1) MT = c * ev - 1 by unfold MT; omega, hm1]
    omega
  have hn : nextT ev (c * ev - 1) = some (c * ev) := by
    have hb := t0_bd (ev := ev) (mark := c * ev - 1) (by omega)
    have e1 : t0 ev (c * ev - 1) = c * ev := by
      have := t0_rem (ev := ev) (mark := c * ev - 1) (by omega)
      rw [this, show max 0 (c * ev - 1) = c * ev - 1 by omega, hm1]
      omega
    unfold nextT
    rw [hok, e1, decide_eq_true (by unfold MT; omega : c * ev - 1 < MT), decide_eq_true (by unfold MT; omega : c * ev ≤ MT)]
    rfl
  have hf : firstT ev (c * ev - 1) = c * ev / ev := by unfold firstT; rw [hn]
  exact ⟨by omega, by omega, by omega, hmul, hl, hl1, hn, hf⟩

/-! ### marks -/
theorem foldl_max_out (l : List Int) (a b : Int) : l.foldl max (max a b) = max (l.foldl max a) b := by
  induction l generalizing a with
  | nil => rfl
  | cons x l ih => rw [List.foldl_cons, List.foldl_cons, ← ih]; congr 1; omega
theorem maxZ_cons (x : Int) (l : List Int) : maxZ (x :: l) = max (maxZ l) x := foldl_max_out l 0 x
theorem maxZ_snoc (l : List Int) (x : Int) : maxZ (l ++ [x]) = max (maxZ l) x := by simp [maxZ, List.foldl_append]
theorem maxZ_reverse (l : List Int) : maxZ l.reverse = maxZ l := by
  induction l with
  | nil => rfl
  | cons x l ih => rw [List.reverse_cons, maxZ_snoc, ih, maxZ_cons]
theorem markT_ok {late : Int} {l : List Int} (h : markE late l = 0) : 0 ≤ late ∧ l.any badT = false ∧ markT late l = max 0 (maxZ l - late) := by
  unfold markE at h
  split at h
  · cases h
  · rename_i hc
    have hb : l.any badT = false := by
      cases hb : l.any badT with
      | false => rfl
      | true => exact (hc (.inr hb)).elim
    refine ⟨?_, hb, ?_⟩
    · by_cases h0 : late < 0
      · exact (hc (.inl h0)).elim
      · omega
    · unfold markT; rw [if_neg hc, maxZ_eq hb]
theorem any_reverse' (l : List Int) : l.reverse.any badT = l.any badT := by
  rw [Bool.eq_iff_iff, List.any_eq_true, List.any_eq_true]; simp
theorem markE_rev (late : Int) (l : List Int) : markE late l.reverse = markE late l := by unfold markE; rw [any_reverse']
theorem markE_01 (late : Int) (l : List Int) : markE late l = 0 ∨ markE late l = 2 := by unfold markE; split <;> simp
theorem markT_rev (late : Int) (l : List Int) : markT late l.reverse = markT late l := by
  by_cases h : markE late l = 0
  · rw [(markT_ok h).2.2, (markT_ok (by rw [markE_rev]; exact h)).2.2, maxZ_reverse]
  · have : late < 0 ∨ l.any badT = true := by
      unfold markE at h
      split at h
      · assumption
      · exact (h rfl).elim
    unfold markT
    rw [any_reverse', if_pos this, if_pos this]
theorem markE_ok {late : Int} {l : List Int} (h0 : 0 ≤ late) (hb : l.any badT = false) : markE late l = 0 := by
  unfold markE; rw [if_neg]; rintro (h | h)
  · omega
  · rw [hb] at h; cases h
theorem mark_more {late : Int} {l : List Int} (h : markE late l = 0) : markE late (l.reverse ++ [7]) = 0 ∧ markT late l ≤ markT late (l.reverse ++ [7]) := by
  obtain ⟨h0, hb, ht⟩ := markT_ok h
  have hb' : (l.reverse ++ [7]).any badT = false := by
    rw [List.any_append, any_reverse', hb]; rfl
  have h1 := markE_ok h0 hb'
  refine ⟨h1, ?_⟩
  rw [ht, (markT_ok h1).2.2, maxZ_snoc, maxZ_reverse]
  omega
theorem mark_half {late : Int} {l : List Int} (h : markE late l = 0) : markE (late / 2) l = 0 ∧ markT late l ≤ markT (late / 2) l := by
  obtain ⟨h0, hb, ht⟩ := markT_ok h
  have h1 := markE_ok (late := late / 2) (by omega) hb
  refine ⟨h1, ?_⟩
  rw [ht, (markT_ok h1).2.2]
  omega

/-! ### what is kept -/
theorem keepTo_foldl (m : Int) (l : List (Int × Ex)) : keepTo m l = (l.flatMap (kp m)).foldl min m := rfl
theorem keepTo_nil (m : Int) : keepTo m [] = m := rfl
theorem keepTo_snoc (m : Int) (l : List (Int × Ex)) (q : Int × Ex) : keepTo m (l ++ [q]) = min (keepTo m l) (keepTo m [q]) := by
  have h := keepTo_le m l
  rw [keepTo_foldl, keepTo_foldl m [q], List.flatMap_append, List.flatMap_cons, List.flatMap_nil, List.append_nil, List.foldl_append, ← keepTo_foldl]
  unfold kp
  split
  · simp only [List.foldl_cons, List.foldl_nil]; omega
  · simp only [List.foldl_nil]; omega
theorem rev_step {l : List Int} {k : Nat} (h : k < l.length) : (l.drop k).reverse = (l.drop (k + 1)).reverse ++ [l[k]] := by
  rw [List.drop_eq_getElem_cons h, List.reverse_cons]
end Go.Proofs.Ytdmojmadklckbaa
