/- ref04.Find. -/
import Derived.Test.YtgmdlnobajmjfaaDoorSmR3
import Derived.Test.YtgmdlnobajmjfaaDoorSm5
namespace Go.Proofs.YtgmdlnobajmjfaaDoor
open Go.RowKit
set_option linter.unusedSimpArgs false
set_option linter.unusedVariables false

set_option maxRecDepth 100000 in
set_option maxHeartbeats 8000000 in
theorem rFind {v : List Rs} {l : List Lab} {va vl : Value} {n : Nat} {W : World} (hn : n ≤ W.heap.size) (ha : IsRes n W va v) (hb : IsLabs n W vl l) :
    Calls Tryd.prog 11 #[va, vl] W fun e w' => e = .returned (.tuple #[.agg #[.int .i64 (findR v l).1, .bool (findR v l).2.1], .bool (findR v l).2.2]) ∧ Below W.heap.size W w' := by
  obtain ⟨p, cap, rfl, hc1, hc2⟩ := ha.open
  unfold maxLen at hc2
  have HA := Lib.hid ha; have HB := Lib.hid hb; have HN := Lib.hid hn
  clear ha hb hn
  obtain ⟨N, hN⟩ : ∃ z, v.length = z := ⟨_, rfl⟩
  rw [hN] at HA hc1 ⊢
  have HNL := Lib.hid hN
  clear hN
  have hN2 : (N : Int) ≤ 9223372036854775807 := by omega
  obtain ⟨fr, hfr⟩ : ∃ z, findR v l = z := ⟨_, rfl⟩
  have HFR := Lib.hid hfr
  rw [hfr]
  clear hfr
  obtain ⟨f1, f2, f3⟩ := fr
  simp only
  go_enter Tryd.func11, Tryd.ntmps11; (try simp only [List.append_eq, List.cons_append, List.nil_append])
  go_upto_region 1 with fail
  have hb0 := (Below.refl W.heap.size W).alloc (Nat.le_refl _) (.cells #[.int .i64 0, .bool false] 31)
  have hk := Blk.new W [.int .i64 0, .bool false] 31
  obtain ⟨g, hg⟩ : ∃ z, W.heap.size = z := ⟨_, rfl⟩
  obtain ⟨X, hX⟩ : ∃ z, W.alloc (.cells #[.int .i64 0, .bool false] 31) = z := ⟨_, rfl⟩
  rw [show W.alloc (.cells ([.int .i64 0, .bool false] : List Value).toArray 31) = X from hX] at hk
  rw [hX] at hb0 ⊢
  have HB0 := Lib.hid hb0
  rw [hg] at hk ⊢
  have HK := Lib.hid hk
  clear hX hb0 hk
  have HG := Lib.hid hg
  clear hg
  have HAX := Lib.hid (HA.out.mono (HB0.out.mono HN.out) (Nat.le_refl _)); have HBX := Lib.hid (HB.out.mono (HB0.out.mono HN.out) (Nat.le_refl _))
  have hnX := Nat.le_trans HN.out HB0.out.size
  go_wp2_with fail
  go_loopw [6] (fun s6 wr => ∃ k : Nat, k ≤ N ∧ s6 = .int .i64 k ∧ (∀ j s, v[j]? = some s → j < k → s.labs ≠ l) ∧ Below X.heap.size X wr) (fun s6 _ => N - (intOf s6).toNat)
  case atStart => exact ⟨0, Nat.zero_le _, rfl, fun j s _ h => by omega, Below.refl _ _⟩
  case round =>
    obtain ⟨k, hk, rfl, hno, hb⟩ := hrel
    have HNO := Lib.hid hno; have HBW := Lib.hid hb
    have hsz := hb.size
    clear hno hb
    by_cases hlt : k < N
    · have hki : (k : Int) < (N : Int) := by omega
      obtain ⟨r, hr⟩ : ∃ r, v[k]? = some r := ⟨_, List.getElem?_eq_getElem (by have := HNL.out; omega)⟩
      obtain ⟨b1, o1, q1, c1, rfl, hb1, d0, d1, d2, hl1, -⟩ := (HAX.out.mono (HBW.out.mono hnX) (Nat.le_refl _)).get hr
      have HR := Lib.hid hr
      have HL1 := Lib.hid hl1
      clear hr hl1
      obtain ⟨l1, x1, y1⟩ := r
      simp only at d0 d1 d2 HL1
      obtain ⟨m1, hm1⟩ : ∃ z, l1.length = z := ⟨_, rfl⟩
      rw [hm1] at d0 HL1
      clear hm1
      have hb1w : b1 < wr.heap.size := by omega
      go_wp2_with fail
      refine (rLabels (Nat.le_trans hnX hsz) HL1.out (HBX.out.mono (HBW.out.mono hnX) (Nat.le_refl _))).mono ?_
      rintro e w4 hq
      obtain ⟨rfl, hb4⟩ := hq.below
      have d1 := (hb4.cell (p := ⟨b1, o1 + k * 3 + 1, none⟩) hb1w).trans d1
      have d2 := (hb4.cell (p := ⟨b1, o1 + k * 3 + 2, none⟩) hb1w).trans d2
      have HB4 := Lib.hid (HBW.out.trans (hb4.mono hsz))
      have hb1w : b1 < w4.heap.size := Nat.lt_of_lt_of_le hb1w hb4.size
      clear hb4 hq d0
      by_cases hll : l1 = l
      · rw [decide_eq_true hll]
        obtain ⟨e1, e2, e3⟩ : f1 = x1 ∧ f2 = y1 ∧ f3 = true := by
          have h := HFR.out
          rw [findR_some (findV_step HNO.out HR.out hll)] at h
          simp only [Prod.mk.injEq] at h
          exact ⟨h.1.symm, h.2.1.symm, h.2.2.symm⟩
        subst e1 e2 e3
        clear hll
        have hkg := HK.out.keep HB4.out
        go_wp2_with (refine wpList_store_row rfl 31 _ _ rfl g #[.int .i64 f1, .bool f2] rfl rfl 31 #[.int .i64 0, .bool false] hkg (by kernel_rfl) rfl (by kernel_rfl) ?_)
        (try rw [Exit.noGoto_ret])
        have hrow := hkg.row [.int .i64 f1, .bool f2]
        exact bodyPost_agg_tmp (d := _) rfl rfl hrow Tryd.underlying31 rfl (by kernel_rfl) rfl ⟨rfl, below_setRow (HB0.out.trans (HB4.out.mono HB0.out.size)) (by have := HG.out; omega) _⟩
      · rw [decide_eq_false hll]
        have HLL := Lib.hid hll
        clear hll
        go_wp2
        refine ⟨⟨k + 1, by omega, by go_num, fun j s hs hj => ?_, HB4.out⟩, by simp [intOf]; omega⟩
        rcases Nat.lt_or_ge j k with h1 | h1
        · exact HNO.out j s hs h1
        · have : j = k := by omega
          subst this
          rw [HR.out] at hs; cases hs
          exact HLL.out
    · have hki : ¬ ((k : Int) < (N : Int)) := by omega
      obtain ⟨e1, e2, e3⟩ : f1 = 0 ∧ f2 = false ∧ f3 = false := by
        have h := HFR.out
        rw [findR_none (findV_end fun j s hs hj => HNO.out j s hs (by have := HNL.out; omega))] at h
        simp only [Prod.mk.injEq] at h
        exact ⟨h.1.symm, h.2.1.symm, h.2.2.symm⟩
      subst e1 e2 e3
      have hkg := HK.out.keep HBW.out
      go_wp2_with (refine wpList_store_row rfl 31 _ _ rfl g #[.int .i64 0, .bool false] rfl rfl 31 #[.int .i64 0, .bool false] hkg (by kernel_rfl) rfl (by kernel_rfl) ?_)
      (try rw [Exit.noGoto_ret])
      have hrow := hkg.row [.int .i64 0, .bool false]
      exact bodyPost_agg_tmp (d := _) rfl rfl hrow Tryd.underlying31 rfl (by kernel_rfl) rfl ⟨rfl, below_setRow (HB0.out.trans (HBW.out.mono HB0.out.size)) (by have := HG.out; omega) _⟩
end Go.Proofs.YtgmdlnobajmjfaaDoor
