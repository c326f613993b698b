/- ref04.Same. Printed by wip/gen_smr3.py. -/
import Derived.Test.YtgmdlnobajmjfaaDoorSmR2
namespace Go.Proofs.YtgmdlnobajmjfaaDoor
open Go.RowKit
set_option linter.unusedSimpArgs false
set_option linter.unusedVariables false

set_option maxRecDepth 100000 in
set_option maxHeartbeats 16000000 in
theorem rSame {la lb : List Rs} {va vb : Value} {n : Nat} {W : World} (hn : n ≤ W.heap.size) (ha : IsRes n W va la) (hb : IsRes n W vb lb) :
    Calls Tryd.prog 16 #[va, vb] W fun e w' => e = .returned (.bool (decide (la = lb))) ∧ Below W.heap.size W w' := by
  obtain ⟨p, cap, rfl, hc1, hc2⟩ := ha.open
  obtain ⟨q, cbp, rfl, hd1, hd2⟩ := hb.open
  unfold maxLen at hc2 hd2
  have HA := Lib.hid ha; have HB := Lib.hid hb; have HN := Lib.hid hn
  clear ha hb hn
  obtain ⟨N, hN⟩ : ∃ z, la.length = z := ⟨_, rfl⟩
  obtain ⟨M, hM⟩ : ∃ z, lb.length = z := ⟨_, rfl⟩
  rw [hN] at HA hc1 ⊢
  rw [hM] at HB hd1 ⊢
  have HNL := Lib.hid hN; have HML := Lib.hid hM
  have hN2 : (N : Int) ≤ 9223372036854775807 := by omega
  have hM2 : (M : Int) ≤ 9223372036854775807 := by omega
  clear hN hM
  by_cases hl : N = M
  · subst hl
    have hll : ((N : Int) != (N : Int)) = false := by simp
    go_enter Tryd.func16, Tryd.ntmps16; (try simp only [List.append_eq, List.cons_append, List.nil_append])
    go_wp2
    go_loopw [5] (fun i wr => ∃ k : Nat, k ≤ N ∧ i = .int .i64 k ∧ la.take k = lb.take k ∧ Below W.heap.size W wr) (fun i _ => N - (intOf i).toNat)
    case atStart => exact ⟨0, Nat.zero_le _, rfl, by simp, Below.refl _ _⟩
    case round =>
      obtain ⟨k, hk, rfl, hr, hbl⟩ := hrel
      have HRT := Lib.hid hr; have HBW := Lib.hid hbl
      have hsz := hbl.size
      clear hr hbl
      by_cases hlt : k < N
      · have hki : (k : Int) < (N : Int) := by omega
        have hk0 : (0 : Int) ≤ (k : Int) := by omega
        obtain ⟨r, hr⟩ : ∃ r, la[k]? = some r := ⟨_, List.getElem?_eq_getElem (by have := HNL.out; omega)⟩
        obtain ⟨s, hs⟩ : ∃ r, lb[k]? = some r := ⟨_, List.getElem?_eq_getElem (by have := HML.out; omega)⟩
        obtain ⟨X, hX⟩ : ∃ z, z = wr := ⟨_, rfl⟩
        subst hX
        obtain ⟨b1, o1, q1, c1, rfl, hb1, d0, d1, d2, hl1, -⟩ := (HA.out.mono (HBW.out.mono HN.out) (Nat.le_trans HN.out hsz)).get hr
        obtain ⟨b2, o2, q2, c2, rfl, hb2, e0, e1, e2, hl2, -⟩ := (HB.out.mono (HBW.out.mono HN.out) (Nat.le_trans HN.out hsz)).get hs
        have HL1 := Lib.hid hl1; have HL2 := Lib.hid hl2
        have HRR := Lib.hid hr; have HSS := Lib.hid hs
        clear hr hs hl1 hl2
        obtain ⟨l1, x1, y1⟩ := r
        obtain ⟨l2, x2, y2⟩ := s
        simp only at d0 d1 d2 e0 e1 e2 HL1 HL2
        go_upto_region 6 with fail
        by_cases hll1 : l1 = l2
        · have HEQ := Lib.hid (decide_eq_true hll1)
          have HLL := Lib.hid hll1
          clear hll1
          by_cases hxy : x1 = x2 ∧ y1 = y2
          · have HE := Lib.hid (take_eq_stepR HRT.out HRR.out HSS.out (rs_eq.2 ⟨HLL.out, hxy⟩))
            have HXY := Lib.hid (decide_eq_true hxy)
            clear hxy
            refine wp_region_held_drew (S := fun w => Below X.heap.size X w) (by kernel_rfl) (Below.drew (Below.refl _ _)) (fun hHeld => ?_)
            have HS := Lib.hid (Below.drew (Below.refl X.heap.size X))
            try clear hHeld
            have hSS := HS.out
            obtain ⟨X2, hX2⟩ : ∃ z, X.drew = z := ⟨_, rfl⟩
            rw [hX2] at HS hSS ⊢
            clear hX2
            (refine held_take 0 17 ?_ rfl (by kernel_rfl) (by kernel_rfl) (by kernel_rfl) (by kernel_rfl) (fun _ _ _ h => h) (by kernel_rfl) ?_ (by assumption) ?_; rotate_left; (intro w hSw; clear hSw; go_simp); (try with_reducible rfl); simp only [List.set_cons_zero, List.set_cons_succ])
            (refine held_take 1 18 ?_ rfl (by kernel_rfl) (by kernel_rfl) (by kernel_rfl) (by kernel_rfl) (fun _ _ _ h => h) (by kernel_rfl) ?_ (by assumption) ?_; rotate_left; (intro w hSw; clear hSw; go_simp); (try with_reducible rfl); simp only [List.set_cons_zero, List.set_cons_succ])
            (refine held_take 2 19 (.pointer (some ⟨b1, o1 + k * 3, none⟩)) rfl rfl (by kernel_rfl) (by kernel_rfl) (by kernel_rfl) (fun _ _ _ h => h) (by kernel_rfl) ?_ (by assumption) ?_; (intro w hSw; clear hSw; go_simp); simp only [List.set_cons_zero, List.set_cons_succ])
            (refine held_take 3 20 (.pointer (some ⟨b1, o1 + k * 3, none⟩)) rfl rfl (by kernel_rfl) (by kernel_rfl) (by kernel_rfl) (fun _ _ _ h => h) (by kernel_rfl) ?_ (by assumption) ?_; (intro w hSw; clear hSw; first | rfl | go_simp); simp only [List.set_cons_zero, List.set_cons_succ])
            (refine held_take 4 21 (.slice q1 l1.length c1) rfl rfl (by kernel_rfl) (by kernel_rfl) (by kernel_rfl) (fun _ _ _ h => h) (by kernel_rfl) ?_ (by assumption) ?_; (intro w hSw; have f_d0 := (hSw.cell (p := ⟨b1, o1 + k * 3, none⟩) hb1).trans d0; clear hSw; go_simp); simp only [List.set_cons_zero, List.set_cons_succ])
            (refine held_take 5 22 ?_ rfl (by kernel_rfl) (by kernel_rfl) (by kernel_rfl) (by kernel_rfl) (fun _ _ _ h => h) (by kernel_rfl) ?_ (by assumption) ?_; rotate_left; (intro w hSw; clear hSw; go_simp); (try with_reducible rfl); simp only [List.set_cons_zero, List.set_cons_succ])
            (refine held_take 6 23 ?_ rfl (by kernel_rfl) (by kernel_rfl) (by kernel_rfl) (by kernel_rfl) (fun _ _ _ h => h) (by kernel_rfl) ?_ (by assumption) ?_; rotate_left; (intro w hSw; clear hSw; go_simp); (try with_reducible rfl); simp only [List.set_cons_zero, List.set_cons_succ])
            (refine held_take 7 24 (.pointer (some ⟨b2, o2 + k * 3, none⟩)) rfl rfl (by kernel_rfl) (by kernel_rfl) (by kernel_rfl) (fun _ _ _ h => h) (by kernel_rfl) ?_ (by assumption) ?_; (intro w hSw; clear hSw; go_simp); simp only [List.set_cons_zero, List.set_cons_succ])
            (refine held_take 8 25 (.pointer (some ⟨b2, o2 + k * 3, none⟩)) rfl rfl (by kernel_rfl) (by kernel_rfl) (by kernel_rfl) (fun _ _ _ h => h) (by kernel_rfl) ?_ (by assumption) ?_; (intro w hSw; clear hSw; first | rfl | go_simp); simp only [List.set_cons_zero, List.set_cons_succ])
            (refine held_take 9 26 (.slice q2 l2.length c2) rfl rfl (by kernel_rfl) (by kernel_rfl) (by kernel_rfl) (fun _ _ _ h => h) (by kernel_rfl) ?_ (by assumption) ?_; (intro w hSw; have f_e0 := (hSw.cell (p := ⟨b2, o2 + k * 3, none⟩) hb2).trans e0; clear hSw; go_simp); simp only [List.set_cons_zero, List.set_cons_succ])
            refine wpAnyH_ready (rs := [10]) (by kernel_rfl) (by simp) (.cons rfl (fun K hK => ?_) .nil)
            rw [if_pos (by kernel_rfl)]
            go_simp
            refine (rLabels HS.out.size (HL1.out.mono HS.out (Nat.le_refl _)) (HL2.out.mono HS.out (Nat.le_refl _))).mono ?_
            rintro e w9 hq9
            obtain ⟨rfl, hb9⟩ := hq9.below
            clear hq9
            rw [HEQ.out]
            have HS := Lib.hid (HS.out.trans (hb9.mono HS.out.size))
            clear hb9
            have hSS := HS.out
            refine hK.out _ _ HS.out (fun hHeld => ?_)
            clear hK K
            (try simp only [Act.put, List.setIfInBounds_toArray, List.set_cons_zero, List.set_cons_succ])
            (refine held_take 11 28 ?_ rfl (by kernel_rfl) (by kernel_rfl) (by kernel_rfl) (by kernel_rfl) (fun _ _ _ h => h) (by kernel_rfl) ?_ (by assumption) ?_; rotate_left; (intro w hSw; clear hSw; go_simp); (try with_reducible rfl); simp only [List.set_cons_zero, List.set_cons_succ])
            (refine held_take 12 29 ?_ rfl (by kernel_rfl) (by kernel_rfl) (by kernel_rfl) (by kernel_rfl) (fun _ _ _ h => h) (by kernel_rfl) ?_ (by assumption) ?_; rotate_left; (intro w hSw; clear hSw; go_simp); (try with_reducible rfl); simp only [List.set_cons_zero, List.set_cons_succ])
            (refine held_take 13 30 ?_ rfl (by kernel_rfl) (by kernel_rfl) (by kernel_rfl) (by kernel_rfl) (fun _ _ _ h => h) (by kernel_rfl) ?_ (by assumption) ?_; rotate_left; (intro w hSw; clear hSw; go_simp); (try with_reducible rfl); simp only [List.set_cons_zero, List.set_cons_succ])
            (refine held_take 14 31 ?_ rfl (by kernel_rfl) (by kernel_rfl) (by kernel_rfl) (by kernel_rfl) (fun _ _ _ h => h) (by kernel_rfl) ?_ (by assumption) ?_; rotate_left; (intro w hSw; clear hSw; go_simp); (try with_reducible rfl); simp only [List.set_cons_zero, List.set_cons_succ])
            (refine held_take 15 32 (.pointer (some ⟨b1, o1 + k * 3, none⟩)) rfl rfl (by kernel_rfl) (by kernel_rfl) (by kernel_rfl) (fun _ _ _ h => h) (by kernel_rfl) ?_ (by assumption) ?_; (intro w hSw; clear hSw; go_simp); simp only [List.set_cons_zero, List.set_cons_succ])
            (refine held_take 16 33 (.pointer (some ⟨b1, o1 + k * 3 + 1, none⟩)) rfl rfl (by kernel_rfl) (by kernel_rfl) (by kernel_rfl) (fun _ _ _ h => h) (by kernel_rfl) ?_ (by assumption) ?_; (intro w hSw; clear hSw; first | rfl | go_simp); simp only [List.set_cons_zero, List.set_cons_succ])
            (refine held_take 17 34 (.agg #[.int .i64 x1, .bool y1]) rfl rfl (by kernel_rfl) (by kernel_rfl) (by kernel_rfl) (fun _ _ _ h => h) (by kernel_rfl) ?_ (by assumption) ?_; (intro w hSw; have f_d1 := (hSw.cell (p := ⟨b1, o1 + k * 3 + 1, none⟩) hb1).trans d1; have f_d2 := (hSw.cell (p := ⟨b1, o1 + k * 3 + 2, none⟩) hb1).trans d2; clear hSw; go_simp); simp only [List.set_cons_zero, List.set_cons_succ])
            (refine held_take 18 35 ?_ rfl (by kernel_rfl) (by kernel_rfl) (by kernel_rfl) (by kernel_rfl) (fun _ _ _ h => h) (by kernel_rfl) ?_ (by assumption) ?_; rotate_left; (intro w hSw; clear hSw; go_simp); (try with_reducible rfl); simp only [List.set_cons_zero, List.set_cons_succ])
            (refine held_take 19 36 ?_ rfl (by kernel_rfl) (by kernel_rfl) (by kernel_rfl) (by kernel_rfl) (fun _ _ _ h => h) (by kernel_rfl) ?_ (by assumption) ?_; rotate_left; (intro w hSw; clear hSw; go_simp); (try with_reducible rfl); simp only [List.set_cons_zero, List.set_cons_succ])
            (refine held_take 20 37 (.pointer (some ⟨b2, o2 + k * 3, none⟩)) rfl rfl (by kernel_rfl) (by kernel_rfl) (by kernel_rfl) (fun _ _ _ h => h) (by kernel_rfl) ?_ (by assumption) ?_; (intro w hSw; clear hSw; go_simp); simp only [List.set_cons_zero, List.set_cons_succ])
            (refine held_take 21 38 (.pointer (some ⟨b2, o2 + k * 3 + 1, none⟩)) rfl rfl (by kernel_rfl) (by kernel_rfl) (by kernel_rfl) (fun _ _ _ h => h) (by kernel_rfl) ?_ (by assumption) ?_; (intro w hSw; clear hSw; first | rfl | go_simp); simp only [List.set_cons_zero, List.set_cons_succ])
            (refine held_take 22 39 (.agg #[.int .i64 x2, .bool y2]) rfl rfl (by kernel_rfl) (by kernel_rfl) (by kernel_rfl) (fun _ _ _ h => h) (by kernel_rfl) ?_ (by assumption) ?_; (intro w hSw; have f_e1 := (hSw.cell (p := ⟨b2, o2 + k * 3 + 1, none⟩) hb2).trans e1; have f_e2 := (hSw.cell (p := ⟨b2, o2 + k * 3 + 2, none⟩) hb2).trans e2; clear hSw; go_simp); simp only [List.set_cons_zero, List.set_cons_succ])
            (refine held_take 23 40 (.bool false) rfl rfl (by kernel_rfl) (by kernel_rfl) (by kernel_rfl) (fun _ _ _ h => h) (by kernel_rfl) ?_ (by assumption) ?_; (intro w hSw; clear hSw; exact (neq_step x1 x2 y1 y2 w).trans (by rw [HXY.out]; rfl)); simp only [List.set_cons_zero, List.set_cons_succ])
            (refine held_take 24 41 (.bool false) rfl rfl (by kernel_rfl) (by kernel_rfl) (by kernel_rfl) (fun _ _ _ h => h) (by kernel_rfl) ?_ (by assumption) ?_; (intro w hSw; clear hSw; first | rfl | go_simp); simp only [List.set_cons_zero, List.set_cons_succ])
            refine wpAnyH_done (by kernel_rfl) ?_ _
            go_wp2
            exact ⟨⟨k + 1, by omega, by go_num, HE.out, HBW.out.trans (HS.out.mono HBW.out.size)⟩, by simp [intOf]; omega⟩
          · have HE := Lib.hid (ne_of_atR HRR.out HSS.out (fun e => hxy (rs_eq.1 e).2))
            have HXY := Lib.hid (decide_eq_false hxy)
            clear hxy
            refine wp_region_held_drew (S := fun w => Below X.heap.size X w) (by kernel_rfl) (Below.drew (Below.refl _ _)) (fun hHeld => ?_)
            have HS := Lib.hid (Below.drew (Below.refl X.heap.size X))
            try clear hHeld
            have hSS := HS.out
            obtain ⟨X2, hX2⟩ : ∃ z, X.drew = z := ⟨_, rfl⟩
            rw [hX2] at HS hSS ⊢
            clear hX2
            (refine held_take 0 17 ?_ rfl (by kernel_rfl) (by kernel_rfl) (by kernel_rfl) (by kernel_rfl) (fun _ _ _ h => h) (by kernel_rfl) ?_ (by assumption) ?_; rotate_left; (intro w hSw; clear hSw; go_simp); (try with_reducible rfl); simp only [List.set_cons_zero, List.set_cons_succ])
            (refine held_take 1 18 ?_ rfl (by kernel_rfl) (by kernel_rfl) (by kernel_rfl) (by kernel_rfl) (fun _ _ _ h => h) (by kernel_rfl) ?_ (by assumption) ?_; rotate_left; (intro w hSw; clear hSw; go_simp); (try with_reducible rfl); simp only [List.set_cons_zero, List.set_cons_succ])
            (refine held_take 2 19 (.pointer (some ⟨b1, o1 + k * 3, none⟩)) rfl rfl (by kernel_rfl) (by kernel_rfl) (by kernel_rfl) (fun _ _ _ h => h) (by kernel_rfl) ?_ (by assumption) ?_; (intro w hSw; clear hSw; go_simp); simp only [List.set_cons_zero, List.set_cons_succ])
            (refine held_take 3 20 (.pointer (some ⟨b1, o1 + k * 3, none⟩)) rfl rfl (by kernel_rfl) (by kernel_rfl) (by kernel_rfl) (fun _ _ _ h => h) (by kernel_rfl) ?_ (by assumption) ?_; (intro w hSw; clear hSw; first | rfl | go_simp); simp only [List.set_cons_zero, List.set_cons_succ])
            (refine held_take 4 21 (.slice q1 l1.length c1) rfl rfl (by kernel_rfl) (by kernel_rfl) (by kernel_rfl) (fun _ _ _ h => h) (by kernel_rfl) ?_ (by assumption) ?_; (intro w hSw; have f_d0 := (hSw.cell (p := ⟨b1, o1 + k * 3, none⟩) hb1).trans d0; clear hSw; go_simp); simp only [List.set_cons_zero, List.set_cons_succ])
            (refine held_take 5 22 ?_ rfl (by kernel_rfl) (by kernel_rfl) (by kernel_rfl) (by kernel_rfl) (fun _ _ _ h => h) (by kernel_rfl) ?_ (by assumption) ?_; rotate_left; (intro w hSw; clear hSw; go_simp); (try with_reducible rfl); simp only [List.set_cons_zero, List.set_cons_succ])
            (refine held_take 6 23 ?_ rfl (by kernel_rfl) (by kernel_rfl) (by kernel_rfl) (by kernel_rfl) (fun _ _ _ h => h) (by kernel_rfl) ?_ (by assumption) ?_; rotate_left; (intro w hSw; clear hSw; go_simp); (try with_reducible rfl); simp only [List.set_cons_zero, List.set_cons_succ])
            (refine held_take 7 24 (.pointer (some ⟨b2, o2 + k * 3, none⟩)) rfl rfl (by kernel_rfl) (by kernel_rfl) (by kernel_rfl) (fun _ _ _ h => h) (by kernel_rfl) ?_ (by assumption) ?_; (intro w hSw; clear hSw; go_simp); simp only [List.set_cons_zero, List.set_cons_succ])
            (refine held_take 8 25 (.pointer (some ⟨b2, o2 + k * 3, none⟩)) rfl rfl (by kernel_rfl) (by kernel_rfl) (by kernel_rfl) (fun _ _ _ h => h) (by kernel_rfl) ?_ (by assumption) ?_; (intro w hSw; clear hSw; first | rfl | go_simp); simp only [List.set_cons_zero, List.set_cons_succ])
            (refine held_take 9 26 (.slice q2 l2.length c2) rfl rfl (by kernel_rfl) (by kernel_rfl) (by kernel_rfl) (fun _ _ _ h => h) (by kernel_rfl) ?_ (by assumption) ?_; (intro w hSw; have f_e0 := (hSw.cell (p := ⟨b2, o2 + k * 3, none⟩) hb2).trans e0; clear hSw; go_simp); simp only [List.set_cons_zero, List.set_cons_succ])
            refine wpAnyH_ready (rs := [10]) (by kernel_rfl) (by simp) (.cons rfl (fun K hK => ?_) .nil)
            rw [if_pos (by kernel_rfl)]
            go_simp
            refine (rLabels HS.out.size (HL1.out.mono HS.out (Nat.le_refl _)) (HL2.out.mono HS.out (Nat.le_refl _))).mono ?_
            rintro e w9 hq9
            obtain ⟨rfl, hb9⟩ := hq9.below
            clear hq9
            rw [HEQ.out]
            have HS := Lib.hid (HS.out.trans (hb9.mono HS.out.size))
            clear hb9
            have hSS := HS.out
            refine hK.out _ _ HS.out (fun hHeld => ?_)
            clear hK K
            (try simp only [Act.put, List.setIfInBounds_toArray, List.set_cons_zero, List.set_cons_succ])
            (refine held_take 11 28 ?_ rfl (by kernel_rfl) (by kernel_rfl) (by kernel_rfl) (by kernel_rfl) (fun _ _ _ h => h) (by kernel_rfl) ?_ (by assumption) ?_; rotate_left; (intro w hSw; clear hSw; go_simp); (try with_reducible rfl); simp only [List.set_cons_zero, List.set_cons_succ])
            (refine held_take 12 29 ?_ rfl (by kernel_rfl) (by kernel_rfl) (by kernel_rfl) (by kernel_rfl) (fun _ _ _ h => h) (by kernel_rfl) ?_ (by assumption) ?_; rotate_left; (intro w hSw; clear hSw; go_simp); (try with_reducible rfl); simp only [List.set_cons_zero, List.set_cons_succ])
            (refine held_take 13 30 ?_ rfl (by kernel_rfl) (by kernel_rfl) (by kernel_rfl) (by kernel_rfl) (fun _ _ _ h => h) (by kernel_rfl) ?_ (by assumption) ?_; rotate_left; (intro w hSw; clear hSw; go_simp); (try with_reducible rfl); simp only [List.set_cons_zero, List.set_cons_succ])
            (refine held_take 14 31 ?_ rfl (by kernel_rfl) (by kernel_rfl) (by kernel_rfl) (by kernel_rfl) (fun _ _ _ h => h) (by kernel_rfl) ?_ (by assumption) ?_; rotate_left; (intro w hSw; clear hSw; go_simp); (try with_reducible rfl); simp only [List.set_cons_zero, List.set_cons_succ])
            (refine held_take 15 32 (.pointer (some ⟨b1, o1 + k * 3, none⟩)) rfl rfl (by kernel_rfl) (by kernel_rfl) (by kernel_rfl) (fun _ _ _ h => h) (by kernel_rfl) ?_ (by assumption) ?_; (intro w hSw; clear hSw; go_simp); simp only [List.set_cons_zero, List.set_cons_succ])
            (refine held_take 16 33 (.pointer (some ⟨b1, o1 + k * 3 + 1, none⟩)) rfl rfl (by kernel_rfl) (by kernel_rfl) (by kernel_rfl) (fun _ _ _ h => h) (by kernel_rfl) ?_ (by assumption) ?_; (intro w hSw; clear hSw; first | rfl | go_simp); simp only [List.set_cons_zero, List.set_cons_succ])
            (refine held_take 17 34 (.agg #[.int .i64 x1, .bool y1]) rfl rfl (by kernel_rfl) (by kernel_rfl) (by kernel_rfl) (fun _ _ _ h => h) (by kernel_rfl) ?_ (by assumption) ?_; (intro w hSw; have f_d1 := (hSw.cell (p := ⟨b1, o1 + k * 3 + 1, none⟩) hb1).trans d1; have f_d2 := (hSw.cell (p := ⟨b1, o1 + k * 3 + 2, none⟩) hb1).trans d2; clear hSw; go_simp); simp only [List.set_cons_zero, List.set_cons_succ])
            (refine held_take 18 35 ?_ rfl (by kernel_rfl) (by kernel_rfl) (by kernel_rfl) (by kernel_rfl) (fun _ _ _ h => h) (by kernel_rfl) ?_ (by assumption) ?_; rotate_left; (intro w hSw; clear hSw; go_simp); (try with_reducible rfl); simp only [List.set_cons_zero, List.set_cons_succ])
            (refine held_take 19 36 ?_ rfl (by kernel_rfl) (by kernel_rfl) (by kernel_rfl) (by kernel_rfl) (fun _ _ _ h => h) (by kernel_rfl) ?_ (by assumption) ?_; rotate_left; (intro w hSw; clear hSw; go_simp); (try with_reducible rfl); simp only [List.set_cons_zero, List.set_cons_succ])
            (refine held_take 20 37 (.pointer (some ⟨b2, o2 + k * 3, none⟩)) rfl rfl (by kernel_rfl) (by kernel_rfl) (by kernel_rfl) (fun _ _ _ h => h) (by kernel_rfl) ?_ (by assumption) ?_; (intro w hSw; clear hSw; go_simp); simp only [List.set_cons_zero, List.set_cons_succ])
            (refine held_take 21 38 (.pointer (some ⟨b2, o2 + k * 3 + 1, none⟩)) rfl rfl (by kernel_rfl) (by kernel_rfl) (by kernel_rfl) (fun _ _ _ h => h) (by kernel_rfl) ?_ (by assumption) ?_; (intro w hSw; clear hSw; first | rfl | go_simp); simp only [List.set_cons_zero, List.set_cons_succ])
            (refine held_take 22 39 (.agg #[.int .i64 x2, .bool y2]) rfl rfl (by kernel_rfl) (by kernel_rfl) (by kernel_rfl) (fun _ _ _ h => h) (by kernel_rfl) ?_ (by assumption) ?_; (intro w hSw; have f_e1 := (hSw.cell (p := ⟨b2, o2 + k * 3 + 1, none⟩) hb2).trans e1; have f_e2 := (hSw.cell (p := ⟨b2, o2 + k * 3 + 2, none⟩) hb2).trans e2; clear hSw; go_simp); simp only [List.set_cons_zero, List.set_cons_succ])
            (refine held_take 23 40 (.bool true) rfl rfl (by kernel_rfl) (by kernel_rfl) (by kernel_rfl) (fun _ _ _ h => h) (by kernel_rfl) ?_ (by assumption) ?_; (intro w hSw; clear hSw; exact (neq_step x1 x2 y1 y2 w).trans (by rw [HXY.out]; rfl)); simp only [List.set_cons_zero, List.set_cons_succ])
            (refine held_take 24 41 (.bool true) rfl rfl (by kernel_rfl) (by kernel_rfl) (by kernel_rfl) (fun _ _ _ h => h) (by kernel_rfl) ?_ (by assumption) ?_; (intro w hSw; clear hSw; first | rfl | go_simp); simp only [List.set_cons_zero, List.set_cons_succ])
            refine wpAnyH_done (by kernel_rfl) ?_ _
            go_wp2
            go_ret
            exact ⟨ret_bool (decide_eq_false HE.out).symm, HBW.out.trans (HS.out.mono HBW.out.size)⟩
        · have HEQ := Lib.hid (decide_eq_false hll1)
          have HXY := Lib.hid (ne_of_atR HRR.out HSS.out (fun e => hll1 (rs_eq.1 e).1))
          clear hll1
          refine wp_region_held_drew (S := fun w => Below X.heap.size X w) (by kernel_rfl) (Below.drew (Below.refl _ _)) (fun hHeld => ?_)
          have HS := Lib.hid (Below.drew (Below.refl X.heap.size X))
          try clear hHeld
          have hSS := HS.out
          obtain ⟨X2, hX2⟩ : ∃ z, X.drew = z := ⟨_, rfl⟩
          rw [hX2] at HS hSS ⊢
          clear hX2
          (refine held_take 0 17 ?_ rfl (by kernel_rfl) (by kernel_rfl) (by kernel_rfl) (by kernel_rfl) (fun _ _ _ h => h) (by kernel_rfl) ?_ (by assumption) ?_; rotate_left; (intro w hSw; clear hSw; go_simp); (try with_reducible rfl); simp only [List.set_cons_zero, List.set_cons_succ])
          (refine held_take 1 18 ?_ rfl (by kernel_rfl) (by kernel_rfl) (by kernel_rfl) (by kernel_rfl) (fun _ _ _ h => h) (by kernel_rfl) ?_ (by assumption) ?_; rotate_left; (intro w hSw; clear hSw; go_simp); (try with_reducible rfl); simp only [List.set_cons_zero, List.set_cons_succ])
          (refine held_take 2 19 (.pointer (some ⟨b1, o1 + k * 3, none⟩)) rfl rfl (by kernel_rfl) (by kernel_rfl) (by kernel_rfl) (fun _ _ _ h => h) (by kernel_rfl) ?_ (by assumption) ?_; (intro w hSw; clear hSw; go_simp); simp only [List.set_cons_zero, List.set_cons_succ])
          (refine held_take 3 20 (.pointer (some ⟨b1, o1 + k * 3, none⟩)) rfl rfl (by kernel_rfl) (by kernel_rfl) (by kernel_rfl) (fun _ _ _ h => h) (by kernel_rfl) ?_ (by assumption) ?_; (intro w hSw; clear hSw; first | rfl | go_simp); simp only [List.set_cons_zero, List.set_cons_succ])
          (refine held_take 4 21 (.slice q1 l1.length c1) rfl rfl (by kernel_rfl) (by kernel_rfl) (by kernel_rfl) (fun _ _ _ h => h) (by kernel_rfl) ?_ (by assumption) ?_; (intro w hSw; have f_d0 := (hSw.cell (p := ⟨b1, o1 + k * 3, none⟩) hb1).trans d0; clear hSw; go_simp); simp only [List.set_cons_zero, List.set_cons_succ])
          (refine held_take 5 22 ?_ rfl (by kernel_rfl) (by kernel_rfl) (by kernel_rfl) (by kernel_rfl) (fun _ _ _ h => h) (by kernel_rfl) ?_ (by assumption) ?_; rotate_left; (intro w hSw; clear hSw; go_simp); (try with_reducible rfl); simp only [List.set_cons_zero, List.set_cons_succ])
          (refine held_take 6 23 ?_ rfl (by kernel_rfl) (by kernel_rfl) (by kernel_rfl) (by kernel_rfl) (fun _ _ _ h => h) (by kernel_rfl) ?_ (by assumption) ?_; rotate_left; (intro w hSw; clear hSw; go_simp); (try with_reducible rfl); simp only [List.set_cons_zero, List.set_cons_succ])
          (refine held_take 7 24 (.pointer (some ⟨b2, o2 + k * 3, none⟩)) rfl rfl (by kernel_rfl) (by kernel_rfl) (by kernel_rfl) (fun _ _ _ h => h) (by kernel_rfl) ?_ (by assumption) ?_; (intro w hSw; clear hSw; go_simp); simp only [List.set_cons_zero, List.set_cons_succ])
          (refine held_take 8 25 (.pointer (some ⟨b2, o2 + k * 3, none⟩)) rfl rfl (by kernel_rfl) (by kernel_rfl) (by kernel_rfl) (fun _ _ _ h => h) (by kernel_rfl) ?_ (by assumption) ?_; (intro w hSw; clear hSw; first | rfl | go_simp); simp only [List.set_cons_zero, List.set_cons_succ])
          (refine held_take 9 26 (.slice q2 l2.length c2) rfl rfl (by kernel_rfl) (by kernel_rfl) (by kernel_rfl) (fun _ _ _ h => h) (by kernel_rfl) ?_ (by assumption) ?_; (intro w hSw; have f_e0 := (hSw.cell (p := ⟨b2, o2 + k * 3, none⟩) hb2).trans e0; clear hSw; go_simp); simp only [List.set_cons_zero, List.set_cons_succ])
          refine wpAnyH_ready (rs := [10]) (by kernel_rfl) (by simp) (.cons rfl (fun K hK => ?_) .nil)
          rw [if_pos (by kernel_rfl)]
          go_simp
          refine (rLabels HS.out.size (HL1.out.mono HS.out (Nat.le_refl _)) (HL2.out.mono HS.out (Nat.le_refl _))).mono ?_
          rintro e w9 hq9
          obtain ⟨rfl, hb9⟩ := hq9.below
          clear hq9
          rw [HEQ.out]
          have HS := Lib.hid (HS.out.trans (hb9.mono HS.out.size))
          clear hb9
          have hSS := HS.out
          refine hK.out _ _ HS.out (fun hHeld => ?_)
          clear hK K
          (try simp only [Act.put, List.setIfInBounds_toArray, List.set_cons_zero, List.set_cons_succ])
          (refine held_take 11 28 ?_ rfl (by kernel_rfl) (by kernel_rfl) (by kernel_rfl) (by kernel_rfl) (fun _ _ _ h => h) (by kernel_rfl) ?_ (by assumption) ?_; rotate_left; (intro w hSw; clear hSw; go_simp); (try with_reducible rfl); simp only [List.set_cons_zero, List.set_cons_succ])
          (refine held_take 12 29 ?_ rfl (by kernel_rfl) (by kernel_rfl) (by kernel_rfl) (by kernel_rfl) (fun _ _ _ h => h) (by kernel_rfl) ?_ (by assumption) ?_; rotate_left; (intro w hSw; clear hSw; go_simp); (try with_reducible rfl); simp only [List.set_cons_zero, List.set_cons_succ])
          (refine held_skip 13 30 rfl (by kernel_rfl) (by kernel_rfl) (by kernel_rfl) (by kernel_rfl) (fun _ _ _ h => h) (by kernel_rfl) (by assumption) ?_; simp only [List.set_cons_zero, List.set_cons_succ])
          (refine held_skip 14 31 rfl (by kernel_rfl) (by kernel_rfl) (by kernel_rfl) (by kernel_rfl) (fun _ _ _ h => h) (by kernel_rfl) (by assumption) ?_; simp only [List.set_cons_zero, List.set_cons_succ])
          (refine held_skip 15 32 rfl (by kernel_rfl) (by kernel_rfl) (by kernel_rfl) (by kernel_rfl) (fun _ _ _ h => h) (by kernel_rfl) (by assumption) ?_; simp only [List.set_cons_zero, List.set_cons_succ])
          (refine held_skip 16 33 rfl (by kernel_rfl) (by kernel_rfl) (by kernel_rfl) (by kernel_rfl) (fun _ _ _ h => h) (by kernel_rfl) (by assumption) ?_; simp only [List.set_cons_zero, List.set_cons_succ])
          (refine held_skip 17 34 rfl (by kernel_rfl) (by kernel_rfl) (by kernel_rfl) (by kernel_rfl) (fun _ _ _ h => h) (by kernel_rfl) (by assumption) ?_; simp only [List.set_cons_zero, List.set_cons_succ])
          (refine held_skip 18 35 rfl (by kernel_rfl) (by kernel_rfl) (by kernel_rfl) (by kernel_rfl) (fun _ _ _ h => h) (by kernel_rfl) (by assumption) ?_; simp only [List.set_cons_zero, List.set_cons_succ])
          (refine held_skip 19 36 rfl (by kernel_rfl) (by kernel_rfl) (by kernel_rfl) (by kernel_rfl) (fun _ _ _ h => h) (by kernel_rfl) (by assumption) ?_; simp only [List.set_cons_zero, List.set_cons_succ])
          (refine held_skip 20 37 rfl (by kernel_rfl) (by kernel_rfl) (by kernel_rfl) (by kernel_rfl) (fun _ _ _ h => h) (by kernel_rfl) (by assumption) ?_; simp only [List.set_cons_zero, List.set_cons_succ])
          (refine held_skip 21 38 rfl (by kernel_rfl) (by kernel_rfl) (by kernel_rfl) (by kernel_rfl) (fun _ _ _ h => h) (by kernel_rfl) (by assumption) ?_; simp only [List.set_cons_zero, List.set_cons_succ])
          (refine held_skip 22 39 rfl (by kernel_rfl) (by kernel_rfl) (by kernel_rfl) (by kernel_rfl) (fun _ _ _ h => h) (by kernel_rfl) (by assumption) ?_; simp only [List.set_cons_zero, List.set_cons_succ])
          (refine held_skip 23 40 rfl (by kernel_rfl) (by kernel_rfl) (by kernel_rfl) (by kernel_rfl) (fun _ _ _ h => h) (by kernel_rfl) (by assumption) ?_; simp only [List.set_cons_zero, List.set_cons_succ])
          (refine held_take 24 41 ?_ rfl (by kernel_rfl) (by kernel_rfl) (by kernel_rfl) (by kernel_rfl) (fun _ _ _ h => h) (by kernel_rfl) ?_ (by assumption) ?_; rotate_left; (intro w hSw; clear hSw; go_simp); (try with_reducible rfl); simp only [List.set_cons_zero, List.set_cons_succ])
          refine wpAnyH_done (by kernel_rfl) ?_ _
          go_wp2
          go_ret
          exact ⟨ret_bool (decide_eq_false HXY.out).symm, HBW.out.trans (HS.out.mono HBW.out.size)⟩
      · have hki : ¬ ((k : Int) < (N : Int)) := by omega
        have hkN : k = N := by omega
        have HE := Lib.hid (show la = lb from by
          have h := HRT.out
          rw [hkN, List.take_of_length_le (by rw [HNL.out]; omega), List.take_of_length_le (by rw [HML.out]; omega)] at h
          exact h)
        clear hkN
        go_wp2
        go_ret
        exact ⟨ret_bool (decide_eq_true HE.out).symm, HBW.out⟩
  · have hll : ((N : Int) != (M : Int)) = true := by simp; omega
    have HE := Lib.hid (show la ≠ lb from fun e => hl (by rw [← HNL.out, ← HML.out, e]))
    clear hl
    go_enter Tryd.func16, Tryd.ntmps16; (try simp only [List.append_eq, List.cons_append, List.nil_append])
    go_wp2
    go_ret
    exact ⟨ret_bool (decide_eq_false HE.out).symm, Below.refl _ _⟩
end Go.Proofs.YtgmdlnobajmjfaaDoor
