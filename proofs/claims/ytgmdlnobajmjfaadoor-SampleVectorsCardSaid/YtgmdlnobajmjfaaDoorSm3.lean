/- sample.CheckVector. Printed by wip/gen_sm3.py. -/
import Derived.Test.YtgmdlnobajmjfaaDoorSm2
namespace Go.Proofs.YtgmdlnobajmjfaaDoor
open Go.RowKit
set_option linter.unusedSimpArgs false
set_option linter.unusedVariables false

theorem ok_bad {v : List Rs} {k : Nat} (h : ¬ 4096 < v.length) (hk : k < v.length) (hb : okAt v k = false) : checkV v = 2 := by
  unfold checkV
  rw [if_neg h, if_neg]
  rw [Bool.not_eq_true]
  exact upto_not hk hb
theorem ok_all {v : List Rs} (h : ¬ 4096 < v.length) (hu : upto (okAt v) v.length = true) : checkV v = 0 := by
  unfold checkV
  rw [if_neg h, if_pos hu]
theorem ok_wrong {v : List Rs} {k : Nat} {r : Rs} (hr : v[k]? = some r) (h : rightR r = false) : okAt v k = false := by
  unfold okAt
  rw [hr]
  simp [h]
theorem ok_zero {v : List Rs} {r : Rs} (hr : v[0]? = some r) (h : rightR r = true) : okAt v 0 = true := by
  unfold okAt
  rw [hr]
  simp [h]
theorem ok_succ {v : List Rs} {j : Nat} {p r : Rs} (hp : v[j]? = some p) (hr : v[j + 1]? = some r) (h : rightR r = true) : okAt v (j + 1) = decide (compareL p.labs r.labs < 0) := by
  unfold okAt
  rw [hr]
  simp [h, hp]
set_option maxRecDepth 100000 in
set_option maxHeartbeats 16000000 in
theorem sCheckV {l : List Rs} {v : Value} {n : Nat} {W : World} (hn : n ≤ W.heap.size) (hv : IsRes n W v l) :
    Calls Tryd.prog 13 #[v] W fun e w' => e = .returned (.int .i64 (checkV l)) ∧ Below W.heap.size W w' := by
  obtain ⟨pv, cv, rfl, hcv1, hcv2⟩ := hv.open
  unfold maxLen at hcv2
  have HV := Lib.hid hv; have HN := Lib.hid hn
  clear hv hn
  obtain ⟨N, hN⟩ : ∃ z, l.length = z := ⟨_, rfl⟩
  rw [hN] at HV hcv1 ⊢
  have HNL := Lib.hid hN
  clear hN
  have hlen : (N : Int) ≤ 9223372036854775807 := by omega
  by_cases h4 : 4096 < N
  · have h4i : (4096 : Int) < (N : Int) := by omega
    have HC := Lib.hid (show checkV l = 3 from by unfold checkV; rw [if_pos (by rw [HNL.out]; exact h4)])
    go_enter Tryd.func13, Tryd.ntmps13; (try simp only [List.append_eq, List.cons_append, List.nil_append])
    go_wp2
    go_ret
    exact ⟨by rw [HC.out]; rfl, Below.refl _ _⟩
  have h4i : ¬ ((4096 : Int) < (N : Int)) := by omega
  have h4j : (N : Int) ≤ 4096 := by omega
  have H4 := Lib.hid (show ¬ 4096 < l.length from by rw [HNL.out]; exact h4)
  clear h4
  go_enter Tryd.func13, Tryd.ntmps13; (try simp only [List.append_eq, List.cons_append, List.nil_append])
  go_wp2
  go_loopw [10] (fun j wr => ∃ k : Nat, k ≤ N ∧ j = .int .i64 k ∧ upto (okAt l) k = true ∧ Below W.heap.size W wr) (fun j _ => N - (intOf j).toNat)
  case atStart => exact ⟨0, Nat.zero_le _, rfl, rfl, Below.refl _ _⟩
  case round =>
    obtain ⟨k, hk, rfl, hu, hb⟩ := hrel
    have HU := Lib.hid hu; have HB := Lib.hid hb
    have hsz := hb.size
    clear hu hb
    by_cases hlt : k < N
    · have hki : (k : Int) < (N : Int) := by omega
      obtain ⟨r, hr⟩ : ∃ r, l[k]? = some r := ⟨_, List.getElem?_eq_getElem (by have := HNL.out; omega)⟩
      have hvn := HV.out.mono (HB.out.mono HN.out) (Nat.le_refl _)
      obtain ⟨b1, o2, q1, c1, rfl, hb1, d0, d1, d2, hl1, -⟩ := hvn.get hr
      have HVN := Lib.hid hvn
      have HR := Lib.hid hr
      clear hvn hr
      obtain ⟨l1, x1, o1⟩ := r
      simp only at d0 d1 d2 hl1
      obtain ⟨m1, hm1⟩ : ∃ z, l1.length = z := ⟨_, rfl⟩
      have HM1 := Lib.hid hm1
      rw [hm1] at d0 hl1
      clear hm1
      have hb1w : b1 < wr.heap.size := by have := HN.out; omega
      go_upto_region 6 with (refine wpList_store_new rfl 39 _ _ rfl #[.slice q1 m1 c1, .int .i64 x1, .bool o1] _ _ rfl rfl (by kernel_rfl) rfl (by kernel_rfl) ?_)
      have ho1 := (Below.refl wr.heap.size wr).alloc (Nat.le_refl _) (.cells #[.slice q1 m1 c1, .int .i64 x1, .bool o1] 39)
      have hk1 := Blk.new wr [.slice q1 m1 c1, .int .i64 x1, .bool o1] 39
      have hnw : n ≤ wr.heap.size := Nat.le_trans HN.out hsz
      obtain ⟨g1, hg1⟩ : ∃ z, wr.heap.size = z := ⟨_, rfl⟩
      obtain ⟨X, hX⟩ : ∃ z, wr.alloc (.cells #[.slice q1 m1 c1, .int .i64 x1, .bool o1] 39) = z := ⟨_, rfl⟩
      have HVX := Lib.hid (HVN.out.mono (ho1.mono hnw) (Nat.le_trans hnw ho1.size))
      have HL1 := Lib.hid (hl1.mono (ho1.mono hnw) (Nat.le_trans hnw ho1.size))
      have HBX := Lib.hid (HB.out.trans (ho1.mono hsz))
      rw [show wr.alloc (.cells ([.slice q1 m1 c1, .int .i64 x1, .bool o1] : List Value).toArray 39) = X from hX] at hk1
      rw [hX] at HVX HL1 HBX ⊢
      rw [hg1] at hk1 ⊢
      have HK := Lib.hid hk1
      clear hX hg1 ho1 hk1 d0 d1 d2 hl1 hb1w hb1 hnw
      obtain ⟨rb, hrb⟩ : ∃ z, rightR ⟨l1, x1, o1⟩ = z := ⟨_, rfl⟩
      have HRB := Lib.hid hrb
      have hl1m := HM1.out
      subst hl1m
      cases rb with
      | false =>
        have HBAD := Lib.hid (ok_bad H4.out (by rw [HNL.out]; exact hlt) (ok_wrong HR.out hrb))
        refine wp_region_held_drew (S := fun w => Below X.heap.size X w) (by kernel_rfl) (Below.drew (Below.refl _ _)) (fun hHeld => ?_)
        have HS := Lib.hid (Below.drew (Below.refl X.heap.size X))
        try clear hHeld
        have hSS := HS.out
        obtain ⟨X2, hX2⟩ : ∃ z, X.drew = z := ⟨_, rfl⟩
        rw [hX2] at HS hSS ⊢
        clear hX2
        (refine held_take 0 15 (.agg #[.slice q1 l1.length c1, .int .i64 x1, .bool o1]) rfl rfl (by kernel_rfl) (by kernel_rfl) (by kernel_rfl) (fun _ _ _ h => h) (by kernel_rfl) ?_ (by assumption) ?_; (intro w hSw; have e0 := (HK.out.keep hSw).cell 0 _ rfl; have e1 := (HK.out.keep hSw).cell 1 _ rfl; have e2 := (HK.out.keep hSw).cell 2 _ rfl; have eg := (HK.out.keep hSw).lt; clear hSw; go_simp); simp only [List.set_cons_zero, List.set_cons_succ])
        refine wpAnyH_ready (rs := [1]) (by kernel_rfl) (by simp) (.cons rfl (fun K hK => ?_) .nil)
        rw [if_pos (by kernel_rfl)]
        go_simp
        have hSS := HS.out
        refine (sRight (r := ⟨l1, x1, o1⟩) (n := X.heap.size) HS.out.size (by have h := HL1.out.mono HS.out (Nat.le_refl _); exact h)).mono ?_
        rintro e w9 ⟨rfl, hb9⟩
        rw [HRB.out]
        have HS := Lib.hid (HS.out.trans (hb9.mono HS.out.size))
        clear hb9
        have hSS := HS.out
        refine hK.out _ _ HS.out (fun hHeld => ?_)
        clear hK K
        (try simp only [Act.put, List.setIfInBounds_toArray, List.set_cons_zero, List.set_cons_succ])
        (refine held_take 2 17 ?_ rfl (by kernel_rfl) (by kernel_rfl) (by kernel_rfl) (by kernel_rfl) (fun _ _ _ h => h) (by kernel_rfl) ?_ (by assumption) ?_; rotate_left; (intro w hSw; clear hSw; go_simp); (try with_reducible rfl); simp only [List.set_cons_zero, List.set_cons_succ])
        (refine held_take 3 18 ?_ rfl (by kernel_rfl) (by kernel_rfl) (by kernel_rfl) (by kernel_rfl) (fun _ _ _ h => h) (by kernel_rfl) ?_ (by assumption) ?_; rotate_left; (intro w hSw; clear hSw; go_simp); (try with_reducible rfl); simp only [List.set_cons_zero, List.set_cons_succ])
        (refine held_skip 4 19 rfl (by kernel_rfl) (by kernel_rfl) (by kernel_rfl) (by kernel_rfl) (fun _ _ _ h => h) (by kernel_rfl) (by assumption) ?_; simp only [List.set_cons_zero, List.set_cons_succ])
        (refine held_skip 5 20 rfl (by kernel_rfl) (by kernel_rfl) (by kernel_rfl) (by kernel_rfl) (fun _ _ _ h => h) (by kernel_rfl) (by assumption) ?_; simp only [List.set_cons_zero, List.set_cons_succ])
        (refine held_skip 6 21 rfl (by kernel_rfl) (by kernel_rfl) (by kernel_rfl) (by kernel_rfl) (fun _ _ _ h => h) (by kernel_rfl) (by assumption) ?_; simp only [List.set_cons_zero, List.set_cons_succ])
        (refine held_skip 7 22 rfl (by kernel_rfl) (by kernel_rfl) (by kernel_rfl) (by kernel_rfl) (fun _ _ _ h => h) (by kernel_rfl) (by assumption) ?_; simp only [List.set_cons_zero, List.set_cons_succ])
        (refine held_skip 8 23 rfl (by kernel_rfl) (by kernel_rfl) (by kernel_rfl) (by kernel_rfl) (fun _ _ _ h => h) (by kernel_rfl) (by assumption) ?_; simp only [List.set_cons_zero, List.set_cons_succ])
        (refine held_skip 9 24 rfl (by kernel_rfl) (by kernel_rfl) (by kernel_rfl) (by kernel_rfl) (fun _ _ _ h => h) (by kernel_rfl) (by assumption) ?_; simp only [List.set_cons_zero, List.set_cons_succ])
        (refine held_skip 10 25 rfl (by kernel_rfl) (by kernel_rfl) (by kernel_rfl) (by kernel_rfl) (fun _ _ _ h => h) (by kernel_rfl) (by assumption) ?_; simp only [List.set_cons_zero, List.set_cons_succ])
        (refine held_skip 11 26 rfl (by kernel_rfl) (by kernel_rfl) (by kernel_rfl) (by kernel_rfl) (fun _ _ _ h => h) (by kernel_rfl) (by assumption) ?_; simp only [List.set_cons_zero, List.set_cons_succ])
        (refine held_skip 12 27 rfl (by kernel_rfl) (by kernel_rfl) (by kernel_rfl) (by kernel_rfl) (fun _ _ _ h => h) (by kernel_rfl) (by assumption) ?_; simp only [List.set_cons_zero, List.set_cons_succ])
        (refine held_skip 13 28 rfl (by kernel_rfl) (by kernel_rfl) (by kernel_rfl) (by kernel_rfl) (fun _ _ _ h => h) (by kernel_rfl) (by assumption) ?_; simp only [List.set_cons_zero, List.set_cons_succ])
        (refine held_skip 14 29 rfl (by kernel_rfl) (by kernel_rfl) (by kernel_rfl) (by kernel_rfl) (fun _ _ _ h => h) (by kernel_rfl) (by assumption) ?_; simp only [List.set_cons_zero, List.set_cons_succ])
        (refine held_skip 15 30 rfl (by kernel_rfl) (by kernel_rfl) (by kernel_rfl) (by kernel_rfl) (fun _ _ _ h => h) (by kernel_rfl) (by assumption) ?_; simp only [List.set_cons_zero, List.set_cons_succ])
        (refine held_skip 16 31 rfl (by kernel_rfl) (by kernel_rfl) (by kernel_rfl) (by kernel_rfl) (fun _ _ _ h => h) (by kernel_rfl) (by assumption) ?_; simp only [List.set_cons_zero, List.set_cons_succ])
        (refine held_skip 17 32 rfl (by kernel_rfl) (by kernel_rfl) (by kernel_rfl) (by kernel_rfl) (fun _ _ _ h => h) (by kernel_rfl) (by assumption) ?_; simp only [List.set_cons_zero, List.set_cons_succ])
        (refine held_take 18 33 ?_ rfl (by kernel_rfl) (by kernel_rfl) (by kernel_rfl) (by kernel_rfl) (fun _ _ _ h => h) (by kernel_rfl) ?_ (by assumption) ?_; rotate_left; (intro w hSw; clear hSw; go_simp); (try with_reducible rfl); simp only [List.set_cons_zero, List.set_cons_succ])
        refine wpAnyH_done (by kernel_rfl) ?_ _
        go_wp2
        go_ret
        exact ⟨by rw [HBAD.out]; rfl, HBX.out.trans (HS.out.mono HBX.out.size)⟩
      | true =>
        cases k with
        | zero =>
          have HGOOD := Lib.hid (upto_step HU.out (ok_zero HR.out hrb))
          clear hrb
          refine wp_region_held_drew (S := fun w => Below X.heap.size X w) (by kernel_rfl) (Below.drew (Below.refl _ _)) (fun hHeld => ?_)
          have HS := Lib.hid (Below.drew (Below.refl X.heap.size X))
          try clear hHeld
          have hSS := HS.out
          obtain ⟨X2, hX2⟩ : ∃ z, X.drew = z := ⟨_, rfl⟩
          rw [hX2] at HS hSS ⊢
          clear hX2
          (refine held_take 0 15 (.agg #[.slice q1 l1.length c1, .int .i64 x1, .bool o1]) rfl rfl (by kernel_rfl) (by kernel_rfl) (by kernel_rfl) (fun _ _ _ h => h) (by kernel_rfl) ?_ (by assumption) ?_; (intro w hSw; have e0 := (HK.out.keep hSw).cell 0 _ rfl; have e1 := (HK.out.keep hSw).cell 1 _ rfl; have e2 := (HK.out.keep hSw).cell 2 _ rfl; have eg := (HK.out.keep hSw).lt; clear hSw; go_simp); simp only [List.set_cons_zero, List.set_cons_succ])
          refine wpAnyH_ready (rs := [1]) (by kernel_rfl) (by simp) (.cons rfl (fun K hK => ?_) .nil)
          rw [if_pos (by kernel_rfl)]
          go_simp
          have hSS := HS.out
          refine (sRight (r := ⟨l1, x1, o1⟩) (n := X.heap.size) HS.out.size (by have h := HL1.out.mono HS.out (Nat.le_refl _); exact h)).mono ?_
          rintro e w9 ⟨rfl, hb9⟩
          rw [HRB.out]
          have HS := Lib.hid (HS.out.trans (hb9.mono HS.out.size))
          clear hb9
          have hSS := HS.out
          refine hK.out _ _ HS.out (fun hHeld => ?_)
          clear hK K
          (try simp only [Act.put, List.setIfInBounds_toArray, List.set_cons_zero, List.set_cons_succ])
          (refine held_take 2 17 ?_ rfl (by kernel_rfl) (by kernel_rfl) (by kernel_rfl) (by kernel_rfl) (fun _ _ _ h => h) (by kernel_rfl) ?_ (by assumption) ?_; rotate_left; (intro w hSw; clear hSw; go_simp); (try with_reducible rfl); simp only [List.set_cons_zero, List.set_cons_succ])
          (refine held_take 3 18 ?_ rfl (by kernel_rfl) (by kernel_rfl) (by kernel_rfl) (by kernel_rfl) (fun _ _ _ h => h) (by kernel_rfl) ?_ (by assumption) ?_; rotate_left; (intro w hSw; clear hSw; go_simp); (try with_reducible rfl); simp only [List.set_cons_zero, List.set_cons_succ])
          (refine held_take 4 19 ?_ rfl (by kernel_rfl) (by kernel_rfl) (by kernel_rfl) (by kernel_rfl) (fun _ _ _ h => h) (by kernel_rfl) ?_ (by assumption) ?_; rotate_left; (intro w hSw; clear hSw; go_simp); (try with_reducible rfl); simp only [List.set_cons_zero, List.set_cons_succ])
          (refine held_take 5 20 (.bool false) rfl rfl (by kernel_rfl) (by kernel_rfl) (by kernel_rfl) (fun _ _ _ h => h) (by kernel_rfl) ?_ (by assumption) ?_; (intro w hSw; clear hSw; first | rfl | go_simp); simp only [List.set_cons_zero, List.set_cons_succ])
          (refine held_take 6 21 (.bool false) rfl rfl (by kernel_rfl) (by kernel_rfl) (by kernel_rfl) (fun _ _ _ h => h) (by kernel_rfl) ?_ (by assumption) ?_; (intro w hSw; clear hSw; first | rfl | go_simp); simp only [List.set_cons_zero, List.set_cons_succ])
          (refine held_skip 7 22 rfl (by kernel_rfl) (by kernel_rfl) (by kernel_rfl) (by kernel_rfl) (fun _ _ _ h => h) (by kernel_rfl) (by assumption) ?_; simp only [List.set_cons_zero, List.set_cons_succ])
          (refine held_skip 8 23 rfl (by kernel_rfl) (by kernel_rfl) (by kernel_rfl) (by kernel_rfl) (fun _ _ _ h => h) (by kernel_rfl) (by assumption) ?_; simp only [List.set_cons_zero, List.set_cons_succ])
          (refine held_skip 9 24 rfl (by kernel_rfl) (by kernel_rfl) (by kernel_rfl) (by kernel_rfl) (fun _ _ _ h => h) (by kernel_rfl) (by assumption) ?_; simp only [List.set_cons_zero, List.set_cons_succ])
          (refine held_skip 10 25 rfl (by kernel_rfl) (by kernel_rfl) (by kernel_rfl) (by kernel_rfl) (fun _ _ _ h => h) (by kernel_rfl) (by assumption) ?_; simp only [List.set_cons_zero, List.set_cons_succ])
          (refine held_skip 11 26 rfl (by kernel_rfl) (by kernel_rfl) (by kernel_rfl) (by kernel_rfl) (fun _ _ _ h => h) (by kernel_rfl) (by assumption) ?_; simp only [List.set_cons_zero, List.set_cons_succ])
          (refine held_skip 12 27 rfl (by kernel_rfl) (by kernel_rfl) (by kernel_rfl) (by kernel_rfl) (fun _ _ _ h => h) (by kernel_rfl) (by assumption) ?_; simp only [List.set_cons_zero, List.set_cons_succ])
          (refine held_skip 13 28 rfl (by kernel_rfl) (by kernel_rfl) (by kernel_rfl) (by kernel_rfl) (fun _ _ _ h => h) (by kernel_rfl) (by assumption) ?_; simp only [List.set_cons_zero, List.set_cons_succ])
          (refine held_skip 14 29 rfl (by kernel_rfl) (by kernel_rfl) (by kernel_rfl) (by kernel_rfl) (fun _ _ _ h => h) (by kernel_rfl) (by assumption) ?_; simp only [List.set_cons_zero, List.set_cons_succ])
          (refine held_skip 15 30 rfl (by kernel_rfl) (by kernel_rfl) (by kernel_rfl) (by kernel_rfl) (fun _ _ _ h => h) (by kernel_rfl) (by assumption) ?_; simp only [List.set_cons_zero, List.set_cons_succ])
          (refine held_skip 16 31 rfl (by kernel_rfl) (by kernel_rfl) (by kernel_rfl) (by kernel_rfl) (fun _ _ _ h => h) (by kernel_rfl) (by assumption) ?_; simp only [List.set_cons_zero, List.set_cons_succ])
          (refine held_take 17 32 (.bool false) rfl rfl (by kernel_rfl) (by kernel_rfl) (by kernel_rfl) (fun _ _ _ h => h) (by kernel_rfl) ?_ (by assumption) ?_; (intro w hSw; clear hSw; first | rfl | go_simp); simp only [List.set_cons_zero, List.set_cons_succ])
          (refine held_take 18 33 (.bool false) rfl rfl (by kernel_rfl) (by kernel_rfl) (by kernel_rfl) (fun _ _ _ h => h) (by kernel_rfl) ?_ (by assumption) ?_; (intro w hSw; clear hSw; first | rfl | go_simp); simp only [List.set_cons_zero, List.set_cons_succ])
          refine wpAnyH_done (by kernel_rfl) ?_ _
          go_wp2
          exact ⟨⟨1, by omega, by go_num, HGOOD.out, HBX.out.trans (HS.out.mono HBX.out.size)⟩, by simp [intOf]; omega⟩
        | succ j =>
          obtain ⟨r2, hr2⟩ : ∃ r, l[j]? = some r := ⟨_, List.getElem?_eq_getElem (by have := HNL.out; omega)⟩
          have hok := ok_succ hr2 HR.out hrb
          obtain ⟨b3, o3, q2, c2, hp3, hb1, hd0, -, -, hl2, -⟩ := HVX.out.get hr2
          obtain ⟨rfl, rfl⟩ : b1 = b3 ∧ o2 = o3 := by simpa using hp3
          clear hp3 hrb hr2
          obtain ⟨l2, x2, o9⟩ := r2
          simp only at hd0 hl2 hok
          have HL2 := Lib.hid hl2
          have HOK := Lib.hid hok
          have hw1 : IntKind.i64.wrap (((j + 1 : Nat) : Int) - 1) = (j : Int) := by rw [IntWalk.i64_in _ (by omega)]; omega
          have hw2 : IntKind.i64.wrap (j : Int) = (j : Int) := IntWalk.i64_in _ (by omega)
          have hj0 : (0 : Int) ≤ (j : Int) := by omega
          have hjn : (j : Int) < (N : Int) := by omega
          have hjp : (0 : Int) < ((j + 1 : Nat) : Int) := by omega
          clear hl2 hok
          refine wp_region_held_drew (S := fun w => Below X.heap.size X w) (by kernel_rfl) (Below.drew (Below.refl _ _)) (fun hHeld => ?_)
          have HS := Lib.hid (Below.drew (Below.refl X.heap.size X))
          try clear hHeld
          have hSS := HS.out
          obtain ⟨X2, hX2⟩ : ∃ z, X.drew = z := ⟨_, rfl⟩
          rw [hX2] at HS hSS ⊢
          clear hX2
          (refine held_take 0 15 (.agg #[.slice q1 l1.length c1, .int .i64 x1, .bool o1]) rfl rfl (by kernel_rfl) (by kernel_rfl) (by kernel_rfl) (fun _ _ _ h => h) (by kernel_rfl) ?_ (by assumption) ?_; (intro w hSw; have e0 := (HK.out.keep hSw).cell 0 _ rfl; have e1 := (HK.out.keep hSw).cell 1 _ rfl; have e2 := (HK.out.keep hSw).cell 2 _ rfl; have eg := (HK.out.keep hSw).lt; clear hSw; go_simp); simp only [List.set_cons_zero, List.set_cons_succ])
          refine wpAnyH_ready (rs := [1]) (by kernel_rfl) (by simp) (.cons rfl (fun K hK => ?_) .nil)
          rw [if_pos (by kernel_rfl)]
          go_simp
          have hSS := HS.out
          refine (sRight (r := ⟨l1, x1, o1⟩) (n := X.heap.size) HS.out.size (by have h := HL1.out.mono HS.out (Nat.le_refl _); exact h)).mono ?_
          rintro e w9 ⟨rfl, hb9⟩
          rw [HRB.out]
          have HS := Lib.hid (HS.out.trans (hb9.mono HS.out.size))
          clear hb9
          have hSS := HS.out
          refine hK.out _ _ HS.out (fun hHeld => ?_)
          clear hK K
          (try simp only [Act.put, List.setIfInBounds_toArray, List.set_cons_zero, List.set_cons_succ])
          (refine held_take 2 17 ?_ rfl (by kernel_rfl) (by kernel_rfl) (by kernel_rfl) (by kernel_rfl) (fun _ _ _ h => h) (by kernel_rfl) ?_ (by assumption) ?_; rotate_left; (intro w hSw; clear hSw; go_simp); (try with_reducible rfl); simp only [List.set_cons_zero, List.set_cons_succ])
          (refine held_take 3 18 ?_ rfl (by kernel_rfl) (by kernel_rfl) (by kernel_rfl) (by kernel_rfl) (fun _ _ _ h => h) (by kernel_rfl) ?_ (by assumption) ?_; rotate_left; (intro w hSw; clear hSw; go_simp); (try with_reducible rfl); simp only [List.set_cons_zero, List.set_cons_succ])
          (refine held_take 4 19 ?_ rfl (by kernel_rfl) (by kernel_rfl) (by kernel_rfl) (by kernel_rfl) (fun _ _ _ h => h) (by kernel_rfl) ?_ (by assumption) ?_; rotate_left; (intro w hSw; clear hSw; go_simp); (try with_reducible rfl); simp only [List.set_cons_zero, List.set_cons_succ])
          (refine held_take 5 20 ?_ rfl (by kernel_rfl) (by kernel_rfl) (by kernel_rfl) (by kernel_rfl) (fun _ _ _ h => h) (by kernel_rfl) ?_ (by assumption) ?_; rotate_left; (intro w hSw; clear hSw; go_simp); (try with_reducible rfl); simp only [List.set_cons_zero, List.set_cons_succ])
          (refine held_take 6 21 ?_ rfl (by kernel_rfl) (by kernel_rfl) (by kernel_rfl) (by kernel_rfl) (fun _ _ _ h => h) (by kernel_rfl) ?_ (by assumption) ?_; rotate_left; (intro w hSw; clear hSw; go_simp); (try with_reducible rfl); simp only [List.set_cons_zero, List.set_cons_succ])
          (refine held_take 7 22 ?_ rfl (by kernel_rfl) (by kernel_rfl) (by kernel_rfl) (by kernel_rfl) (fun _ _ _ h => h) (by kernel_rfl) ?_ (by assumption) ?_; rotate_left; (intro w hSw; clear hSw; go_simp); (try with_reducible rfl); simp only [List.set_cons_zero, List.set_cons_succ])
          (refine held_take 8 23 ?_ rfl (by kernel_rfl) (by kernel_rfl) (by kernel_rfl) (by kernel_rfl) (fun _ _ _ h => h) (by kernel_rfl) ?_ (by assumption) ?_; rotate_left; (intro w hSw; clear hSw; go_simp); (try with_reducible rfl); simp only [List.set_cons_zero, List.set_cons_succ])
          (refine held_take 9 24 (.int .i64 (j : Int)) rfl rfl (by kernel_rfl) (by kernel_rfl) (by kernel_rfl) (fun _ _ _ h => h) (by kernel_rfl) ?_ (by assumption) ?_; (intro w hSw; clear hSw; go_simp; (try rw [hw2])); simp only [List.set_cons_zero, List.set_cons_succ])
          (refine held_take 10 25 (.pointer (some ⟨b1, o2 + j * 3, none⟩)) rfl rfl (by kernel_rfl) (by kernel_rfl) (by kernel_rfl) (fun _ _ _ h => h) (by kernel_rfl) ?_ (by assumption) ?_; (intro w hSw; clear hSw; go_simp); simp only [List.set_cons_zero, List.set_cons_succ])
          (refine held_take 11 26 (.pointer (some ⟨b1, o2 + j * 3, none⟩)) rfl rfl (by kernel_rfl) (by kernel_rfl) (by kernel_rfl) (fun _ _ _ h => h) (by kernel_rfl) ?_ (by assumption) ?_; (intro w hSw; clear hSw; first | rfl | go_simp); simp only [List.set_cons_zero, List.set_cons_succ])
          (refine held_take 12 27 (.slice q2 l2.length c2) rfl rfl (by kernel_rfl) (by kernel_rfl) (by kernel_rfl) (fun _ _ _ h => h) (by kernel_rfl) ?_ (by assumption) ?_; (intro w hSw; have e0 := hSw.cell (p := ⟨b1, o2 + j * 3, none⟩) hb1; rw [hd0] at e0; clear hSw; go_simp); simp only [List.set_cons_zero, List.set_cons_succ])
          (refine held_take 13 28 ?_ rfl (by kernel_rfl) (by kernel_rfl) (by kernel_rfl) (by kernel_rfl) (fun _ _ _ h => h) (by kernel_rfl) ?_ (by assumption) ?_; rotate_left; (intro w hSw; clear hSw; go_simp); (try with_reducible rfl); simp only [List.set_cons_zero, List.set_cons_succ])
          (refine held_take 14 29 (.slice q1 l1.length c1) rfl rfl (by kernel_rfl) (by kernel_rfl) (by kernel_rfl) (fun _ _ _ h => h) (by kernel_rfl) ?_ (by assumption) ?_; (intro w hSw; have e0 := (HK.out.keep hSw).cell 0 _ rfl; have eg := (HK.out.keep hSw).lt; clear hSw; go_simp); simp only [List.set_cons_zero, List.set_cons_succ])
          refine wpAnyH_ready (rs := [15]) (by kernel_rfl) (by simp) (.cons rfl (fun K hK => ?_) .nil)
          rw [if_pos (by kernel_rfl)]
          go_simp
          refine (lCompare (la := l2) (lb := l1) (n := X.heap.size) HS.out.size (HL2.out.mono HS.out (Nat.le_refl _)) (HL1.out.mono HS.out (Nat.le_refl _))).mono ?_
          rintro e w9 ⟨rfl, hb9⟩
          have HS := Lib.hid (HS.out.trans (hb9.mono HS.out.size))
          clear hb9
          have hSS := HS.out
          refine hK.out _ _ HS.out (fun hHeld => ?_)
          clear hK K
          (try simp only [Act.put, List.setIfInBounds_toArray, List.set_cons_zero, List.set_cons_succ])
          (refine held_take 16 31 ?_ rfl (by kernel_rfl) (by kernel_rfl) (by kernel_rfl) (by kernel_rfl) (fun _ _ _ h => h) (by kernel_rfl) ?_ (by assumption) ?_; rotate_left; (intro w hSw; clear hSw; go_simp); (try with_reducible rfl); simp only [List.set_cons_zero, List.set_cons_succ])
          (refine held_take 17 32 ?_ rfl (by kernel_rfl) (by kernel_rfl) (by kernel_rfl) (by kernel_rfl) (fun _ _ _ h => h) (by kernel_rfl) ?_ (by assumption) ?_; rotate_left; (intro w hSw; clear hSw; go_simp); (try with_reducible rfl); simp only [List.set_cons_zero, List.set_cons_succ])
          (refine held_take 18 33 ?_ rfl (by kernel_rfl) (by kernel_rfl) (by kernel_rfl) (by kernel_rfl) (fun _ _ _ h => h) (by kernel_rfl) ?_ (by assumption) ?_; rotate_left; (intro w hSw; clear hSw; go_simp); (try with_reducible rfl); simp only [List.set_cons_zero, List.set_cons_succ])
          refine wpAnyH_done (by kernel_rfl) ?_ _
          obtain ⟨cc, hcc⟩ : ∃ z, compareL l2 l1 = z := ⟨_, rfl⟩
          rw [hcc] at HOK
          simp only [hcc]
          clear hcc
          by_cases hlo : cc < 0
          · have hge : ¬ (0 ≤ cc) := by omega
            have HGOOD := Lib.hid (upto_step HU.out (by rw [HOK.out]; simpa using hlo))
            have hge2 : decide (0 ≤ cc) = false := decide_eq_false hge
            go_wp2
            exact ⟨⟨j + 2, by omega, by go_num, HGOOD.out, HBX.out.trans (HS.out.mono HBX.out.size)⟩, by simp [intOf]; omega⟩
          · have hge : 0 ≤ cc := by omega
            have HBAD := Lib.hid (ok_bad H4.out (by rw [HNL.out]; exact hlt) (by rw [HOK.out]; simpa using hlo))
            have hge2 : decide (0 ≤ cc) = true := decide_eq_true hge
            go_wp2
            go_ret
            exact ⟨by rw [HBAD.out]; rfl, HBX.out.trans (HS.out.mono HBX.out.size)⟩
    · have hkN : k = N := by omega
      subst hkN
      have hki : ¬ ((k : Int) < (k : Int)) := by omega
      have HC := Lib.hid (ok_all H4.out (by rw [HNL.out]; exact HU.out))
      go_wp2
      go_ret
      exact ⟨by rw [HC.out]; rfl, HB.out⟩
end Go.Proofs.YtgmdlnobajmjfaaDoor
