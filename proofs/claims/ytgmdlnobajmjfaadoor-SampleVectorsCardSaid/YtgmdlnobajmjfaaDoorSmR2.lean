/- The reference's value check, CheckVector, Same. Printed by wip/gen_smr2.py out of wip/smr2.tmpl. -/
import Derived.Test.YtgmdlnobajmjfaaDoorSmR1
import Derived.Test.YtgmdlnobajmjfaaDoorSm4
namespace Go.Proofs.YtgmdlnobajmjfaaDoor
open Go.RowKit
set_option linter.unusedSimpArgs false
set_option linter.unusedVariables false

theorem rVal (x : Int) (o : Bool) (W : World) : Calls Tryd.prog 29 #[.agg #[.int .i64 x, .bool o]] W fun e w' => e = .returned (.int .i64 (if (!(o && decide (x ≠ 0))) = true then 0 else 2)) ∧ Below W.heap.size W w' := by
  cases o with
  | false =>
    go_enter Tryd.func29, Tryd.ntmps29; (try simp only [List.append_eq, List.cons_append, List.nil_append])
    go_wp2
    go_ret
    exact ⟨rfl, (Below.refl _ _).alloc (Nat.le_refl _) _⟩
  | true =>
    by_cases h : x = 0
    · subst h
      go_enter Tryd.func29, Tryd.ntmps29; (try simp only [List.append_eq, List.cons_append, List.nil_append])
      go_wp2
      go_ret
      exact ⟨rfl, (Below.refl _ _).alloc (Nat.le_refl _) _⟩
    · have hx : (x != 0) = true := by simp [h]
      have HE := Lib.hid (show (if (!(true && decide (x ≠ 0))) = true then (0 : Int) else 2) = 2 from by simp [h])
      clear h
      rw [HE.out]
      go_enter Tryd.func29, Tryd.ntmps29; (try simp only [List.append_eq, List.cons_append, List.nil_append])
      go_wp2
      go_ret
      exact ⟨rfl, (Below.refl _ _).alloc (Nat.le_refl _) _⟩
theorem Qt.below {v : Value} {W w' : World} {e : Ending} (h : Qt v W e w') : e = .returned v ∧ Below W.heap.size W w' := by
  obtain ⟨h1, n, rfl⟩ := h
  exact ⟨h1, below_drewN (Below.refl _ _) _⟩
theorem right_lab {r : Rs} (h : checkL r.labs ≠ 0) : rightR r = false := by unfold rightR; rw [decide_eq_false h]; rfl
theorem right_val {l : List Lab} {x : Int} {o : Bool} (h : (!(o && decide (x ≠ 0))) = false) : rightR ⟨l, x, o⟩ = false := by
  unfold rightR valB
  rw [h]; simp
theorem right_ok {l : List Lab} {x : Int} {o : Bool} (h1 : checkL l = 0) (h : (!(o && decide (x ≠ 0))) = true) : rightR ⟨l, x, o⟩ = true := by
  unfold rightR valB
  rw [h, decide_eq_true h1]; rfl
set_option maxRecDepth 100000 in
set_option maxHeartbeats 16000000 in
theorem rCheckV {l : List Rs} {v : Value} {n : Nat} {W : World} (hn : n ≤ W.heap.size) (hv : IsRes n W v l) :
    Calls Tryd.prog 14 #[v] W fun e w' => e = .returned (.int .i64 (checkV l)) ∧ Below W.heap.size W w' := by
  obtain ⟨pv, cv, rfl, hcv1, hcv2⟩ := hv.open
  unfold maxLen at hcv2
  have HV := Lib.hid hv; have HN := Lib.hid hn
  clear hv hn
  obtain ⟨N, hN⟩ : ∃ z, l.length = z := ⟨_, rfl⟩
  rw [hN] at HV hcv1 ⊢
  have HNL := Lib.hid hN
  clear hN
  have hlen : (N : Int) ≤ 9223372036854775807 := by omega
  by_cases h4 : 4096 < N
  · have h4i : (4096 : Int) < (N : Int) := by omega
    have HC := Lib.hid (show checkV l = 3 from by unfold checkV; rw [if_pos (by rw [HNL.out]; exact h4)])
    go_enter Tryd.func14, Tryd.ntmps14; (try simp only [List.append_eq, List.cons_append, List.nil_append])
    go_wp2
    go_ret
    exact ⟨by rw [HC.out]; rfl, Below.refl _ _⟩
  have h4j : (N : Int) ≤ 4096 := by omega
  have h4b : decide ((4096 : Int) < (N : Int)) = false := decide_eq_false (by omega)
  have H4 := Lib.hid (show ¬ 4096 < l.length from by rw [HNL.out]; exact h4)
  clear h4
  go_enter Tryd.func14, Tryd.ntmps14; (try simp only [List.append_eq, List.cons_append, List.nil_append])
  go_wp2
  go_loopw [3] (fun j wr => ∃ k : Nat, k ≤ N ∧ j = .int .i64 k ∧ upto (okAt l) k = true ∧ Below W.heap.size W wr) (fun j _ => N - (intOf j).toNat)
  case atStart => exact ⟨0, Nat.zero_le _, rfl, rfl, Below.refl _ _⟩
  case round =>
    obtain ⟨k, hk, rfl, hu, hb⟩ := hrel
    have HU := Lib.hid hu; have HBX := Lib.hid hb
    clear hu hb
    by_cases hlt : k < N
    · have hki : (k : Int) < (N : Int) := by omega
      have hk0 : (0 : Int) ≤ (k : Int) := by omega
      obtain ⟨r, hr⟩ : ∃ r, l[k]? = some r := ⟨_, List.getElem?_eq_getElem (by have := HNL.out; omega)⟩
      obtain ⟨X, hX⟩ : ∃ z, z = wr := ⟨_, rfl⟩
      subst hX
      have hvn := HV.out.mono (HBX.out.mono HN.out) (Nat.le_trans HN.out HBX.out.size)
      obtain ⟨b1, o2, q1, c1, rfl, hb1, d0, d1, d2, hl1, -⟩ := hvn.get hr
      have HVX := Lib.hid hvn
      have HR := Lib.hid hr
      have HL1 := Lib.hid hl1
      clear hvn hr hl1
      obtain ⟨l1, x1, o1⟩ := r
      simp only at d0 d1 d2 HL1
      obtain ⟨cl, hcl⟩ : ∃ z, checkL l1 = z := ⟨_, rfl⟩
      have HCL := Lib.hid hcl
      go_upto_region 6 with fail
      by_cases h0 : cl = 0
      case neg =>
        have HBAD := Lib.hid (ok_bad H4.out (by rw [HNL.out]; exact hlt) (ok_wrong HR.out (right_lab (r := ⟨l1, x1, o1⟩) (by show checkL l1 ≠ 0; rw [hcl]; exact h0))))
        have hx : (cl != 0) = true := by simp [h0]
        clear hcl h0
        refine wp_region_held_drew (S := fun w => Below X.heap.size X w) (by kernel_rfl) (Below.drew (Below.refl _ _)) (fun hHeld => ?_)
        have HS := Lib.hid (Below.drew (Below.refl X.heap.size X))
        try clear hHeld
        have hSS := HS.out
        obtain ⟨X2, hX2⟩ : ∃ z, X.drew = z := ⟨_, rfl⟩
        rw [hX2] at HS hSS ⊢
        clear hX2
        (refine held_take 0 13 ?_ rfl (by kernel_rfl) (by kernel_rfl) (by kernel_rfl) (by kernel_rfl) (fun _ _ _ h => h) (by kernel_rfl) ?_ (by assumption) ?_; rotate_left; (intro w hSw; clear hSw; go_simp); (try with_reducible rfl); simp only [List.set_cons_zero, List.set_cons_succ])
        (refine held_take 1 14 ?_ rfl (by kernel_rfl) (by kernel_rfl) (by kernel_rfl) (by kernel_rfl) (fun _ _ _ h => h) (by kernel_rfl) ?_ (by assumption) ?_; rotate_left; (intro w hSw; clear hSw; go_simp); (try with_reducible rfl); simp only [List.set_cons_zero, List.set_cons_succ])
        (refine held_take 2 15 (.pointer (some ⟨b1, o2 + k * 3, none⟩)) rfl rfl (by kernel_rfl) (by kernel_rfl) (by kernel_rfl) (fun _ _ _ h => h) (by kernel_rfl) ?_ (by assumption) ?_; (intro w hSw; clear hSw; go_simp); simp only [List.set_cons_zero, List.set_cons_succ])
        (refine held_take 3 16 (.pointer (some ⟨b1, o2 + k * 3, none⟩)) rfl rfl (by kernel_rfl) (by kernel_rfl) (by kernel_rfl) (fun _ _ _ h => h) (by kernel_rfl) ?_ (by assumption) ?_; (intro w hSw; clear hSw; first | rfl | go_simp); simp only [List.set_cons_zero, List.set_cons_succ])
        (refine held_take 4 17 (.slice q1 l1.length c1) rfl rfl (by kernel_rfl) (by kernel_rfl) (by kernel_rfl) (fun _ _ _ h => h) (by kernel_rfl) ?_ (by assumption) ?_; (intro w hSw; have f_d0 := (hSw.cell (p := ⟨b1, o2 + k * 3, none⟩) hb1).trans d0; clear hSw; go_simp); simp only [List.set_cons_zero, List.set_cons_succ])
        refine wpAnyH_ready (rs := [5]) (by kernel_rfl) (by simp) (.cons rfl (fun K hK => ?_) .nil)
        rw [if_pos (by kernel_rfl)]
        go_simp
        refine (rCheck3 HS.out.size (HL1.out.mono HS.out (Nat.le_refl _))).mono ?_
        rintro e w9 hq9
        obtain ⟨rfl, hb9⟩ := hq9.below
        clear hq9
        rw [HCL.out]
        have HS := Lib.hid (HS.out.trans (hb9.mono HS.out.size))
        clear hb9
        have hSS := HS.out
        refine hK.out _ _ HS.out (fun hHeld => ?_)
        clear hK K
        (try simp only [Act.put, List.setIfInBounds_toArray, List.set_cons_zero, List.set_cons_succ])
        (refine held_take 6 19 ?_ rfl (by kernel_rfl) (by kernel_rfl) (by kernel_rfl) (by kernel_rfl) (fun _ _ _ h => h) (by kernel_rfl) ?_ (by assumption) ?_; rotate_left; (intro w hSw; clear hSw; go_simp); (try with_reducible rfl); simp only [List.set_cons_zero, List.set_cons_succ])
        (refine held_take 7 20 ?_ rfl (by kernel_rfl) (by kernel_rfl) (by kernel_rfl) (by kernel_rfl) (fun _ _ _ h => h) (by kernel_rfl) ?_ (by assumption) ?_; rotate_left; (intro w hSw; clear hSw; go_simp); (try with_reducible rfl); simp only [List.set_cons_zero, List.set_cons_succ])
        (refine held_skip 8 21 rfl (by kernel_rfl) (by kernel_rfl) (by kernel_rfl) (by kernel_rfl) (fun _ _ _ h => h) (by kernel_rfl) (by assumption) ?_; simp only [List.set_cons_zero, List.set_cons_succ])
        (refine held_skip 9 22 rfl (by kernel_rfl) (by kernel_rfl) (by kernel_rfl) (by kernel_rfl) (fun _ _ _ h => h) (by kernel_rfl) (by assumption) ?_; simp only [List.set_cons_zero, List.set_cons_succ])
        (refine held_skip 10 23 rfl (by kernel_rfl) (by kernel_rfl) (by kernel_rfl) (by kernel_rfl) (fun _ _ _ h => h) (by kernel_rfl) (by assumption) ?_; simp only [List.set_cons_zero, List.set_cons_succ])
        (refine held_skip 11 24 rfl (by kernel_rfl) (by kernel_rfl) (by kernel_rfl) (by kernel_rfl) (fun _ _ _ h => h) (by kernel_rfl) (by assumption) ?_; simp only [List.set_cons_zero, List.set_cons_succ])
        (refine held_skip 12 25 rfl (by kernel_rfl) (by kernel_rfl) (by kernel_rfl) (by kernel_rfl) (fun _ _ _ h => h) (by kernel_rfl) (by assumption) ?_; simp only [List.set_cons_zero, List.set_cons_succ])
        (refine held_skip 13 26 rfl (by kernel_rfl) (by kernel_rfl) (by kernel_rfl) (by kernel_rfl) (fun _ _ _ h => h) (by kernel_rfl) (by assumption) ?_; simp only [List.set_cons_zero, List.set_cons_succ])
        (refine held_skip 14 27 rfl (by kernel_rfl) (by kernel_rfl) (by kernel_rfl) (by kernel_rfl) (fun _ _ _ h => h) (by kernel_rfl) (by assumption) ?_; simp only [List.set_cons_zero, List.set_cons_succ])
        (refine held_take 15 28 ?_ rfl (by kernel_rfl) (by kernel_rfl) (by kernel_rfl) (by kernel_rfl) (fun _ _ _ h => h) (by kernel_rfl) ?_ (by assumption) ?_; rotate_left; (intro w hSw; clear hSw; go_simp); (try with_reducible rfl); simp only [List.set_cons_zero, List.set_cons_succ])
        (refine held_take 16 29 ?_ rfl (by kernel_rfl) (by kernel_rfl) (by kernel_rfl) (by kernel_rfl) (fun _ _ _ h => h) (by kernel_rfl) ?_ (by assumption) ?_; rotate_left; (intro w hSw; clear hSw; go_simp); (try with_reducible rfl); simp only [List.set_cons_zero, List.set_cons_succ])
        (refine held_skip 17 30 rfl (by kernel_rfl) (by kernel_rfl) (by kernel_rfl) (by kernel_rfl) (fun _ _ _ h => h) (by kernel_rfl) (by assumption) ?_; simp only [List.set_cons_zero, List.set_cons_succ])
        (refine held_skip 18 31 rfl (by kernel_rfl) (by kernel_rfl) (by kernel_rfl) (by kernel_rfl) (fun _ _ _ h => h) (by kernel_rfl) (by assumption) ?_; simp only [List.set_cons_zero, List.set_cons_succ])
        (refine held_skip 19 32 rfl (by kernel_rfl) (by kernel_rfl) (by kernel_rfl) (by kernel_rfl) (fun _ _ _ h => h) (by kernel_rfl) (by assumption) ?_; simp only [List.set_cons_zero, List.set_cons_succ])
        (refine held_skip 20 33 rfl (by kernel_rfl) (by kernel_rfl) (by kernel_rfl) (by kernel_rfl) (fun _ _ _ h => h) (by kernel_rfl) (by assumption) ?_; simp only [List.set_cons_zero, List.set_cons_succ])
        (refine held_skip 21 34 rfl (by kernel_rfl) (by kernel_rfl) (by kernel_rfl) (by kernel_rfl) (fun _ _ _ h => h) (by kernel_rfl) (by assumption) ?_; simp only [List.set_cons_zero, List.set_cons_succ])
        (refine held_skip 22 35 rfl (by kernel_rfl) (by kernel_rfl) (by kernel_rfl) (by kernel_rfl) (fun _ _ _ h => h) (by kernel_rfl) (by assumption) ?_; simp only [List.set_cons_zero, List.set_cons_succ])
        (refine held_skip 23 36 rfl (by kernel_rfl) (by kernel_rfl) (by kernel_rfl) (by kernel_rfl) (fun _ _ _ h => h) (by kernel_rfl) (by assumption) ?_; simp only [List.set_cons_zero, List.set_cons_succ])
        (refine held_skip 24 37 rfl (by kernel_rfl) (by kernel_rfl) (by kernel_rfl) (by kernel_rfl) (fun _ _ _ h => h) (by kernel_rfl) (by assumption) ?_; simp only [List.set_cons_zero, List.set_cons_succ])
        (refine held_skip 25 38 rfl (by kernel_rfl) (by kernel_rfl) (by kernel_rfl) (by kernel_rfl) (fun _ _ _ h => h) (by kernel_rfl) (by assumption) ?_; simp only [List.set_cons_zero, List.set_cons_succ])
        (refine held_skip 26 39 rfl (by kernel_rfl) (by kernel_rfl) (by kernel_rfl) (by kernel_rfl) (fun _ _ _ h => h) (by kernel_rfl) (by assumption) ?_; simp only [List.set_cons_zero, List.set_cons_succ])
        (refine held_skip 27 40 rfl (by kernel_rfl) (by kernel_rfl) (by kernel_rfl) (by kernel_rfl) (fun _ _ _ h => h) (by kernel_rfl) (by assumption) ?_; simp only [List.set_cons_zero, List.set_cons_succ])
        (refine held_skip 28 41 rfl (by kernel_rfl) (by kernel_rfl) (by kernel_rfl) (by kernel_rfl) (fun _ _ _ h => h) (by kernel_rfl) (by assumption) ?_; simp only [List.set_cons_zero, List.set_cons_succ])
        (refine held_skip 29 42 rfl (by kernel_rfl) (by kernel_rfl) (by kernel_rfl) (by kernel_rfl) (fun _ _ _ h => h) (by kernel_rfl) (by assumption) ?_; simp only [List.set_cons_zero, List.set_cons_succ])
        (refine held_skip 30 43 rfl (by kernel_rfl) (by kernel_rfl) (by kernel_rfl) (by kernel_rfl) (fun _ _ _ h => h) (by kernel_rfl) (by assumption) ?_; simp only [List.set_cons_zero, List.set_cons_succ])
        (refine held_skip 31 44 rfl (by kernel_rfl) (by kernel_rfl) (by kernel_rfl) (by kernel_rfl) (fun _ _ _ h => h) (by kernel_rfl) (by assumption) ?_; simp only [List.set_cons_zero, List.set_cons_succ])
        (refine held_skip 32 45 rfl (by kernel_rfl) (by kernel_rfl) (by kernel_rfl) (by kernel_rfl) (fun _ _ _ h => h) (by kernel_rfl) (by assumption) ?_; simp only [List.set_cons_zero, List.set_cons_succ])
        (refine held_skip 33 46 rfl (by kernel_rfl) (by kernel_rfl) (by kernel_rfl) (by kernel_rfl) (fun _ _ _ h => h) (by kernel_rfl) (by assumption) ?_; simp only [List.set_cons_zero, List.set_cons_succ])
        (refine held_take 34 47 ?_ rfl (by kernel_rfl) (by kernel_rfl) (by kernel_rfl) (by kernel_rfl) (fun _ _ _ h => h) (by kernel_rfl) ?_ (by assumption) ?_; rotate_left; (intro w hSw; clear hSw; go_simp); (try with_reducible rfl); simp only [List.set_cons_zero, List.set_cons_succ])
        refine wpAnyH_done (by kernel_rfl) ?_ _
        go_wp2
        go_ret
        exact ⟨by rw [HBAD.out]; rfl, HBX.out.trans (HS.out.mono HBX.out.size)⟩
      subst h0
      obtain ⟨vb, hvb⟩ : ∃ z, (!(o1 && decide (x1 ≠ 0))) = z := ⟨_, rfl⟩
      have HVB := Lib.hid hvb
      cases vb with
      | false =>
        have HBAD := Lib.hid (ok_bad H4.out (by rw [HNL.out]; exact hlt) (ok_wrong HR.out (right_val hvb)))
        clear hcl hvb
        refine wp_region_held_drew (S := fun w => Below X.heap.size X w) (by kernel_rfl) (Below.drew (Below.refl _ _)) (fun hHeld => ?_)
        have HS := Lib.hid (Below.drew (Below.refl X.heap.size X))
        try clear hHeld
        have hSS := HS.out
        obtain ⟨X2, hX2⟩ : ∃ z, X.drew = z := ⟨_, rfl⟩
        rw [hX2] at HS hSS ⊢
        clear hX2
        (refine held_take 0 13 ?_ rfl (by kernel_rfl) (by kernel_rfl) (by kernel_rfl) (by kernel_rfl) (fun _ _ _ h => h) (by kernel_rfl) ?_ (by assumption) ?_; rotate_left; (intro w hSw; clear hSw; go_simp); (try with_reducible rfl); simp only [List.set_cons_zero, List.set_cons_succ])
        (refine held_take 1 14 ?_ rfl (by kernel_rfl) (by kernel_rfl) (by kernel_rfl) (by kernel_rfl) (fun _ _ _ h => h) (by kernel_rfl) ?_ (by assumption) ?_; rotate_left; (intro w hSw; clear hSw; go_simp); (try with_reducible rfl); simp only [List.set_cons_zero, List.set_cons_succ])
        (refine held_take 2 15 (.pointer (some ⟨b1, o2 + k * 3, none⟩)) rfl rfl (by kernel_rfl) (by kernel_rfl) (by kernel_rfl) (fun _ _ _ h => h) (by kernel_rfl) ?_ (by assumption) ?_; (intro w hSw; clear hSw; go_simp); simp only [List.set_cons_zero, List.set_cons_succ])
        (refine held_take 3 16 (.pointer (some ⟨b1, o2 + k * 3, none⟩)) rfl rfl (by kernel_rfl) (by kernel_rfl) (by kernel_rfl) (fun _ _ _ h => h) (by kernel_rfl) ?_ (by assumption) ?_; (intro w hSw; clear hSw; first | rfl | go_simp); simp only [List.set_cons_zero, List.set_cons_succ])
        (refine held_take 4 17 (.slice q1 l1.length c1) rfl rfl (by kernel_rfl) (by kernel_rfl) (by kernel_rfl) (fun _ _ _ h => h) (by kernel_rfl) ?_ (by assumption) ?_; (intro w hSw; have f_d0 := (hSw.cell (p := ⟨b1, o2 + k * 3, none⟩) hb1).trans d0; clear hSw; go_simp); simp only [List.set_cons_zero, List.set_cons_succ])
        refine wpAnyH_ready (rs := [5]) (by kernel_rfl) (by simp) (.cons rfl (fun K hK => ?_) .nil)
        rw [if_pos (by kernel_rfl)]
        go_simp
        refine (rCheck3 HS.out.size (HL1.out.mono HS.out (Nat.le_refl _))).mono ?_
        rintro e w9 hq9
        obtain ⟨rfl, hb9⟩ := hq9.below
        clear hq9
        rw [HCL.out]
        have HS := Lib.hid (HS.out.trans (hb9.mono HS.out.size))
        clear hb9
        have hSS := HS.out
        refine hK.out _ _ HS.out (fun hHeld => ?_)
        clear hK K
        (try simp only [Act.put, List.setIfInBounds_toArray, List.set_cons_zero, List.set_cons_succ])
        (refine held_take 6 19 (.bool false) rfl rfl (by kernel_rfl) (by kernel_rfl) (by kernel_rfl) (fun _ _ _ h => h) (by kernel_rfl) ?_ (by assumption) ?_; (intro w hSw; clear hSw; first | rfl | go_simp); simp only [List.set_cons_zero, List.set_cons_succ])
        (refine held_take 7 20 (.bool false) rfl rfl (by kernel_rfl) (by kernel_rfl) (by kernel_rfl) (fun _ _ _ h => h) (by kernel_rfl) ?_ (by assumption) ?_; (intro w hSw; clear hSw; first | rfl | go_simp); simp only [List.set_cons_zero, List.set_cons_succ])
        (refine held_take 8 21 ?_ rfl (by kernel_rfl) (by kernel_rfl) (by kernel_rfl) (by kernel_rfl) (fun _ _ _ h => h) (by kernel_rfl) ?_ (by assumption) ?_; rotate_left; (intro w hSw; clear hSw; go_simp); (try with_reducible rfl); simp only [List.set_cons_zero, List.set_cons_succ])
        (refine held_take 9 22 ?_ rfl (by kernel_rfl) (by kernel_rfl) (by kernel_rfl) (by kernel_rfl) (fun _ _ _ h => h) (by kernel_rfl) ?_ (by assumption) ?_; rotate_left; (intro w hSw; clear hSw; go_simp); (try with_reducible rfl); simp only [List.set_cons_zero, List.set_cons_succ])
        (refine held_take 10 23 (.pointer (some ⟨b1, o2 + k * 3, none⟩)) rfl rfl (by kernel_rfl) (by kernel_rfl) (by kernel_rfl) (fun _ _ _ h => h) (by kernel_rfl) ?_ (by assumption) ?_; (intro w hSw; clear hSw; go_simp); simp only [List.set_cons_zero, List.set_cons_succ])
        (refine held_take 11 24 (.pointer (some ⟨b1, o2 + k * 3 + 1, none⟩)) rfl rfl (by kernel_rfl) (by kernel_rfl) (by kernel_rfl) (fun _ _ _ h => h) (by kernel_rfl) ?_ (by assumption) ?_; (intro w hSw; clear hSw; first | rfl | go_simp); simp only [List.set_cons_zero, List.set_cons_succ])
        (refine held_take 12 25 (.agg #[.int .i64 x1, .bool o1]) rfl rfl (by kernel_rfl) (by kernel_rfl) (by kernel_rfl) (fun _ _ _ h => h) (by kernel_rfl) ?_ (by assumption) ?_; (intro w hSw; have f_d1 := (hSw.cell (p := ⟨b1, o2 + k * 3 + 1, none⟩) hb1).trans d1; have f_d2 := (hSw.cell (p := ⟨b1, o2 + k * 3 + 2, none⟩) hb1).trans d2; clear hSw; go_simp); simp only [List.set_cons_zero, List.set_cons_succ])
        refine wpAnyH_ready (rs := [13]) (by kernel_rfl) (by simp) (.cons rfl (fun K hK => ?_) .nil)
        rw [if_pos (by kernel_rfl)]
        go_simp
        refine (rVal x1 o1 _).mono ?_
        rintro e w9 ⟨rfl, hb9⟩
        rw [HVB.out]
        simp only [Bool.false_eq_true, if_false, if_true]
        have HS := Lib.hid (HS.out.trans (hb9.mono HS.out.size))
        clear hb9
        have hSS := HS.out
        refine hK.out _ _ HS.out (fun hHeld => ?_)
        clear hK K
        (try simp only [Act.put, List.setIfInBounds_toArray, List.set_cons_zero, List.set_cons_succ])
        (refine held_take 14 27 ?_ rfl (by kernel_rfl) (by kernel_rfl) (by kernel_rfl) (by kernel_rfl) (fun _ _ _ h => h) (by kernel_rfl) ?_ (by assumption) ?_; rotate_left; (intro w hSw; clear hSw; go_simp); (try with_reducible rfl); simp only [List.set_cons_zero, List.set_cons_succ])
        (refine held_take 15 28 ?_ rfl (by kernel_rfl) (by kernel_rfl) (by kernel_rfl) (by kernel_rfl) (fun _ _ _ h => h) (by kernel_rfl) ?_ (by assumption) ?_; rotate_left; (intro w hSw; clear hSw; go_simp); (try with_reducible rfl); simp only [List.set_cons_zero, List.set_cons_succ])
        (refine held_take 16 29 ?_ rfl (by kernel_rfl) (by kernel_rfl) (by kernel_rfl) (by kernel_rfl) (fun _ _ _ h => h) (by kernel_rfl) ?_ (by assumption) ?_; rotate_left; (intro w hSw; clear hSw; go_simp); (try with_reducible rfl); simp only [List.set_cons_zero, List.set_cons_succ])
        (refine held_skip 17 30 rfl (by kernel_rfl) (by kernel_rfl) (by kernel_rfl) (by kernel_rfl) (fun _ _ _ h => h) (by kernel_rfl) (by assumption) ?_; simp only [List.set_cons_zero, List.set_cons_succ])
        (refine held_skip 18 31 rfl (by kernel_rfl) (by kernel_rfl) (by kernel_rfl) (by kernel_rfl) (fun _ _ _ h => h) (by kernel_rfl) (by assumption) ?_; simp only [List.set_cons_zero, List.set_cons_succ])
        (refine held_skip 19 32 rfl (by kernel_rfl) (by kernel_rfl) (by kernel_rfl) (by kernel_rfl) (fun _ _ _ h => h) (by kernel_rfl) (by assumption) ?_; simp only [List.set_cons_zero, List.set_cons_succ])
        (refine held_skip 20 33 rfl (by kernel_rfl) (by kernel_rfl) (by kernel_rfl) (by kernel_rfl) (fun _ _ _ h => h) (by kernel_rfl) (by assumption) ?_; simp only [List.set_cons_zero, List.set_cons_succ])
        (refine held_skip 21 34 rfl (by kernel_rfl) (by kernel_rfl) (by kernel_rfl) (by kernel_rfl) (fun _ _ _ h => h) (by kernel_rfl) (by assumption) ?_; simp only [List.set_cons_zero, List.set_cons_succ])
        (refine held_skip 22 35 rfl (by kernel_rfl) (by kernel_rfl) (by kernel_rfl) (by kernel_rfl) (fun _ _ _ h => h) (by kernel_rfl) (by assumption) ?_; simp only [List.set_cons_zero, List.set_cons_succ])
        (refine held_skip 23 36 rfl (by kernel_rfl) (by kernel_rfl) (by kernel_rfl) (by kernel_rfl) (fun _ _ _ h => h) (by kernel_rfl) (by assumption) ?_; simp only [List.set_cons_zero, List.set_cons_succ])
        (refine held_skip 24 37 rfl (by kernel_rfl) (by kernel_rfl) (by kernel_rfl) (by kernel_rfl) (fun _ _ _ h => h) (by kernel_rfl) (by assumption) ?_; simp only [List.set_cons_zero, List.set_cons_succ])
        (refine held_skip 25 38 rfl (by kernel_rfl) (by kernel_rfl) (by kernel_rfl) (by kernel_rfl) (fun _ _ _ h => h) (by kernel_rfl) (by assumption) ?_; simp only [List.set_cons_zero, List.set_cons_succ])
        (refine held_skip 26 39 rfl (by kernel_rfl) (by kernel_rfl) (by kernel_rfl) (by kernel_rfl) (fun _ _ _ h => h) (by kernel_rfl) (by assumption) ?_; simp only [List.set_cons_zero, List.set_cons_succ])
        (refine held_skip 27 40 rfl (by kernel_rfl) (by kernel_rfl) (by kernel_rfl) (by kernel_rfl) (fun _ _ _ h => h) (by kernel_rfl) (by assumption) ?_; simp only [List.set_cons_zero, List.set_cons_succ])
        (refine held_skip 28 41 rfl (by kernel_rfl) (by kernel_rfl) (by kernel_rfl) (by kernel_rfl) (fun _ _ _ h => h) (by kernel_rfl) (by assumption) ?_; simp only [List.set_cons_zero, List.set_cons_succ])
        (refine held_skip 29 42 rfl (by kernel_rfl) (by kernel_rfl) (by kernel_rfl) (by kernel_rfl) (fun _ _ _ h => h) (by kernel_rfl) (by assumption) ?_; simp only [List.set_cons_zero, List.set_cons_succ])
        (refine held_skip 30 43 rfl (by kernel_rfl) (by kernel_rfl) (by kernel_rfl) (by kernel_rfl) (fun _ _ _ h => h) (by kernel_rfl) (by assumption) ?_; simp only [List.set_cons_zero, List.set_cons_succ])
        (refine held_skip 31 44 rfl (by kernel_rfl) (by kernel_rfl) (by kernel_rfl) (by kernel_rfl) (fun _ _ _ h => h) (by kernel_rfl) (by assumption) ?_; simp only [List.set_cons_zero, List.set_cons_succ])
        (refine held_skip 32 45 rfl (by kernel_rfl) (by kernel_rfl) (by kernel_rfl) (by kernel_rfl) (fun _ _ _ h => h) (by kernel_rfl) (by assumption) ?_; simp only [List.set_cons_zero, List.set_cons_succ])
        (refine held_skip 33 46 rfl (by kernel_rfl) (by kernel_rfl) (by kernel_rfl) (by kernel_rfl) (fun _ _ _ h => h) (by kernel_rfl) (by assumption) ?_; simp only [List.set_cons_zero, List.set_cons_succ])
        (refine held_take 34 47 ?_ rfl (by kernel_rfl) (by kernel_rfl) (by kernel_rfl) (by kernel_rfl) (fun _ _ _ h => h) (by kernel_rfl) ?_ (by assumption) ?_; rotate_left; (intro w hSw; clear hSw; go_simp); (try with_reducible rfl); simp only [List.set_cons_zero, List.set_cons_succ])
        refine wpAnyH_done (by kernel_rfl) ?_ _
        go_wp2
        go_ret
        exact ⟨by rw [HBAD.out]; rfl, HBX.out.trans (HS.out.mono HBX.out.size)⟩
      | true =>
        have hrb := right_ok hcl hvb
        clear hcl hvb
        rcases Nat.eq_zero_or_pos k with rfl | hkp
        ·
          have HGOOD := Lib.hid (upto_step HU.out (ok_zero HR.out hrb))
          clear hrb
          simp only [Nat.zero_mul, Nat.add_zero] at d0 d1 d2
          refine wp_region_held_drew (S := fun w => Below X.heap.size X w) (by kernel_rfl) (Below.drew (Below.refl _ _)) (fun hHeld => ?_)
          have HS := Lib.hid (Below.drew (Below.refl X.heap.size X))
          try clear hHeld
          have hSS := HS.out
          obtain ⟨X2, hX2⟩ : ∃ z, X.drew = z := ⟨_, rfl⟩
          rw [hX2] at HS hSS ⊢
          clear hX2
          (refine held_take 0 13 ?_ rfl (by kernel_rfl) (by kernel_rfl) (by kernel_rfl) (by kernel_rfl) (fun _ _ _ h => h) (by kernel_rfl) ?_ (by assumption) ?_; rotate_left; (intro w hSw; clear hSw; go_simp); (try with_reducible rfl); simp only [List.set_cons_zero, List.set_cons_succ])
          (refine held_take 1 14 ?_ rfl (by kernel_rfl) (by kernel_rfl) (by kernel_rfl) (by kernel_rfl) (fun _ _ _ h => h) (by kernel_rfl) ?_ (by assumption) ?_; rotate_left; (intro w hSw; clear hSw; go_simp); (try with_reducible rfl); simp only [List.set_cons_zero, List.set_cons_succ])
          (refine held_take 2 15 (.pointer (some ⟨b1, o2, none⟩)) rfl rfl (by kernel_rfl) (by kernel_rfl) (by kernel_rfl) (fun _ _ _ h => h) (by kernel_rfl) ?_ (by assumption) ?_; (intro w hSw; clear hSw; go_simp); simp only [List.set_cons_zero, List.set_cons_succ])
          (refine held_take 3 16 (.pointer (some ⟨b1, o2, none⟩)) rfl rfl (by kernel_rfl) (by kernel_rfl) (by kernel_rfl) (fun _ _ _ h => h) (by kernel_rfl) ?_ (by assumption) ?_; (intro w hSw; clear hSw; first | rfl | go_simp); simp only [List.set_cons_zero, List.set_cons_succ])
          (refine held_take 4 17 (.slice q1 l1.length c1) rfl rfl (by kernel_rfl) (by kernel_rfl) (by kernel_rfl) (fun _ _ _ h => h) (by kernel_rfl) ?_ (by assumption) ?_; (intro w hSw; have f_d0 := (hSw.cell (p := ⟨b1, o2, none⟩) hb1).trans d0; clear hSw; go_simp); simp only [List.set_cons_zero, List.set_cons_succ])
          refine wpAnyH_ready (rs := [5]) (by kernel_rfl) (by simp) (.cons rfl (fun K hK => ?_) .nil)
          rw [if_pos (by kernel_rfl)]
          go_simp
          refine (rCheck3 HS.out.size (HL1.out.mono HS.out (Nat.le_refl _))).mono ?_
          rintro e w9 hq9
          obtain ⟨rfl, hb9⟩ := hq9.below
          clear hq9
          rw [HCL.out]
          have HS := Lib.hid (HS.out.trans (hb9.mono HS.out.size))
          clear hb9
          have hSS := HS.out
          refine hK.out _ _ HS.out (fun hHeld => ?_)
          clear hK K
          (try simp only [Act.put, List.setIfInBounds_toArray, List.set_cons_zero, List.set_cons_succ])
          (refine held_take 6 19 (.bool false) rfl rfl (by kernel_rfl) (by kernel_rfl) (by kernel_rfl) (fun _ _ _ h => h) (by kernel_rfl) ?_ (by assumption) ?_; (intro w hSw; clear hSw; first | rfl | go_simp); simp only [List.set_cons_zero, List.set_cons_succ])
          (refine held_take 7 20 (.bool false) rfl rfl (by kernel_rfl) (by kernel_rfl) (by kernel_rfl) (fun _ _ _ h => h) (by kernel_rfl) ?_ (by assumption) ?_; (intro w hSw; clear hSw; first | rfl | go_simp); simp only [List.set_cons_zero, List.set_cons_succ])
          (refine held_take 8 21 ?_ rfl (by kernel_rfl) (by kernel_rfl) (by kernel_rfl) (by kernel_rfl) (fun _ _ _ h => h) (by kernel_rfl) ?_ (by assumption) ?_; rotate_left; (intro w hSw; clear hSw; go_simp); (try with_reducible rfl); simp only [List.set_cons_zero, List.set_cons_succ])
          (refine held_take 9 22 ?_ rfl (by kernel_rfl) (by kernel_rfl) (by kernel_rfl) (by kernel_rfl) (fun _ _ _ h => h) (by kernel_rfl) ?_ (by assumption) ?_; rotate_left; (intro w hSw; clear hSw; go_simp); (try with_reducible rfl); simp only [List.set_cons_zero, List.set_cons_succ])
          (refine held_take 10 23 (.pointer (some ⟨b1, o2, none⟩)) rfl rfl (by kernel_rfl) (by kernel_rfl) (by kernel_rfl) (fun _ _ _ h => h) (by kernel_rfl) ?_ (by assumption) ?_; (intro w hSw; clear hSw; go_simp); simp only [List.set_cons_zero, List.set_cons_succ])
          (refine held_take 11 24 (.pointer (some ⟨b1, o2 + 1, none⟩)) rfl rfl (by kernel_rfl) (by kernel_rfl) (by kernel_rfl) (fun _ _ _ h => h) (by kernel_rfl) ?_ (by assumption) ?_; (intro w hSw; clear hSw; first | rfl | go_simp); simp only [List.set_cons_zero, List.set_cons_succ])
          (refine held_take 12 25 (.agg #[.int .i64 x1, .bool o1]) rfl rfl (by kernel_rfl) (by kernel_rfl) (by kernel_rfl) (fun _ _ _ h => h) (by kernel_rfl) ?_ (by assumption) ?_; (intro w hSw; have f_d1 := (hSw.cell (p := ⟨b1, o2 + 1, none⟩) hb1).trans d1; have f_d2 := (hSw.cell (p := ⟨b1, o2 + 2, none⟩) hb1).trans d2; clear hSw; go_simp); simp only [List.set_cons_zero, List.set_cons_succ])
          refine wpAnyH_ready (rs := [13]) (by kernel_rfl) (by simp) (.cons rfl (fun K hK => ?_) .nil)
          rw [if_pos (by kernel_rfl)]
          go_simp
          refine (rVal x1 o1 _).mono ?_
          rintro e w9 ⟨rfl, hb9⟩
          rw [HVB.out]
          simp only [Bool.false_eq_true, if_false, if_true]
          have HS := Lib.hid (HS.out.trans (hb9.mono HS.out.size))
          clear hb9
          have hSS := HS.out
          refine hK.out _ _ HS.out (fun hHeld => ?_)
          clear hK K
          (try simp only [Act.put, List.setIfInBounds_toArray, List.set_cons_zero, List.set_cons_succ])
          (refine held_take 14 27 (.bool false) rfl rfl (by kernel_rfl) (by kernel_rfl) (by kernel_rfl) (fun _ _ _ h => h) (by kernel_rfl) ?_ (by assumption) ?_; (intro w hSw; clear hSw; first | rfl | go_simp); simp only [List.set_cons_zero, List.set_cons_succ])
          (refine held_take 15 28 (.bool false) rfl rfl (by kernel_rfl) (by kernel_rfl) (by kernel_rfl) (fun _ _ _ h => h) (by kernel_rfl) ?_ (by assumption) ?_; (intro w hSw; clear hSw; first | rfl | go_simp); simp only [List.set_cons_zero, List.set_cons_succ])
          (refine held_take 16 29 (.bool false) rfl rfl (by kernel_rfl) (by kernel_rfl) (by kernel_rfl) (fun _ _ _ h => h) (by kernel_rfl) ?_ (by assumption) ?_; (intro w hSw; clear hSw; first | rfl | go_simp); simp only [List.set_cons_zero, List.set_cons_succ])
          (refine held_take 17 30 ?_ rfl (by kernel_rfl) (by kernel_rfl) (by kernel_rfl) (by kernel_rfl) (fun _ _ _ h => h) (by kernel_rfl) ?_ (by assumption) ?_; rotate_left; (intro w hSw; clear hSw; go_simp); (try with_reducible rfl); simp only [List.set_cons_zero, List.set_cons_succ])
          (refine held_take 18 31 (.bool false) rfl rfl (by kernel_rfl) (by kernel_rfl) (by kernel_rfl) (fun _ _ _ h => h) (by kernel_rfl) ?_ (by assumption) ?_; (intro w hSw; clear hSw; first | rfl | go_simp); simp only [List.set_cons_zero, List.set_cons_succ])
          (refine held_take 19 32 (.bool false) rfl rfl (by kernel_rfl) (by kernel_rfl) (by kernel_rfl) (fun _ _ _ h => h) (by kernel_rfl) ?_ (by assumption) ?_; (intro w hSw; clear hSw; first | rfl | go_simp); simp only [List.set_cons_zero, List.set_cons_succ])
          (refine held_skip 20 33 rfl (by kernel_rfl) (by kernel_rfl) (by kernel_rfl) (by kernel_rfl) (fun _ _ _ h => h) (by kernel_rfl) (by assumption) ?_; simp only [List.set_cons_zero, List.set_cons_succ])
          (refine held_skip 21 34 rfl (by kernel_rfl) (by kernel_rfl) (by kernel_rfl) (by kernel_rfl) (fun _ _ _ h => h) (by kernel_rfl) (by assumption) ?_; simp only [List.set_cons_zero, List.set_cons_succ])
          (refine held_skip 22 35 rfl (by kernel_rfl) (by kernel_rfl) (by kernel_rfl) (by kernel_rfl) (fun _ _ _ h => h) (by kernel_rfl) (by assumption) ?_; simp only [List.set_cons_zero, List.set_cons_succ])
          (refine held_skip 23 36 rfl (by kernel_rfl) (by kernel_rfl) (by kernel_rfl) (by kernel_rfl) (fun _ _ _ h => h) (by kernel_rfl) (by assumption) ?_; simp only [List.set_cons_zero, List.set_cons_succ])
          (refine held_skip 24 37 rfl (by kernel_rfl) (by kernel_rfl) (by kernel_rfl) (by kernel_rfl) (fun _ _ _ h => h) (by kernel_rfl) (by assumption) ?_; simp only [List.set_cons_zero, List.set_cons_succ])
          (refine held_skip 25 38 rfl (by kernel_rfl) (by kernel_rfl) (by kernel_rfl) (by kernel_rfl) (fun _ _ _ h => h) (by kernel_rfl) (by assumption) ?_; simp only [List.set_cons_zero, List.set_cons_succ])
          (refine held_skip 26 39 rfl (by kernel_rfl) (by kernel_rfl) (by kernel_rfl) (by kernel_rfl) (fun _ _ _ h => h) (by kernel_rfl) (by assumption) ?_; simp only [List.set_cons_zero, List.set_cons_succ])
          (refine held_skip 27 40 rfl (by kernel_rfl) (by kernel_rfl) (by kernel_rfl) (by kernel_rfl) (fun _ _ _ h => h) (by kernel_rfl) (by assumption) ?_; simp only [List.set_cons_zero, List.set_cons_succ])
          (refine held_skip 28 41 rfl (by kernel_rfl) (by kernel_rfl) (by kernel_rfl) (by kernel_rfl) (fun _ _ _ h => h) (by kernel_rfl) (by assumption) ?_; simp only [List.set_cons_zero, List.set_cons_succ])
          (refine held_skip 29 42 rfl (by kernel_rfl) (by kernel_rfl) (by kernel_rfl) (by kernel_rfl) (fun _ _ _ h => h) (by kernel_rfl) (by assumption) ?_; simp only [List.set_cons_zero, List.set_cons_succ])
          (refine held_skip 30 43 rfl (by kernel_rfl) (by kernel_rfl) (by kernel_rfl) (by kernel_rfl) (fun _ _ _ h => h) (by kernel_rfl) (by assumption) ?_; simp only [List.set_cons_zero, List.set_cons_succ])
          (refine held_skip 31 44 rfl (by kernel_rfl) (by kernel_rfl) (by kernel_rfl) (by kernel_rfl) (fun _ _ _ h => h) (by kernel_rfl) (by assumption) ?_; simp only [List.set_cons_zero, List.set_cons_succ])
          (refine held_skip 32 45 rfl (by kernel_rfl) (by kernel_rfl) (by kernel_rfl) (by kernel_rfl) (fun _ _ _ h => h) (by kernel_rfl) (by assumption) ?_; simp only [List.set_cons_zero, List.set_cons_succ])
          (refine held_take 33 46 (.bool false) rfl rfl (by kernel_rfl) (by kernel_rfl) (by kernel_rfl) (fun _ _ _ h => h) (by kernel_rfl) ?_ (by assumption) ?_; (intro w hSw; clear hSw; first | rfl | go_simp); simp only [List.set_cons_zero, List.set_cons_succ])
          (refine held_take 34 47 (.bool false) rfl rfl (by kernel_rfl) (by kernel_rfl) (by kernel_rfl) (fun _ _ _ h => h) (by kernel_rfl) ?_ (by assumption) ?_; (intro w hSw; clear hSw; first | rfl | go_simp); simp only [List.set_cons_zero, List.set_cons_succ])
          refine wpAnyH_done (by kernel_rfl) ?_ _
          go_wp2
          exact ⟨⟨1, by omega, by go_num, HGOOD.out, HBX.out.trans (HS.out.mono HBX.out.size)⟩, by simp [intOf]; omega⟩
        · obtain ⟨j, hj⟩ : ∃ j, k = j + 1 := ⟨k - 1, by omega⟩
          obtain ⟨r2, hr2⟩ : ∃ r, l[j]? = some r := ⟨_, List.getElem?_eq_getElem (by have := HNL.out; omega)⟩
          have hok := ok_succ hr2 (hj ▸ HR.out) hrb
          rw [← hj] at hok
          obtain ⟨b3, o3, q2, c2, hp3, hb3, e0, -, -, hl2, -⟩ := HVX.out.get hr2
          obtain ⟨rfl, rfl⟩ : b1 = b3 ∧ o2 = o3 := by simpa using hp3
          clear hp3 hrb hr2
          obtain ⟨l2, x2, o9⟩ := r2
          simp only at e0 hl2 hok
          have HL2 := Lib.hid hl2
          have HOK := Lib.hid hok
          have hw1 : IntKind.i64.wrap ((k : Int) - 1) = (j : Int) := by rw [IntWalk.i64_in _ (by omega)]; omega
          have hw2 : IntKind.i64.wrap (j : Int) = (j : Int) := IntWalk.i64_in _ (by omega)
          have hj0 : (0 : Int) ≤ (j : Int) := by omega
          have hjn : (j : Int) < (N : Int) := by omega
          have hjp : (0 : Int) < (k : Int) := by omega
          have hjk : (j : Int) = (k : Int) - 1 := by omega
          have HJK := Lib.hid hjk
          clear hl2 hok hj hjk
          refine wp_region_held_drew (S := fun w => Below X.heap.size X w) (by kernel_rfl) (Below.drew (Below.refl _ _)) (fun hHeld => ?_)
          have HS := Lib.hid (Below.drew (Below.refl X.heap.size X))
          try clear hHeld
          have hSS := HS.out
          obtain ⟨X2, hX2⟩ : ∃ z, X.drew = z := ⟨_, rfl⟩
          rw [hX2] at HS hSS ⊢
          clear hX2
          (refine held_take 0 13 ?_ rfl (by kernel_rfl) (by kernel_rfl) (by kernel_rfl) (by kernel_rfl) (fun _ _ _ h => h) (by kernel_rfl) ?_ (by assumption) ?_; rotate_left; (intro w hSw; clear hSw; go_simp); (try with_reducible rfl); simp only [List.set_cons_zero, List.set_cons_succ])
          (refine held_take 1 14 ?_ rfl (by kernel_rfl) (by kernel_rfl) (by kernel_rfl) (by kernel_rfl) (fun _ _ _ h => h) (by kernel_rfl) ?_ (by assumption) ?_; rotate_left; (intro w hSw; clear hSw; go_simp); (try with_reducible rfl); simp only [List.set_cons_zero, List.set_cons_succ])
          (refine held_take 2 15 (.pointer (some ⟨b1, o2 + k * 3, none⟩)) rfl rfl (by kernel_rfl) (by kernel_rfl) (by kernel_rfl) (fun _ _ _ h => h) (by kernel_rfl) ?_ (by assumption) ?_; (intro w hSw; clear hSw; go_simp); simp only [List.set_cons_zero, List.set_cons_succ])
          (refine held_take 3 16 (.pointer (some ⟨b1, o2 + k * 3, none⟩)) rfl rfl (by kernel_rfl) (by kernel_rfl) (by kernel_rfl) (fun _ _ _ h => h) (by kernel_rfl) ?_ (by assumption) ?_; (intro w hSw; clear hSw; first | rfl | go_simp); simp only [List.set_cons_zero, List.set_cons_succ])
          (refine held_take 4 17 (.slice q1 l1.length c1) rfl rfl (by kernel_rfl) (by kernel_rfl) (by kernel_rfl) (fun _ _ _ h => h) (by kernel_rfl) ?_ (by assumption) ?_; (intro w hSw; have f_d0 := (hSw.cell (p := ⟨b1, o2 + k * 3, none⟩) hb1).trans d0; clear hSw; go_simp); simp only [List.set_cons_zero, List.set_cons_succ])
          refine wpAnyH_ready (rs := [5]) (by kernel_rfl) (by simp) (.cons rfl (fun K hK => ?_) .nil)
          rw [if_pos (by kernel_rfl)]
          go_simp
          refine (rCheck3 HS.out.size (HL1.out.mono HS.out (Nat.le_refl _))).mono ?_
          rintro e w9 hq9
          obtain ⟨rfl, hb9⟩ := hq9.below
          clear hq9
          rw [HCL.out]
          have HS := Lib.hid (HS.out.trans (hb9.mono HS.out.size))
          clear hb9
          have hSS := HS.out
          refine hK.out _ _ HS.out (fun hHeld => ?_)
          clear hK K
          (try simp only [Act.put, List.setIfInBounds_toArray, List.set_cons_zero, List.set_cons_succ])
          (refine held_take 6 19 (.bool false) rfl rfl (by kernel_rfl) (by kernel_rfl) (by kernel_rfl) (fun _ _ _ h => h) (by kernel_rfl) ?_ (by assumption) ?_; (intro w hSw; clear hSw; first | rfl | go_simp); simp only [List.set_cons_zero, List.set_cons_succ])
          (refine held_take 7 20 (.bool false) rfl rfl (by kernel_rfl) (by kernel_rfl) (by kernel_rfl) (fun _ _ _ h => h) (by kernel_rfl) ?_ (by assumption) ?_; (intro w hSw; clear hSw; first | rfl | go_simp); simp only [List.set_cons_zero, List.set_cons_succ])
          (refine held_take 8 21 ?_ rfl (by kernel_rfl) (by kernel_rfl) (by kernel_rfl) (by kernel_rfl) (fun _ _ _ h => h) (by kernel_rfl) ?_ (by assumption) ?_; rotate_left; (intro w hSw; clear hSw; go_simp); (try with_reducible rfl); simp only [List.set_cons_zero, List.set_cons_succ])
          (refine held_take 9 22 ?_ rfl (by kernel_rfl) (by kernel_rfl) (by kernel_rfl) (by kernel_rfl) (fun _ _ _ h => h) (by kernel_rfl) ?_ (by assumption) ?_; rotate_left; (intro w hSw; clear hSw; go_simp); (try with_reducible rfl); simp only [List.set_cons_zero, List.set_cons_succ])
          (refine held_take 10 23 (.pointer (some ⟨b1, o2 + k * 3, none⟩)) rfl rfl (by kernel_rfl) (by kernel_rfl) (by kernel_rfl) (fun _ _ _ h => h) (by kernel_rfl) ?_ (by assumption) ?_; (intro w hSw; clear hSw; go_simp); simp only [List.set_cons_zero, List.set_cons_succ])
          (refine held_take 11 24 (.pointer (some ⟨b1, o2 + k * 3 + 1, none⟩)) rfl rfl (by kernel_rfl) (by kernel_rfl) (by kernel_rfl) (fun _ _ _ h => h) (by kernel_rfl) ?_ (by assumption) ?_; (intro w hSw; clear hSw; first | rfl | go_simp); simp only [List.set_cons_zero, List.set_cons_succ])
          (refine held_take 12 25 (.agg #[.int .i64 x1, .bool o1]) rfl rfl (by kernel_rfl) (by kernel_rfl) (by kernel_rfl) (fun _ _ _ h => h) (by kernel_rfl) ?_ (by assumption) ?_; (intro w hSw; have f_d1 := (hSw.cell (p := ⟨b1, o2 + k * 3 + 1, none⟩) hb1).trans d1; have f_d2 := (hSw.cell (p := ⟨b1, o2 + k * 3 + 2, none⟩) hb1).trans d2; clear hSw; go_simp); simp only [List.set_cons_zero, List.set_cons_succ])
          refine wpAnyH_ready (rs := [13]) (by kernel_rfl) (by simp) (.cons rfl (fun K hK => ?_) .nil)
          rw [if_pos (by kernel_rfl)]
          go_simp
          refine (rVal x1 o1 _).mono ?_
          rintro e w9 ⟨rfl, hb9⟩
          rw [HVB.out]
          simp only [Bool.false_eq_true, if_false, if_true]
          have HS := Lib.hid (HS.out.trans (hb9.mono HS.out.size))
          clear hb9
          have hSS := HS.out
          refine hK.out _ _ HS.out (fun hHeld => ?_)
          clear hK K
          (try simp only [Act.put, List.setIfInBounds_toArray, List.set_cons_zero, List.set_cons_succ])
          (refine held_take 14 27 (.bool false) rfl rfl (by kernel_rfl) (by kernel_rfl) (by kernel_rfl) (fun _ _ _ h => h) (by kernel_rfl) ?_ (by assumption) ?_; (intro w hSw; clear hSw; first | rfl | go_simp); simp only [List.set_cons_zero, List.set_cons_succ])
          (refine held_take 15 28 (.bool false) rfl rfl (by kernel_rfl) (by kernel_rfl) (by kernel_rfl) (fun _ _ _ h => h) (by kernel_rfl) ?_ (by assumption) ?_; (intro w hSw; clear hSw; first | rfl | go_simp); simp only [List.set_cons_zero, List.set_cons_succ])
          (refine held_take 16 29 (.bool false) rfl rfl (by kernel_rfl) (by kernel_rfl) (by kernel_rfl) (fun _ _ _ h => h) (by kernel_rfl) ?_ (by assumption) ?_; (intro w hSw; clear hSw; first | rfl | go_simp); simp only [List.set_cons_zero, List.set_cons_succ])
          (refine held_take 17 30 ?_ rfl (by kernel_rfl) (by kernel_rfl) (by kernel_rfl) (by kernel_rfl) (fun _ _ _ h => h) (by kernel_rfl) ?_ (by assumption) ?_; rotate_left; (intro w hSw; clear hSw; go_simp); (try with_reducible rfl); simp only [List.set_cons_zero, List.set_cons_succ])
          (refine held_take 18 31 ?_ rfl (by kernel_rfl) (by kernel_rfl) (by kernel_rfl) (by kernel_rfl) (fun _ _ _ h => h) (by kernel_rfl) ?_ (by assumption) ?_; rotate_left; (intro w hSw; clear hSw; go_simp); (try with_reducible rfl); simp only [List.set_cons_zero, List.set_cons_succ])
          (refine held_take 19 32 ?_ rfl (by kernel_rfl) (by kernel_rfl) (by kernel_rfl) (by kernel_rfl) (fun _ _ _ h => h) (by kernel_rfl) ?_ (by assumption) ?_; rotate_left; (intro w hSw; clear hSw; go_simp); (try with_reducible rfl); simp only [List.set_cons_zero, List.set_cons_succ])
          (refine held_take 20 33 ?_ rfl (by kernel_rfl) (by kernel_rfl) (by kernel_rfl) (by kernel_rfl) (fun _ _ _ h => h) (by kernel_rfl) ?_ (by assumption) ?_; rotate_left; (intro w hSw; clear hSw; go_simp); (try with_reducible rfl); simp only [List.set_cons_zero, List.set_cons_succ])
          (refine held_take 21 34 ?_ rfl (by kernel_rfl) (by kernel_rfl) (by kernel_rfl) (by kernel_rfl) (fun _ _ _ h => h) (by kernel_rfl) ?_ (by assumption) ?_; rotate_left; (intro w hSw; clear hSw; go_simp); (try with_reducible rfl); simp only [List.set_cons_zero, List.set_cons_succ])
          (refine held_take 22 35 (.int .i64 (j : Int)) rfl rfl (by kernel_rfl) (by kernel_rfl) (by kernel_rfl) (fun _ _ _ h => h) (by kernel_rfl) ?_ (by assumption) ?_; (intro w hSw; clear hSw; go_simp; (try rw [hw2])); simp only [List.set_cons_zero, List.set_cons_succ])
          (refine held_take 23 36 (.pointer (some ⟨b1, o2 + j * 3, none⟩)) rfl rfl (by kernel_rfl) (by kernel_rfl) (by kernel_rfl) (fun _ _ _ h => h) (by kernel_rfl) ?_ (by assumption) ?_; (intro w hSw; clear hSw; go_simp); simp only [List.set_cons_zero, List.set_cons_succ])
          (refine held_take 24 37 (.pointer (some ⟨b1, o2 + j * 3, none⟩)) rfl rfl (by kernel_rfl) (by kernel_rfl) (by kernel_rfl) (fun _ _ _ h => h) (by kernel_rfl) ?_ (by assumption) ?_; (intro w hSw; clear hSw; first | rfl | go_simp); simp only [List.set_cons_zero, List.set_cons_succ])
          (refine held_take 25 38 (.slice q2 l2.length c2) rfl rfl (by kernel_rfl) (by kernel_rfl) (by kernel_rfl) (fun _ _ _ h => h) (by kernel_rfl) ?_ (by assumption) ?_; (intro w hSw; have f_e0 := (hSw.cell (p := ⟨b1, o2 + j * 3, none⟩) hb1).trans e0; clear hSw; go_simp); simp only [List.set_cons_zero, List.set_cons_succ])
          (refine held_take 26 39 ?_ rfl (by kernel_rfl) (by kernel_rfl) (by kernel_rfl) (by kernel_rfl) (fun _ _ _ h => h) (by kernel_rfl) ?_ (by assumption) ?_; rotate_left; (intro w hSw; clear hSw; go_simp); (try with_reducible rfl); simp only [List.set_cons_zero, List.set_cons_succ])
          (refine held_take 27 40 ?_ rfl (by kernel_rfl) (by kernel_rfl) (by kernel_rfl) (by kernel_rfl) (fun _ _ _ h => h) (by kernel_rfl) ?_ (by assumption) ?_; rotate_left; (intro w hSw; clear hSw; go_simp); (try with_reducible rfl); simp only [List.set_cons_zero, List.set_cons_succ])
          (refine held_take 28 41 (.pointer (some ⟨b1, o2 + k * 3, none⟩)) rfl rfl (by kernel_rfl) (by kernel_rfl) (by kernel_rfl) (fun _ _ _ h => h) (by kernel_rfl) ?_ (by assumption) ?_; (intro w hSw; clear hSw; go_simp); simp only [List.set_cons_zero, List.set_cons_succ])
          (refine held_take 29 42 (.pointer (some ⟨b1, o2 + k * 3, none⟩)) rfl rfl (by kernel_rfl) (by kernel_rfl) (by kernel_rfl) (fun _ _ _ h => h) (by kernel_rfl) ?_ (by assumption) ?_; (intro w hSw; clear hSw; first | rfl | go_simp); simp only [List.set_cons_zero, List.set_cons_succ])
          (refine held_take 30 43 (.slice q1 l1.length c1) rfl rfl (by kernel_rfl) (by kernel_rfl) (by kernel_rfl) (fun _ _ _ h => h) (by kernel_rfl) ?_ (by assumption) ?_; (intro w hSw; have f_d0 := (hSw.cell (p := ⟨b1, o2 + k * 3, none⟩) hb1).trans d0; clear hSw; go_simp); simp only [List.set_cons_zero, List.set_cons_succ])
          refine wpAnyH_ready (rs := [31]) (by kernel_rfl) (by simp) (.cons rfl (fun K hK => ?_) .nil)
          rw [if_pos (by kernel_rfl)]
          go_simp
          refine (rCompare HS.out.size (HL2.out.mono HS.out (Nat.le_refl _)) (HL1.out.mono HS.out (Nat.le_refl _))).mono ?_
          rintro e w9 hq9
          obtain ⟨rfl, hb9⟩ := hq9.below
          clear hq9
          have HS := Lib.hid (HS.out.trans (hb9.mono HS.out.size))
          clear hb9
          have hSS := HS.out
          refine hK.out _ _ HS.out (fun hHeld => ?_)
          clear hK K
          (try simp only [Act.put, List.setIfInBounds_toArray, List.set_cons_zero, List.set_cons_succ])
          (refine held_take 32 45 ?_ rfl (by kernel_rfl) (by kernel_rfl) (by kernel_rfl) (by kernel_rfl) (fun _ _ _ h => h) (by kernel_rfl) ?_ (by assumption) ?_; rotate_left; (intro w hSw; clear hSw; go_simp); (try with_reducible rfl); simp only [List.set_cons_zero, List.set_cons_succ])
          (refine held_take 33 46 ?_ rfl (by kernel_rfl) (by kernel_rfl) (by kernel_rfl) (by kernel_rfl) (fun _ _ _ h => h) (by kernel_rfl) ?_ (by assumption) ?_; rotate_left; (intro w hSw; clear hSw; go_simp); (try with_reducible rfl); simp only [List.set_cons_zero, List.set_cons_succ])
          (refine held_take 34 47 ?_ rfl (by kernel_rfl) (by kernel_rfl) (by kernel_rfl) (by kernel_rfl) (fun _ _ _ h => h) (by kernel_rfl) ?_ (by assumption) ?_; rotate_left; (intro w hSw; clear hSw; go_simp); (try with_reducible rfl); simp only [List.set_cons_zero, List.set_cons_succ])
          refine wpAnyH_done (by kernel_rfl) ?_ _
          obtain ⟨cc, hcc⟩ : ∃ z, compareL l2 l1 = z := ⟨_, rfl⟩
          rw [hcc] at HOK
          simp only [hcc]
          clear hcc
          by_cases hlo : cc < 0
          · have hge : ¬ (0 ≤ cc) := by omega
            have HGOOD := Lib.hid (upto_step HU.out (by rw [HOK.out]; simpa using hlo))
            have hge2 : decide (0 ≤ cc) = false := decide_eq_false hge
            go_wp2
            exact ⟨⟨k + 1, by omega, by go_num, HGOOD.out, HBX.out.trans (HS.out.mono HBX.out.size)⟩, by simp [intOf]; omega⟩
          · have hge : 0 ≤ cc := by omega
            have HBAD := Lib.hid (ok_bad H4.out (by rw [HNL.out]; exact hlt) (by rw [HOK.out]; simpa using hlo))
            have hge2 : decide (0 ≤ cc) = true := decide_eq_true hge
            go_wp2
            go_ret
            exact ⟨by rw [HBAD.out]; rfl, HBX.out.trans (HS.out.mono HBX.out.size)⟩
    · have hkN : k = N := by omega
      subst hkN
      have hki : ¬ ((k : Int) < (k : Int)) := by omega
      have HC := Lib.hid (ok_all H4.out (by rw [HNL.out]; exact HU.out))
      go_wp2
      go_ret
      exact ⟨by rw [HC.out]; rfl, HBX.out⟩
end Go.Proofs.YtgmdlnobajmjfaaDoor
