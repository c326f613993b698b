/- SubsNil's walk. (under way) -/
import Derived.Test.YtfmolimnnheaoaaBe2
namespace Go.Proofs.Ytfmolimnnheaoaa
open Go.RowKit
set_option linter.unusedSimpArgs false
set_option linter.unusedVariables false

theorem one_call {kd q s t tt n : Int} {rp : Option Addr} {rl rc m : Nat} {vec : List (List Value)} {X : World} (hv : IsVec 3 m X (.slice rp rl rc) vec) (hm : m ≤ X.heap.size) : IsCalls (X.alloc (.cells #[.int .i64 kd, .int .i64 q, .int .i64 s, .int .i64 t, .int .i64 tt, .slice rp rl rc, .int .i64 n] 38)).heap.size (X.alloc (.cells #[.int .i64 kd, .int .i64 q, .int .i64 s, .int .i64 t, .int .i64 tt, .slice rp rl rc, .int .i64 n] 38)) (.slice (some ⟨X.heap.size, 0, none⟩) 1 1) [[.int .i64 kd, .int .i64 q, .int .i64 s, .int .i64 t, .int .i64 tt, .slice rp rl rc, .int .i64 n]] := by
  have hb : Below m X (X.alloc (.cells #[.int .i64 kd, .int .i64 q, .int .i64 s, .int .i64 t, .int .i64 tt, .slice rp rl rc, .int .i64 n] 38)) := (Below.refl _ _).alloc hm _
  refine ⟨⟨_, 1, rfl, by simp, by unfold maxLen; omega, fun _ => ⟨X.heap.size, 0, rfl, by simp, fun k r hr j x hx => ?_⟩⟩, fun r hr => ?_⟩
  · match k, hr with
    | 0, hr =>
      simp at hr; subst hr
      have := (Blk.new X [.int .i64 kd, .int .i64 q, .int .i64 s, .int .i64 t, .int .i64 tt, .slice rp rl rc, .int .i64 n] 38).cell j x hx
      simpa using this
    | k + 1, hr => simp at hr
  · simp at hr; subst hr
    exact ⟨_, vec, rfl, Arr.mono hv.1 hb (by simp; omega), fun r hr => by obtain ⟨a, c, h8, h9⟩ := hv.2 r hr; exact ⟨a, c, h8, Arr.mono h9 hb (by simp; omega)⟩⟩
set_option maxRecDepth 100000 in
set_option maxHeartbeats 16000000 in
theorem wNil (kd q s t tt n : Int) (rp : Option Addr) (rl rc : Nat) (vec : List (List Value)) (W : World) (hv : IsVec 3 W.heap.size W (.slice rp rl rc) vec) :
    Calls Try.prog 5 #[.agg #[.int .i64 kd, .int .i64 q, .int .i64 s, .int .i64 t, .int .i64 tt, .slice rp rl rc, .int .i64 n]] W fun e w' => e = .returned (.bool true) ∧ Below W.heap.size W w' := by
  have HV := Lib.hid hv
  clear hv
  go_enter Try.func5, Try.ntmps5; (try simp only [List.append_eq, List.cons_append, List.nil_append])
  go_wp2_with fail
  have HBk := Lib.hid (Blk.new W [.int .i64 kd, .int .i64 q, .int .i64 s, .int .i64 t, .int .i64 tt, .slice rp rl rc, .int .i64 n] 38)
  have HC0 := Lib.hid ((Below.refl W.heap.size W).alloc (Nat.le_refl _) (.cells #[.int .i64 kd, .int .i64 q, .int .i64 s, .int .i64 t, .int .i64 tt, .slice rp rl rc, .int .i64 n] 38))
  obtain ⟨g, hg⟩ : ∃ z, W.heap.size = z := ⟨_, rfl⟩
  obtain ⟨Y, hY⟩ : ∃ z, W.alloc (.cells #[.int .i64 kd, .int .i64 q, .int .i64 s, .int .i64 t, .int .i64 tt, .slice rp rl rc, .int .i64 n] 38) = z := ⟨_, rfl⟩
  rw [show W.alloc (.cells ([.int .i64 kd, .int .i64 q, .int .i64 s, .int .i64 t, .int .i64 tt, .slice rp rl rc, .int .i64 n] : List Value).toArray 38) = Y from hY] at HBk
  rw [hY] at HC0 ⊢
  have hWY := HC0.out.size
  rw [hg] at HBk ⊢
  have HC := Lib.hid (Below.refl Y.heap.size Y)
  clear hY
  refine (bLives _).mono ?_
  rintro e y0 ⟨rfl, hb⟩
  have HC := Lib.hid (HC.out.trans (hb.mono HC.out.size)); clear hb
  have B := HBk.out.keep HC.out
  have gl := B.lt
  have k0 := B.cell 0 _ rfl; have k1 := B.cell 1 _ rfl; have k2 := B.cell 2 _ rfl; have k3 := B.cell 3 _ rfl; have k4 := B.cell 4 _ rfl; have k5 := B.cell 5 _ rfl; have k6 := B.cell 6 _ rfl
  clear B
  go_wp2_with fail
  have HWy := Lib.hid (HC0.out.trans (HC.out.mono hWY))
  refine (bSmall (one_call (m := W.heap.size) (X := y0) ⟨Arr.mono HV.out.1 HWy.out (Nat.le_refl _), fun r hr => by obtain ⟨a, c, h8, h9⟩ := HV.out.2 r hr; exact ⟨a, c, h8, Arr.mono h9 HWy.out (Nat.le_refl _)⟩⟩ HWy.out.size) (Nat.le_refl _)).mono ?_
  rintro e y1 ⟨⟨bb, rfl⟩, hb⟩
  have HC := Lib.hid ((HC.out.alloc HC.out.size _).trans (hb.mono (by have := HC.out.size; simp; omega)))
  clear hb gl k0 k1 k2 k3 k4 k5 k6
  cases bb with
  | false =>
    go_wp2
    go_ret
    exact ⟨rfl, HC0.out.trans (HC.out.mono hWY)⟩
  | true =>
    have B := HBk.out.keep HC.out
    have gl := B.lt
    have k1 := B.cell 1 _ rfl; have k2 := B.cell 2 _ rfl; have k3 := B.cell 3 _ rfl; have k4 := B.cell 4 _ rfl; have k5 := B.cell 5 _ rfl; have k6 := B.cell 6 _ rfl
    clear B
    go_wp2_with fail
    refine (bSubscribe0 _ _).mono ?_
    rintro e x0 ⟨rfl, rfl⟩
    go_wp2_with fail
    refine (bResume0 _ _ _).mono ?_
    rintro e x1 ⟨rfl, rfl⟩
    go_wp2_with fail
    refine (bPoll0 _ _ _).mono ?_
    rintro e x2 ⟨rfl, rfl⟩
    go_wp2_with fail
    obtain ⟨Y9, hY9⟩ : ∃ z, x2 = z := ⟨_, rfl⟩
    rw [hY9] at HC ⊢
    clear gl k1 k2 k3 k4 k5 k6
    have HBk9 := Lib.hid (HBk.out.keep HC.out)
    -- REGION 9
    refine wp_region_held_drew (S := fun X => Below Y9.heap.size Y9 X) (by kernel_rfl) (Below.drew (Below.refl _ _)) (fun hHeld => ?_)
    have HS := Lib.hid (Below.drew (Below.refl Y9.heap.size Y9))
    try clear hHeld
    have hSS := HS.out
    (refine held_take 0 41 ?_ rfl (by kernel_rfl) (by as_aux_lemma => kernel_rfl) (by as_aux_lemma => kernel_rfl) (by as_aux_lemma => kernel_rfl) (fun _ _ _ h => h) (by kernel_rfl) ?_ (by assumption) ?_; rotate_left; (intro w hSw; clear hSw; go_simp); (try with_reducible rfl); simp only [List.set_cons_zero, List.set_cons_succ])
    (refine held_take 1 42 (.pointer (some ⟨g, 1, none⟩)) rfl rfl (by as_aux_lemma => kernel_rfl) (by as_aux_lemma => kernel_rfl) (by as_aux_lemma => kernel_rfl) (fun _ _ _ h => h) (by kernel_rfl) ?_ (by assumption) ?_; (intro w hSw; clear hSw; first | rfl | go_simp); simp only [List.set_cons_zero, List.set_cons_succ])
    (refine held_take 2 43 (.int .i64 q) rfl rfl (by as_aux_lemma => kernel_rfl) (by as_aux_lemma => kernel_rfl) (by as_aux_lemma => kernel_rfl) (fun _ _ _ h => h) (by kernel_rfl) ?_ (by assumption) ?_; (intro w hSw; have B := HBk9.out.keep hSw; have e0 := B.cell 1 _ rfl; have e1 := B.cell 5 _ rfl; clear B hSw; go_simp); simp only [List.set_cons_zero, List.set_cons_succ])
    (refine held_take 3 44 (.pointer (some ⟨g, 3, none⟩)) rfl rfl (by as_aux_lemma => kernel_rfl) (by as_aux_lemma => kernel_rfl) (by as_aux_lemma => kernel_rfl) (fun _ _ _ h => h) (by kernel_rfl) ?_ (by assumption) ?_; (intro w hSw; clear hSw; first | rfl | go_simp); simp only [List.set_cons_zero, List.set_cons_succ])
    (refine held_take 4 45 (.int .i64 t) rfl rfl (by as_aux_lemma => kernel_rfl) (by as_aux_lemma => kernel_rfl) (by as_aux_lemma => kernel_rfl) (fun _ _ _ h => h) (by kernel_rfl) ?_ (by assumption) ?_; (intro w hSw; have B := HBk9.out.keep hSw; have e0 := B.cell 3 _ rfl; have e1 := B.cell 5 _ rfl; clear B hSw; go_simp); simp only [List.set_cons_zero, List.set_cons_succ])
    refine wpAnyH_ready (rs := [5]) (by as_aux_lemma => kernel_rfl) (by simp) (.cons rfl (fun K hK => ?_) .nil)
    rw [if_pos (by kernel_rfl)]
    go_simp
    refine (bOpen0 _ _ _).mono ?_
    rintro e xx ⟨rfl, rfl⟩
    have hSS := HS.out
    refine hK.out _ _ HS.out (fun hHeld => ?_)
    clear hK K
    (try simp only [Act.put, List.setIfInBounds_toArray, List.set_cons_zero, List.set_cons_succ])
    (refine held_take 6 47 ?_ rfl (by kernel_rfl) (by as_aux_lemma => kernel_rfl) (by as_aux_lemma => kernel_rfl) (by as_aux_lemma => kernel_rfl) (fun _ _ _ h => h) (by kernel_rfl) ?_ (by assumption) ?_; rotate_left; (intro w hSw; clear hSw; go_simp); (try with_reducible rfl); simp only [List.set_cons_zero, List.set_cons_succ])
    (refine held_take 7 48 ?_ rfl (by kernel_rfl) (by as_aux_lemma => kernel_rfl) (by as_aux_lemma => kernel_rfl) (by as_aux_lemma => kernel_rfl) (fun _ _ _ h => h) (by kernel_rfl) ?_ (by assumption) ?_; rotate_left; (intro w hSw; clear hSw; go_simp); (try with_reducible rfl); simp only [List.set_cons_zero, List.set_cons_succ])
    (refine held_take 8 49 ?_ rfl (by kernel_rfl) (by as_aux_lemma => kernel_rfl) (by as_aux_lemma => kernel_rfl) (by as_aux_lemma => kernel_rfl) (fun _ _ _ h => h) (by kernel_rfl) ?_ (by assumption) ?_; rotate_left; (intro w hSw; clear hSw; go_simp); (try with_reducible rfl); simp only [List.set_cons_zero, List.set_cons_succ])
    (refine held_take 9 50 (.pointer (some ⟨g, 1, none⟩)) rfl rfl (by as_aux_lemma => kernel_rfl) (by as_aux_lemma => kernel_rfl) (by as_aux_lemma => kernel_rfl) (fun _ _ _ h => h) (by kernel_rfl) ?_ (by assumption) ?_; (intro w hSw; clear hSw; first | rfl | go_simp); simp only [List.set_cons_zero, List.set_cons_succ])
    (refine held_take 10 51 (.int .i64 q) rfl rfl (by as_aux_lemma => kernel_rfl) (by as_aux_lemma => kernel_rfl) (by as_aux_lemma => kernel_rfl) (fun _ _ _ h => h) (by kernel_rfl) ?_ (by assumption) ?_; (intro w hSw; have B := HBk9.out.keep hSw; have e0 := B.cell 1 _ rfl; have e1 := B.cell 5 _ rfl; clear B hSw; go_simp); simp only [List.set_cons_zero, List.set_cons_succ])
    refine wpAnyH_ready (rs := [11]) (by as_aux_lemma => kernel_rfl) (by simp) (.cons rfl (fun K hK => ?_) .nil)
    rw [if_pos (by kernel_rfl)]
    go_simp
    refine (bClose0 _ _).mono ?_
    rintro e xx ⟨rfl, rfl⟩
    have hSS := HS.out
    refine hK.out _ _ HS.out (fun hHeld => ?_)
    clear hK K
    (try simp only [Act.put, List.setIfInBounds_toArray, List.set_cons_zero, List.set_cons_succ])
    (refine held_take 12 53 ?_ rfl (by kernel_rfl) (by as_aux_lemma => kernel_rfl) (by as_aux_lemma => kernel_rfl) (by as_aux_lemma => kernel_rfl) (fun _ _ _ h => h) (by kernel_rfl) ?_ (by assumption) ?_; rotate_left; (intro w hSw; clear hSw; go_simp); (try with_reducible rfl); simp only [List.set_cons_zero, List.set_cons_succ])
    (refine held_take 13 54 ?_ rfl (by kernel_rfl) (by as_aux_lemma => kernel_rfl) (by as_aux_lemma => kernel_rfl) (by as_aux_lemma => kernel_rfl) (fun _ _ _ h => h) (by kernel_rfl) ?_ (by assumption) ?_; rotate_left; (intro w hSw; clear hSw; go_simp); (try with_reducible rfl); simp only [List.set_cons_zero, List.set_cons_succ])
    (refine held_take 14 55 ?_ rfl (by kernel_rfl) (by as_aux_lemma => kernel_rfl) (by as_aux_lemma => kernel_rfl) (by as_aux_lemma => kernel_rfl) (fun _ _ _ h => h) (by kernel_rfl) ?_ (by assumption) ?_; rotate_left; (intro w hSw; clear hSw; go_simp); (try with_reducible rfl); simp only [List.set_cons_zero, List.set_cons_succ])
    (refine held_take 15 56 ?_ rfl (by kernel_rfl) (by as_aux_lemma => kernel_rfl) (by as_aux_lemma => kernel_rfl) (by as_aux_lemma => kernel_rfl) (fun _ _ _ h => h) (by kernel_rfl) ?_ (by assumption) ?_; rotate_left; (intro w hSw; clear hSw; go_simp); (try with_reducible rfl); simp only [List.set_cons_zero, List.set_cons_succ])
    (refine held_take 16 57 (.pointer (some ⟨g, 1, none⟩)) rfl rfl (by as_aux_lemma => kernel_rfl) (by as_aux_lemma => kernel_rfl) (by as_aux_lemma => kernel_rfl) (fun _ _ _ h => h) (by kernel_rfl) ?_ (by assumption) ?_; (intro w hSw; clear hSw; first | rfl | go_simp); simp only [List.set_cons_zero, List.set_cons_succ])
    (refine held_take 17 58 (.int .i64 q) rfl rfl (by as_aux_lemma => kernel_rfl) (by as_aux_lemma => kernel_rfl) (by as_aux_lemma => kernel_rfl) (fun _ _ _ h => h) (by kernel_rfl) ?_ (by assumption) ?_; (intro w hSw; have B := HBk9.out.keep hSw; have e0 := B.cell 1 _ rfl; have e1 := B.cell 5 _ rfl; clear B hSw; go_simp); simp only [List.set_cons_zero, List.set_cons_succ])
    (refine held_take 18 59 (.pointer (some ⟨g, 4, none⟩)) rfl rfl (by as_aux_lemma => kernel_rfl) (by as_aux_lemma => kernel_rfl) (by as_aux_lemma => kernel_rfl) (fun _ _ _ h => h) (by kernel_rfl) ?_ (by assumption) ?_; (intro w hSw; clear hSw; first | rfl | go_simp); simp only [List.set_cons_zero, List.set_cons_succ])
    (refine held_take 19 60 (.agg #[.int .i64 tt, .slice rp rl rc]) rfl rfl (by as_aux_lemma => kernel_rfl) (by as_aux_lemma => kernel_rfl) (by as_aux_lemma => kernel_rfl) (fun _ _ _ h => h) (by kernel_rfl) ?_ (by assumption) ?_; (intro w hSw; have B := HBk9.out.keep hSw; have e0 := B.cell 4 _ rfl; have e1 := B.cell 5 _ rfl; clear B hSw; go_simp); simp only [List.set_cons_zero, List.set_cons_succ])
    refine wpAnyH_ready (rs := [20]) (by as_aux_lemma => kernel_rfl) (by simp) (.cons rfl (fun K hK => ?_) .nil)
    rw [if_pos (by kernel_rfl)]
    go_simp
    refine (bPut0 _ _ _ _).mono ?_
    rintro e xx ⟨rfl, hb⟩
    have HS := Lib.hid (HS.out.trans (hb.mono HS.out.size))
    clear hb
    have hSS := HS.out
    refine hK.out _ _ HS.out (fun hHeld => ?_)
    clear hK K
    (try simp only [Act.put, List.setIfInBounds_toArray, List.set_cons_zero, List.set_cons_succ])
    (refine held_take 21 62 ?_ rfl (by kernel_rfl) (by as_aux_lemma => kernel_rfl) (by as_aux_lemma => kernel_rfl) (by as_aux_lemma => kernel_rfl) (fun _ _ _ h => h) (by kernel_rfl) ?_ (by assumption) ?_; rotate_left; (intro w hSw; clear hSw; go_simp); (try with_reducible rfl); simp only [List.set_cons_zero, List.set_cons_succ])
    (refine held_take 22 63 ?_ rfl (by kernel_rfl) (by as_aux_lemma => kernel_rfl) (by as_aux_lemma => kernel_rfl) (by as_aux_lemma => kernel_rfl) (fun _ _ _ h => h) (by kernel_rfl) ?_ (by assumption) ?_; rotate_left; (intro w hSw; clear hSw; go_simp); (try with_reducible rfl); simp only [List.set_cons_zero, List.set_cons_succ])
    (refine held_take 23 64 ?_ rfl (by kernel_rfl) (by as_aux_lemma => kernel_rfl) (by as_aux_lemma => kernel_rfl) (by as_aux_lemma => kernel_rfl) (fun _ _ _ h => h) (by kernel_rfl) ?_ (by assumption) ?_; rotate_left; (intro w hSw; clear hSw; go_simp); (try with_reducible rfl); simp only [List.set_cons_zero, List.set_cons_succ])
    (refine held_take 24 65 ?_ rfl (by kernel_rfl) (by as_aux_lemma => kernel_rfl) (by as_aux_lemma => kernel_rfl) (by as_aux_lemma => kernel_rfl) (fun _ _ _ h => h) (by kernel_rfl) ?_ (by assumption) ?_; rotate_left; (intro w hSw; clear hSw; go_simp); (try with_reducible rfl); simp only [List.set_cons_zero, List.set_cons_succ])
    (refine held_take 25 66 ?_ rfl (by kernel_rfl) (by as_aux_lemma => kernel_rfl) (by as_aux_lemma => kernel_rfl) (by as_aux_lemma => kernel_rfl) (fun _ _ _ h => h) (by kernel_rfl) ?_ (by assumption) ?_; rotate_left; (intro w hSw; clear hSw; go_simp); (try with_reducible rfl); simp only [List.set_cons_zero, List.set_cons_succ])
    (refine held_take 26 67 ?_ rfl (by kernel_rfl) (by as_aux_lemma => kernel_rfl) (by as_aux_lemma => kernel_rfl) (by as_aux_lemma => kernel_rfl) (fun _ _ _ h => h) (by kernel_rfl) ?_ (by assumption) ?_; rotate_left; (intro w hSw; clear hSw; go_simp); (try with_reducible rfl); simp only [List.set_cons_zero, List.set_cons_succ])
    (refine held_take 27 68 ?_ rfl (by kernel_rfl) (by as_aux_lemma => kernel_rfl) (by as_aux_lemma => kernel_rfl) (by as_aux_lemma => kernel_rfl) (fun _ _ _ h => h) (by kernel_rfl) ?_ (by assumption) ?_; rotate_left; (intro w hSw; clear hSw; go_simp); (try with_reducible rfl); simp only [List.set_cons_zero, List.set_cons_succ])
    (refine held_take 28 69 ?_ rfl (by kernel_rfl) (by as_aux_lemma => kernel_rfl) (by as_aux_lemma => kernel_rfl) (by as_aux_lemma => kernel_rfl) (fun _ _ _ h => h) (by kernel_rfl) ?_ (by assumption) ?_; rotate_left; (intro w hSw; clear hSw; go_simp); (try with_reducible rfl); simp only [List.set_cons_zero, List.set_cons_succ])
    (refine held_take 29 70 ?_ rfl (by kernel_rfl) (by as_aux_lemma => kernel_rfl) (by as_aux_lemma => kernel_rfl) (by as_aux_lemma => kernel_rfl) (fun _ _ _ h => h) (by kernel_rfl) ?_ (by assumption) ?_; rotate_left; (intro w hSw; clear hSw; go_simp); (try with_reducible rfl); simp only [List.set_cons_zero, List.set_cons_succ])
    (refine held_take 30 71 ?_ rfl (by kernel_rfl) (by as_aux_lemma => kernel_rfl) (by as_aux_lemma => kernel_rfl) (by as_aux_lemma => kernel_rfl) (fun _ _ _ h => h) (by kernel_rfl) ?_ (by assumption) ?_; rotate_left; (intro w hSw; clear hSw; go_simp); (try with_reducible rfl); simp only [List.set_cons_zero, List.set_cons_succ])
    (refine held_take 31 72 ?_ rfl (by kernel_rfl) (by as_aux_lemma => kernel_rfl) (by as_aux_lemma => kernel_rfl) (by as_aux_lemma => kernel_rfl) (fun _ _ _ h => h) (by kernel_rfl) ?_ (by assumption) ?_; rotate_left; (intro w hSw; clear hSw; go_simp); (try with_reducible rfl); simp only [List.set_cons_zero, List.set_cons_succ])
    (refine held_take 32 73 ?_ rfl (by kernel_rfl) (by as_aux_lemma => kernel_rfl) (by as_aux_lemma => kernel_rfl) (by as_aux_lemma => kernel_rfl) (fun _ _ _ h => h) (by kernel_rfl) ?_ (by assumption) ?_; rotate_left; (intro w hSw; clear hSw; go_simp); (try with_reducible rfl); simp only [List.set_cons_zero, List.set_cons_succ])
    (refine held_take 33 74 ?_ rfl (by kernel_rfl) (by as_aux_lemma => kernel_rfl) (by as_aux_lemma => kernel_rfl) (by as_aux_lemma => kernel_rfl) (fun _ _ _ h => h) (by kernel_rfl) ?_ (by assumption) ?_; rotate_left; (intro w hSw; clear hSw; go_simp); (try with_reducible rfl); simp only [List.set_cons_zero, List.set_cons_succ])
    (refine held_take 34 75 ?_ rfl (by kernel_rfl) (by as_aux_lemma => kernel_rfl) (by as_aux_lemma => kernel_rfl) (by as_aux_lemma => kernel_rfl) (fun _ _ _ h => h) (by kernel_rfl) ?_ (by assumption) ?_; rotate_left; (intro w hSw; clear hSw; go_simp); (try with_reducible rfl); simp only [List.set_cons_zero, List.set_cons_succ])
    (refine held_take 35 76 ?_ rfl (by kernel_rfl) (by as_aux_lemma => kernel_rfl) (by as_aux_lemma => kernel_rfl) (by as_aux_lemma => kernel_rfl) (fun _ _ _ h => h) (by kernel_rfl) ?_ (by assumption) ?_; rotate_left; (intro w hSw; clear hSw; go_simp); (try with_reducible rfl); simp only [List.set_cons_zero, List.set_cons_succ])
    (refine held_take 36 77 ?_ rfl (by kernel_rfl) (by as_aux_lemma => kernel_rfl) (by as_aux_lemma => kernel_rfl) (by as_aux_lemma => kernel_rfl) (fun _ _ _ h => h) (by kernel_rfl) ?_ (by assumption) ?_; rotate_left; (intro w hSw; clear hSw; go_simp); (try with_reducible rfl); simp only [List.set_cons_zero, List.set_cons_succ])
    (refine held_take 37 78 (.pointer (some ⟨g, 2, none⟩)) rfl rfl (by as_aux_lemma => kernel_rfl) (by as_aux_lemma => kernel_rfl) (by as_aux_lemma => kernel_rfl) (fun _ _ _ h => h) (by kernel_rfl) ?_ (by assumption) ?_; (intro w hSw; clear hSw; first | rfl | go_simp); simp only [List.set_cons_zero, List.set_cons_succ])
    (refine held_take 38 79 (.int .i64 s) rfl rfl (by as_aux_lemma => kernel_rfl) (by as_aux_lemma => kernel_rfl) (by as_aux_lemma => kernel_rfl) (fun _ _ _ h => h) (by kernel_rfl) ?_ (by assumption) ?_; (intro w hSw; have B := HBk9.out.keep hSw; have e0 := B.cell 2 _ rfl; have e1 := B.cell 5 _ rfl; clear B hSw; go_simp); simp only [List.set_cons_zero, List.set_cons_succ])
    refine wpAnyH_ready (rs := [39]) (by as_aux_lemma => kernel_rfl) (by simp) (.cons rfl (fun K hK => ?_) .nil)
    rw [if_pos (by kernel_rfl)]
    go_simp
    refine (bUnsub0 _ _).mono ?_
    rintro e xx ⟨rfl, rfl⟩
    have hSS := HS.out
    refine hK.out _ _ HS.out (fun hHeld => ?_)
    clear hK K
    (try simp only [Act.put, List.setIfInBounds_toArray, List.set_cons_zero, List.set_cons_succ])
    (refine held_take 40 81 ?_ rfl (by kernel_rfl) (by as_aux_lemma => kernel_rfl) (by as_aux_lemma => kernel_rfl) (by as_aux_lemma => kernel_rfl) (fun _ _ _ h => h) (by kernel_rfl) ?_ (by assumption) ?_; rotate_left; (intro w hSw; clear hSw; go_simp); (try with_reducible rfl); simp only [List.set_cons_zero, List.set_cons_succ])
    (refine held_take 41 82 ?_ rfl (by kernel_rfl) (by as_aux_lemma => kernel_rfl) (by as_aux_lemma => kernel_rfl) (by as_aux_lemma => kernel_rfl) (fun _ _ _ h => h) (by kernel_rfl) ?_ (by assumption) ?_; rotate_left; (intro w hSw; clear hSw; go_simp); (try with_reducible rfl); simp only [List.set_cons_zero, List.set_cons_succ])
    (refine held_take 42 83 ?_ rfl (by kernel_rfl) (by as_aux_lemma => kernel_rfl) (by as_aux_lemma => kernel_rfl) (by as_aux_lemma => kernel_rfl) (fun _ _ _ h => h) (by kernel_rfl) ?_ (by assumption) ?_; rotate_left; (intro w hSw; clear hSw; go_simp); (try with_reducible rfl); simp only [List.set_cons_zero, List.set_cons_succ])
    (refine held_take 43 84 ?_ rfl (by kernel_rfl) (by as_aux_lemma => kernel_rfl) (by as_aux_lemma => kernel_rfl) (by as_aux_lemma => kernel_rfl) (fun _ _ _ h => h) (by kernel_rfl) ?_ (by assumption) ?_; rotate_left; (intro w hSw; clear hSw; go_simp); (try with_reducible rfl); simp only [List.set_cons_zero, List.set_cons_succ])
    (refine held_take 44 85 (.pointer (some ⟨g, 2, none⟩)) rfl rfl (by as_aux_lemma => kernel_rfl) (by as_aux_lemma => kernel_rfl) (by as_aux_lemma => kernel_rfl) (fun _ _ _ h => h) (by kernel_rfl) ?_ (by assumption) ?_; (intro w hSw; clear hSw; first | rfl | go_simp); simp only [List.set_cons_zero, List.set_cons_succ])
    (refine held_take 45 86 (.int .i64 s) rfl rfl (by as_aux_lemma => kernel_rfl) (by as_aux_lemma => kernel_rfl) (by as_aux_lemma => kernel_rfl) (fun _ _ _ h => h) (by kernel_rfl) ?_ (by assumption) ?_; (intro w hSw; have B := HBk9.out.keep hSw; have e0 := B.cell 2 _ rfl; have e1 := B.cell 5 _ rfl; clear B hSw; go_simp); simp only [List.set_cons_zero, List.set_cons_succ])
    refine wpAnyH_ready (rs := [46]) (by as_aux_lemma => kernel_rfl) (by simp) (.cons rfl (fun K hK => ?_) .nil)
    rw [if_pos (by kernel_rfl)]
    go_simp
    refine (bBack0 _ _).mono ?_
    rintro e xx ⟨rfl, rfl⟩
    have hSS := HS.out
    refine hK.out _ _ HS.out (fun hHeld => ?_)
    clear hK K
    (try simp only [Act.put, List.setIfInBounds_toArray, List.set_cons_zero, List.set_cons_succ])
    (refine held_take 47 88 ?_ rfl (by kernel_rfl) (by as_aux_lemma => kernel_rfl) (by as_aux_lemma => kernel_rfl) (by as_aux_lemma => kernel_rfl) (fun _ _ _ h => h) (by kernel_rfl) ?_ (by assumption) ?_; rotate_left; (intro w hSw; clear hSw; go_simp); (try with_reducible rfl); simp only [List.set_cons_zero, List.set_cons_succ])
    (refine held_take 48 89 ?_ rfl (by kernel_rfl) (by as_aux_lemma => kernel_rfl) (by as_aux_lemma => kernel_rfl) (by as_aux_lemma => kernel_rfl) (fun _ _ _ h => h) (by kernel_rfl) ?_ (by assumption) ?_; rotate_left; (intro w hSw; clear hSw; go_simp); (try with_reducible rfl); simp only [List.set_cons_zero, List.set_cons_succ])
    (refine held_take 49 90 ?_ rfl (by kernel_rfl) (by as_aux_lemma => kernel_rfl) (by as_aux_lemma => kernel_rfl) (by as_aux_lemma => kernel_rfl) (fun _ _ _ h => h) (by kernel_rfl) ?_ (by assumption) ?_; rotate_left; (intro w hSw; clear hSw; go_simp); (try with_reducible rfl); simp only [List.set_cons_zero, List.set_cons_succ])
    (refine held_take 50 91 ?_ rfl (by kernel_rfl) (by as_aux_lemma => kernel_rfl) (by as_aux_lemma => kernel_rfl) (by as_aux_lemma => kernel_rfl) (fun _ _ _ h => h) (by kernel_rfl) ?_ (by assumption) ?_; rotate_left; (intro w hSw; clear hSw; go_simp); (try with_reducible rfl); simp only [List.set_cons_zero, List.set_cons_succ])
    (refine held_take 51 92 (.pointer (some ⟨g, 2, none⟩)) rfl rfl (by as_aux_lemma => kernel_rfl) (by as_aux_lemma => kernel_rfl) (by as_aux_lemma => kernel_rfl) (fun _ _ _ h => h) (by kernel_rfl) ?_ (by assumption) ?_; (intro w hSw; clear hSw; first | rfl | go_simp); simp only [List.set_cons_zero, List.set_cons_succ])
    (refine held_take 52 93 (.int .i64 s) rfl rfl (by as_aux_lemma => kernel_rfl) (by as_aux_lemma => kernel_rfl) (by as_aux_lemma => kernel_rfl) (fun _ _ _ h => h) (by kernel_rfl) ?_ (by assumption) ?_; (intro w hSw; have B := HBk9.out.keep hSw; have e0 := B.cell 2 _ rfl; have e1 := B.cell 5 _ rfl; clear B hSw; go_simp); simp only [List.set_cons_zero, List.set_cons_succ])
    (refine held_take 53 94 (.pointer (some ⟨g, 3, none⟩)) rfl rfl (by as_aux_lemma => kernel_rfl) (by as_aux_lemma => kernel_rfl) (by as_aux_lemma => kernel_rfl) (fun _ _ _ h => h) (by kernel_rfl) ?_ (by assumption) ?_; (intro w hSw; clear hSw; first | rfl | go_simp); simp only [List.set_cons_zero, List.set_cons_succ])
    (refine held_take 54 95 (.int .i64 t) rfl rfl (by as_aux_lemma => kernel_rfl) (by as_aux_lemma => kernel_rfl) (by as_aux_lemma => kernel_rfl) (fun _ _ _ h => h) (by kernel_rfl) ?_ (by assumption) ?_; (intro w hSw; have B := HBk9.out.keep hSw; have e0 := B.cell 3 _ rfl; have e1 := B.cell 5 _ rfl; clear B hSw; go_simp); simp only [List.set_cons_zero, List.set_cons_succ])
    refine wpAnyH_ready (rs := [55]) (by as_aux_lemma => kernel_rfl) (by simp) (.cons rfl (fun K hK => ?_) .nil)
    rw [if_pos (by kernel_rfl)]
    go_simp
    refine (bAck0 _ _ _).mono ?_
    rintro e xx ⟨rfl, rfl⟩
    have hSS := HS.out
    refine hK.out _ _ HS.out (fun hHeld => ?_)
    clear hK K
    (try simp only [Act.put, List.setIfInBounds_toArray, List.set_cons_zero, List.set_cons_succ])
    (refine held_take 56 97 ?_ rfl (by kernel_rfl) (by as_aux_lemma => kernel_rfl) (by as_aux_lemma => kernel_rfl) (by as_aux_lemma => kernel_rfl) (fun _ _ _ h => h) (by kernel_rfl) ?_ (by assumption) ?_; rotate_left; (intro w hSw; clear hSw; go_simp); (try with_reducible rfl); simp only [List.set_cons_zero, List.set_cons_succ])
    (refine held_take 57 98 ?_ rfl (by kernel_rfl) (by as_aux_lemma => kernel_rfl) (by as_aux_lemma => kernel_rfl) (by as_aux_lemma => kernel_rfl) (fun _ _ _ h => h) (by kernel_rfl) ?_ (by assumption) ?_; rotate_left; (intro w hSw; clear hSw; go_simp); (try with_reducible rfl); simp only [List.set_cons_zero, List.set_cons_succ])
    (refine held_take 58 99 ?_ rfl (by kernel_rfl) (by as_aux_lemma => kernel_rfl) (by as_aux_lemma => kernel_rfl) (by as_aux_lemma => kernel_rfl) (fun _ _ _ h => h) (by kernel_rfl) ?_ (by assumption) ?_; rotate_left; (intro w hSw; clear hSw; go_simp); (try with_reducible rfl); simp only [List.set_cons_zero, List.set_cons_succ])
    (refine held_take 59 100 ?_ rfl (by kernel_rfl) (by as_aux_lemma => kernel_rfl) (by as_aux_lemma => kernel_rfl) (by as_aux_lemma => kernel_rfl) (fun _ _ _ h => h) (by kernel_rfl) ?_ (by assumption) ?_; rotate_left; (intro w hSw; clear hSw; go_simp); (try with_reducible rfl); simp only [List.set_cons_zero, List.set_cons_succ])
    (refine held_take 60 101 (.pointer (some ⟨g, 1, none⟩)) rfl rfl (by as_aux_lemma => kernel_rfl) (by as_aux_lemma => kernel_rfl) (by as_aux_lemma => kernel_rfl) (fun _ _ _ h => h) (by kernel_rfl) ?_ (by assumption) ?_; (intro w hSw; clear hSw; first | rfl | go_simp); simp only [List.set_cons_zero, List.set_cons_succ])
    (refine held_take 61 102 (.int .i64 q) rfl rfl (by as_aux_lemma => kernel_rfl) (by as_aux_lemma => kernel_rfl) (by as_aux_lemma => kernel_rfl) (fun _ _ _ h => h) (by kernel_rfl) ?_ (by assumption) ?_; (intro w hSw; have B := HBk9.out.keep hSw; have e0 := B.cell 1 _ rfl; have e1 := B.cell 5 _ rfl; clear B hSw; go_simp); simp only [List.set_cons_zero, List.set_cons_succ])
    (refine held_take 63 104 ?_ rfl (by kernel_rfl) (by as_aux_lemma => kernel_rfl) (by as_aux_lemma => kernel_rfl) (by as_aux_lemma => kernel_rfl) (fun _ _ _ h => h) (by kernel_rfl) ?_ (by assumption) ?_; rotate_left; (intro w hSw; clear hSw; go_simp); (try with_reducible rfl); simp only [List.set_cons_zero, List.set_cons_succ])
    (refine held_take 64 105 (.pointer (some ⟨g, 1, none⟩)) rfl rfl (by as_aux_lemma => kernel_rfl) (by as_aux_lemma => kernel_rfl) (by as_aux_lemma => kernel_rfl) (fun _ _ _ h => h) (by kernel_rfl) ?_ (by assumption) ?_; (intro w hSw; clear hSw; first | rfl | go_simp); simp only [List.set_cons_zero, List.set_cons_succ])
    (refine held_take 65 106 (.int .i64 q) rfl rfl (by as_aux_lemma => kernel_rfl) (by as_aux_lemma => kernel_rfl) (by as_aux_lemma => kernel_rfl) (fun _ _ _ h => h) (by kernel_rfl) ?_ (by assumption) ?_; (intro w hSw; have B := HBk9.out.keep hSw; have e0 := B.cell 1 _ rfl; have e1 := B.cell 5 _ rfl; clear B hSw; go_simp); simp only [List.set_cons_zero, List.set_cons_succ])
    (refine held_take 68 109 ?_ rfl (by kernel_rfl) (by as_aux_lemma => kernel_rfl) (by as_aux_lemma => kernel_rfl) (by as_aux_lemma => kernel_rfl) (fun _ _ _ h => h) (by kernel_rfl) ?_ (by assumption) ?_; rotate_left; (intro w hSw; clear hSw; go_simp); (try with_reducible rfl); simp only [List.set_cons_zero, List.set_cons_succ])
    (refine held_take 69 110 (.pointer (some ⟨g, 1, none⟩)) rfl rfl (by as_aux_lemma => kernel_rfl) (by as_aux_lemma => kernel_rfl) (by as_aux_lemma => kernel_rfl) (fun _ _ _ h => h) (by kernel_rfl) ?_ (by assumption) ?_; (intro w hSw; clear hSw; first | rfl | go_simp); simp only [List.set_cons_zero, List.set_cons_succ])
    (refine held_take 70 111 (.int .i64 q) rfl rfl (by as_aux_lemma => kernel_rfl) (by as_aux_lemma => kernel_rfl) (by as_aux_lemma => kernel_rfl) (fun _ _ _ h => h) (by kernel_rfl) ?_ (by assumption) ?_; (intro w hSw; have B := HBk9.out.keep hSw; have e0 := B.cell 1 _ rfl; have e1 := B.cell 5 _ rfl; clear B hSw; go_simp); simp only [List.set_cons_zero, List.set_cons_succ])
    refine wpAnyH_ready (rs := [62]) (by as_aux_lemma => kernel_rfl) (by simp) (.cons rfl (fun K hK => ?_) .nil)
    rw [if_pos (by kernel_rfl)]
    go_simp
    refine (bSettled0 _ _).mono ?_
    rintro e xx ⟨rfl, hb⟩
    have HS := Lib.hid (HS.out.trans (hb.mono HS.out.size))
    clear hb
    have hSS := HS.out
    refine hK.out _ _ HS.out (fun hHeld => ?_)
    clear hK K
    (try simp only [Act.put, List.setIfInBounds_toArray, List.set_cons_zero, List.set_cons_succ])
    refine wpAnyH_ready (rs := [66]) (by as_aux_lemma => kernel_rfl) (by simp) (.cons rfl (fun K hK => ?_) .nil)
    rw [if_pos (by kernel_rfl)]
    go_simp
    refine (bFloor0 _ _).mono ?_
    rintro e xx ⟨rfl, hb⟩
    have HS := Lib.hid (HS.out.trans (hb.mono HS.out.size))
    clear hb
    have hSS := HS.out
    refine hK.out _ _ HS.out (fun hHeld => ?_)
    clear hK K
    (try simp only [Act.put, List.setIfInBounds_toArray, List.set_cons_zero, List.set_cons_succ])
    (refine held_take 67 108 ?_ rfl (by kernel_rfl) (by as_aux_lemma => kernel_rfl) (by as_aux_lemma => kernel_rfl) (by as_aux_lemma => kernel_rfl) (fun _ _ _ h => h) (by kernel_rfl) ?_ (by assumption) ?_; rotate_left; (intro w hSw; clear hSw; go_simp); (try with_reducible rfl); simp only [List.set_cons_zero, List.set_cons_succ])
    refine wpAnyH_ready (rs := [71]) (by as_aux_lemma => kernel_rfl) (by simp) (.cons rfl (fun K hK => ?_) .nil)
    rw [if_pos (by kernel_rfl)]
    go_simp
    refine (bLast0 _ _).mono ?_
    rintro e xx ⟨rfl, hb⟩
    have HS := Lib.hid (HS.out.trans (hb.mono HS.out.size))
    clear hb
    have hSS := HS.out
    refine hK.out _ _ HS.out (fun hHeld => ?_)
    clear hK K
    (try simp only [Act.put, List.setIfInBounds_toArray, List.set_cons_zero, List.set_cons_succ])
    (refine held_take 72 113 ?_ rfl (by kernel_rfl) (by as_aux_lemma => kernel_rfl) (by as_aux_lemma => kernel_rfl) (by as_aux_lemma => kernel_rfl) (fun _ _ _ h => h) (by kernel_rfl) ?_ (by assumption) ?_; rotate_left; (intro w hSw; clear hSw; go_simp); (try with_reducible rfl); simp only [List.set_cons_zero, List.set_cons_succ])
    (refine held_take 73 114 ?_ rfl (by kernel_rfl) (by as_aux_lemma => kernel_rfl) (by as_aux_lemma => kernel_rfl) (by as_aux_lemma => kernel_rfl) (fun _ _ _ h => h) (by kernel_rfl) ?_ (by assumption) ?_; rotate_left; (intro w hSw; clear hSw; go_simp); (try with_reducible rfl); simp only [List.set_cons_zero, List.set_cons_succ])
    (refine held_take 74 115 ?_ rfl (by kernel_rfl) (by as_aux_lemma => kernel_rfl) (by as_aux_lemma => kernel_rfl) (by as_aux_lemma => kernel_rfl) (fun _ _ _ h => h) (by kernel_rfl) ?_ (by assumption) ?_; rotate_left; (intro w hSw; clear hSw; go_simp); (try with_reducible rfl); simp only [List.set_cons_zero, List.set_cons_succ])
    (refine held_take 75 116 ?_ rfl (by kernel_rfl) (by as_aux_lemma => kernel_rfl) (by as_aux_lemma => kernel_rfl) (by as_aux_lemma => kernel_rfl) (fun _ _ _ h => h) (by kernel_rfl) ?_ (by assumption) ?_; rotate_left; (intro w hSw; clear hSw; go_simp); (try with_reducible rfl); simp only [List.set_cons_zero, List.set_cons_succ])
    (refine held_take 76 117 ?_ rfl (by kernel_rfl) (by as_aux_lemma => kernel_rfl) (by as_aux_lemma => kernel_rfl) (by as_aux_lemma => kernel_rfl) (fun _ _ _ h => h) (by kernel_rfl) ?_ (by assumption) ?_; rotate_left; (intro w hSw; clear hSw; go_simp); (try with_reducible rfl); simp only [List.set_cons_zero, List.set_cons_succ])
    (refine held_take 77 118 (.pointer (some ⟨g, 1, none⟩)) rfl rfl (by as_aux_lemma => kernel_rfl) (by as_aux_lemma => kernel_rfl) (by as_aux_lemma => kernel_rfl) (fun _ _ _ h => h) (by kernel_rfl) ?_ (by assumption) ?_; (intro w hSw; clear hSw; first | rfl | go_simp); simp only [List.set_cons_zero, List.set_cons_succ])
    (refine held_take 78 119 (.int .i64 q) rfl rfl (by as_aux_lemma => kernel_rfl) (by as_aux_lemma => kernel_rfl) (by as_aux_lemma => kernel_rfl) (fun _ _ _ h => h) (by kernel_rfl) ?_ (by assumption) ?_; (intro w hSw; have B := HBk9.out.keep hSw; have e0 := B.cell 1 _ rfl; have e1 := B.cell 5 _ rfl; clear B hSw; go_simp); simp only [List.set_cons_zero, List.set_cons_succ])
    refine wpAnyH_ready (rs := [79]) (by as_aux_lemma => kernel_rfl) (by simp) (.cons rfl (fun K hK => ?_) .nil)
    rw [if_pos (by kernel_rfl)]
    go_simp
    refine (bRoom0 _ _).mono ?_
    rintro e xx ⟨rfl, hb⟩
    have HS := Lib.hid (HS.out.trans (hb.mono HS.out.size))
    clear hb
    have hSS := HS.out
    refine hK.out _ _ HS.out (fun hHeld => ?_)
    clear hK K
    (try simp only [Act.put, List.setIfInBounds_toArray, List.set_cons_zero, List.set_cons_succ])
    (refine held_take 80 121 ?_ rfl (by kernel_rfl) (by as_aux_lemma => kernel_rfl) (by as_aux_lemma => kernel_rfl) (by as_aux_lemma => kernel_rfl) (fun _ _ _ h => h) (by kernel_rfl) ?_ (by assumption) ?_; rotate_left; (intro w hSw; clear hSw; go_simp); (try with_reducible rfl); simp only [List.set_cons_zero, List.set_cons_succ])
    (refine held_take 81 122 ?_ rfl (by kernel_rfl) (by as_aux_lemma => kernel_rfl) (by as_aux_lemma => kernel_rfl) (by as_aux_lemma => kernel_rfl) (fun _ _ _ h => h) (by kernel_rfl) ?_ (by assumption) ?_; rotate_left; (intro w hSw; clear hSw; go_simp); (try with_reducible rfl); simp only [List.set_cons_zero, List.set_cons_succ])
    (refine held_take 82 123 ?_ rfl (by kernel_rfl) (by as_aux_lemma => kernel_rfl) (by as_aux_lemma => kernel_rfl) (by as_aux_lemma => kernel_rfl) (fun _ _ _ h => h) (by kernel_rfl) ?_ (by assumption) ?_; rotate_left; (intro w hSw; clear hSw; go_simp); (try with_reducible rfl); simp only [List.set_cons_zero, List.set_cons_succ])
    (refine held_take 83 124 ?_ rfl (by kernel_rfl) (by as_aux_lemma => kernel_rfl) (by as_aux_lemma => kernel_rfl) (by as_aux_lemma => kernel_rfl) (fun _ _ _ h => h) (by kernel_rfl) ?_ (by assumption) ?_; rotate_left; (intro w hSw; clear hSw; go_simp); (try with_reducible rfl); simp only [List.set_cons_zero, List.set_cons_succ])
    (refine held_take 84 125 (.pointer (some ⟨g, 1, none⟩)) rfl rfl (by as_aux_lemma => kernel_rfl) (by as_aux_lemma => kernel_rfl) (by as_aux_lemma => kernel_rfl) (fun _ _ _ h => h) (by kernel_rfl) ?_ (by assumption) ?_; (intro w hSw; clear hSw; first | rfl | go_simp); simp only [List.set_cons_zero, List.set_cons_succ])
    (refine held_take 85 126 (.int .i64 q) rfl rfl (by as_aux_lemma => kernel_rfl) (by as_aux_lemma => kernel_rfl) (by as_aux_lemma => kernel_rfl) (fun _ _ _ h => h) (by kernel_rfl) ?_ (by assumption) ?_; (intro w hSw; have B := HBk9.out.keep hSw; have e0 := B.cell 1 _ rfl; have e1 := B.cell 5 _ rfl; clear B hSw; go_simp); simp only [List.set_cons_zero, List.set_cons_succ])
    (refine held_take 88 129 ?_ rfl (by kernel_rfl) (by as_aux_lemma => kernel_rfl) (by as_aux_lemma => kernel_rfl) (by as_aux_lemma => kernel_rfl) (fun _ _ _ h => h) (by kernel_rfl) ?_ (by assumption) ?_; rotate_left; (intro w hSw; clear hSw; go_simp); (try with_reducible rfl); simp only [List.set_cons_zero, List.set_cons_succ])
    (refine held_take 89 130 (.pointer (some ⟨g, 1, none⟩)) rfl rfl (by as_aux_lemma => kernel_rfl) (by as_aux_lemma => kernel_rfl) (by as_aux_lemma => kernel_rfl) (fun _ _ _ h => h) (by kernel_rfl) ?_ (by assumption) ?_; (intro w hSw; clear hSw; first | rfl | go_simp); simp only [List.set_cons_zero, List.set_cons_succ])
    (refine held_take 90 131 (.int .i64 q) rfl rfl (by as_aux_lemma => kernel_rfl) (by as_aux_lemma => kernel_rfl) (by as_aux_lemma => kernel_rfl) (fun _ _ _ h => h) (by kernel_rfl) ?_ (by assumption) ?_; (intro w hSw; have B := HBk9.out.keep hSw; have e0 := B.cell 1 _ rfl; have e1 := B.cell 5 _ rfl; clear B hSw; go_simp); simp only [List.set_cons_zero, List.set_cons_succ])
    (refine held_take 94 135 ?_ rfl (by kernel_rfl) (by as_aux_lemma => kernel_rfl) (by as_aux_lemma => kernel_rfl) (by as_aux_lemma => kernel_rfl) (fun _ _ _ h => h) (by kernel_rfl) ?_ (by assumption) ?_; rotate_left; (intro w hSw; clear hSw; go_simp); (try with_reducible rfl); simp only [List.set_cons_zero, List.set_cons_succ])
    refine wpAnyH_ready (rs := [86]) (by as_aux_lemma => kernel_rfl) (by simp) (.cons rfl (fun K hK => ?_) .nil)
    rw [if_pos (by kernel_rfl)]
    go_simp
    refine (bKept0 _ _).mono ?_
    rintro e xx ⟨ka, kc, rfl, hb⟩
    have HS := Lib.hid (HS.out.trans (hb.mono HS.out.size))
    clear hb
    have hSS := HS.out
    refine hK.out _ _ HS.out (fun hHeld => ?_)
    clear hK K
    (try simp only [Act.put, List.setIfInBounds_toArray, List.set_cons_zero, List.set_cons_succ])
    (refine held_take 87 128 ?_ rfl (by kernel_rfl) (by as_aux_lemma => kernel_rfl) (by as_aux_lemma => kernel_rfl) (by as_aux_lemma => kernel_rfl) (fun _ _ _ h => h) (by kernel_rfl) ?_ (by assumption) ?_; rotate_left; (intro w hSw; clear hSw; go_simp); (try with_reducible rfl); simp only [List.set_cons_zero, List.set_cons_succ])
    refine wpAnyH_ready (rs := [91]) (by as_aux_lemma => kernel_rfl) (by simp) (.cons rfl (fun K hK => ?_) .nil)
    rw [if_pos (by kernel_rfl)]
    go_simp
    refine (bSubs0 _ _).mono ?_
    rintro e xx ⟨rfl, hb⟩
    have HS := Lib.hid (HS.out.trans (hb.mono HS.out.size))
    clear hb
    have hSS := HS.out
    refine hK.out _ _ HS.out (fun hHeld => ?_)
    clear hK K
    (try simp only [Act.put, List.setIfInBounds_toArray, List.set_cons_zero, List.set_cons_succ])
    (refine held_take 92 133 ?_ rfl (by kernel_rfl) (by as_aux_lemma => kernel_rfl) (by as_aux_lemma => kernel_rfl) (by as_aux_lemma => kernel_rfl) (fun _ _ _ h => h) (by kernel_rfl) ?_ (by assumption) ?_; rotate_left; (intro w hSw; clear hSw; go_simp); (try with_reducible rfl); simp only [List.set_cons_zero, List.set_cons_succ])
    (refine held_take 93 134 ?_ rfl (by kernel_rfl) (by as_aux_lemma => kernel_rfl) (by as_aux_lemma => kernel_rfl) (by as_aux_lemma => kernel_rfl) (fun _ _ _ h => h) (by kernel_rfl) ?_ (by assumption) ?_; rotate_left; (intro w hSw; clear hSw; go_simp); (try with_reducible rfl); simp only [List.set_cons_zero, List.set_cons_succ])
    refine wpAnyH_ready (rs := [95]) (by as_aux_lemma => kernel_rfl) (by simp) (.cons rfl (fun K hK => ?_) .nil)
    rw [if_pos (by kernel_rfl)]
    go_simp
    refine (bQueries0 _).mono ?_
    rintro e xx ⟨rfl, rfl⟩
    have hSS := HS.out
    refine hK.out _ _ HS.out (fun hHeld => ?_)
    clear hK K
    (try simp only [Act.put, List.setIfInBounds_toArray, List.set_cons_zero, List.set_cons_succ])
    (refine held_take 96 137 ?_ rfl (by kernel_rfl) (by as_aux_lemma => kernel_rfl) (by as_aux_lemma => kernel_rfl) (by as_aux_lemma => kernel_rfl) (fun _ _ _ h => h) (by kernel_rfl) ?_ (by assumption) ?_; rotate_left; (intro w hSw; clear hSw; go_simp); (try with_reducible rfl); simp only [List.set_cons_zero, List.set_cons_succ])
    (refine held_take 97 138 ?_ rfl (by kernel_rfl) (by as_aux_lemma => kernel_rfl) (by as_aux_lemma => kernel_rfl) (by as_aux_lemma => kernel_rfl) (fun _ _ _ h => h) (by kernel_rfl) ?_ (by assumption) ?_; rotate_left; (intro w hSw; clear hSw; go_simp); (try with_reducible rfl); simp only [List.set_cons_zero, List.set_cons_succ])
    (refine held_take 98 139 ?_ rfl (by kernel_rfl) (by as_aux_lemma => kernel_rfl) (by as_aux_lemma => kernel_rfl) (by as_aux_lemma => kernel_rfl) (fun _ _ _ h => h) (by kernel_rfl) ?_ (by assumption) ?_; rotate_left; (intro w hSw; clear hSw; go_simp); (try with_reducible rfl); simp only [List.set_cons_zero, List.set_cons_succ])
    (refine held_take 99 140 ?_ rfl (by kernel_rfl) (by as_aux_lemma => kernel_rfl) (by as_aux_lemma => kernel_rfl) (by as_aux_lemma => kernel_rfl) (fun _ _ _ h => h) (by kernel_rfl) ?_ (by assumption) ?_; rotate_left; (intro w hSw; clear hSw; go_simp); (try with_reducible rfl); simp only [List.set_cons_zero, List.set_cons_succ])
    (refine held_take 100 2 ?_ rfl (by kernel_rfl) (by as_aux_lemma => kernel_rfl) (by as_aux_lemma => kernel_rfl) (by as_aux_lemma => kernel_rfl) (fun _ _ _ h => h) (by kernel_rfl) ?_ (by assumption) ?_; rotate_left; (intro w hSw; clear hSw; go_simp); (try with_reducible rfl); simp only [List.set_cons_zero, List.set_cons_succ])
    refine wpAnyH_done (by kernel_rfl) ?_ _
    -- END
    go_wp2
    go_ret
    exact ⟨rfl, HC0.out.trans ((HC.out.trans (HS.out.mono HC.out.size)).mono hWY)⟩
end Go.Proofs.Ytfmolimnnheaoaa
