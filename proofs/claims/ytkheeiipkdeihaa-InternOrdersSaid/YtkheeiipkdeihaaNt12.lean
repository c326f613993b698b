/- (*Table).Takes of a leaf without matchers. -/
import Derived.Test.YtkheeiipkdeihaaNt11
import Derived.Test.YtkheeiipkdeihaaShelf
import Derived.Test.YtkheeiipkdeihaaLa4
namespace Go.Proofs.Ytkheeiipkdeihaa
open Go.RowKit
set_option linter.unusedSimpArgs false
set_option linter.unusedVariables false
open Go.Maps

set_option maxRecDepth 100000 in
theorem ins1 (p : Option Addr) (cap : Nat) (fv : Value) (W : World) : Calls Try.prog 72 #[.slice p 1 cap, .int .i64 0, .int .i64 1, fv] W fun e w' => e = .returned (.tuple #[]) ∧ w' = W := by
  go_enter Try.func72, Try.ntmps72; (try simp only [List.append_eq, List.cons_append, List.nil_append])
  go_wp2
  go_loopw [8] (fun j wr => j = .int .i64 1 ∧ wr = W) (fun _ _ => 0)
  case atStart => exact ⟨rfl, rfl⟩
  case round =>
    obtain ⟨rfl, hw⟩ := hrel
    subst hw
    go_wp2
    go_end0
    exact ⟨rfl, rfl⟩
set_option maxRecDepth 100000 in
theorem pdq1 (p : Option Addr) (cap : Nat) (lim : Int) (fv : Value) (W : World) : Calls Try.prog 65 #[.slice p 1 cap, .int .i64 0, .int .i64 1, .int .i64 lim, fv] W fun e w' => e = .returned (.tuple #[]) ∧ w' = W := by
  go_enter Try.func65, Try.ntmps65; (try simp only [List.append_eq, List.cons_append, List.nil_append])
  go_wp2
  go_loopw [1, 2] (fun a b wr => a = .int .i64 0 ∧ b = .int .i64 1 ∧ wr = W) (fun _ _ _ => 0)
  case atStart => exact ⟨rfl, rfl, rfl⟩
  case round =>
    obtain ⟨rfl, rfl, hw⟩ := hrel
    subst hw
    go_wp2_with fail
    refine (ins1 _ _ _ _).mono ?_
    rintro e w1 ⟨rfl, rfl⟩
    go_wp2
    exact bodyPost_ret (results_none rfl _ _ _) rfl ⟨rfl, rfl⟩
set_option maxRecDepth 100000 in
theorem sort1 (p : Option Addr) (cap : Nat) (fv : Value) (W : World) : Calls Try.prog 49 #[.slice p 1 cap, fv] W fun e w' => e = .returned (.tuple #[]) ∧ w' = W := by
  go_enter Try.func49, Try.ntmps49; (try simp only [List.append_eq, List.cons_append, List.nil_append])
  go_wp2_with fail
  refine (Try.bits_Len 1 W (by decide) (by decide)).mono ?_
  rintro e w1 ⟨rfl, rfl⟩
  go_wp2_with fail
  refine (pdq1 _ _ _ _ _).mono ?_
  rintro e w1 ⟨rfl, rfl⟩
  go_wp2
  go_end0
  exact ⟨rfl, rfl⟩
set_option maxRecDepth 100000 in
set_option maxHeartbeats 8000000 in
theorem cut1 {l : List Int} {v : Value} {b n : Nat} {W : World} (hn : n ≤ W.heap.size) (hb : Blk W b 39 [v]) (h : IsInts n W v l) (hl : l.length ≤ 100000) :
    Calls Try.prog 31 #[.slice (some ⟨b, 0, none⟩) 1 1] W fun e w' => ∃ v', e = .returned v' ∧ OwnI 3 W.heap.size w' v' l ∧ Below W.heap.size W w' := by
  obtain ⟨i0, hi, hz0, hz1, hz2⟩ := info_parts infoInt
  obtain ⟨p, cap, rfl, -, -, -⟩ := h.open
  have HH := Lib.hid h; have HN := Lib.hid hn
  have c0 := hb.cell 0 _ rfl; have hbl := hb.lt
  obtain ⟨N, hN⟩ : ∃ z, l.length = z := ⟨_, rfl⟩
  rw [hN] at HH hl c0
  have HNL := Lib.hid hN
  clear h hn hb hN
  go_enter Try.func31, Try.ntmps31; (try simp only [List.append_eq, List.cons_append, List.nil_append])
  go_wp2_with fail
  refine (sort1 _ _ _ _).mono ?_
  rintro e w1 ⟨rfl, hw1⟩
  subst hw1
  obtain ⟨W, rfl⟩ : ∃ z, z = w1 := ⟨_, rfl⟩
  go_wp2
  clear c0
  go_loopw [3, 17] (fun o j wr => ∃ k : Nat, k ≤ N ∧ j = .int .i64 k ∧ OwnI 3 W.heap.size wr o (l.take k) ∧ Below W.heap.size W wr) (fun _ j _ => N - (intOf j).toNat)
  case atStart => exact ⟨0, Nat.zero_le _, rfl, by rw [List.take_zero]; exact OwnI.nil, Below.refl _ _⟩
  case round =>
    obtain ⟨k, hk, rfl, hown, hb⟩ := hrel
    obtain ⟨X, rfl⟩ : ∃ z, z = wr := ⟨_, rfl⟩
    have HO := Lib.hid hown; have HB := Lib.hid hb
    clear hown hb
    by_cases hlt : k < N
    · have hki : (k : Int) < (N : Int) := by omega
      have hkl : k < l.length := by have := HNL.out; omega
      obtain ⟨b1, o1, rfl, hb1, d0⟩ := (HH.out.mono (HB.out.mono HN.out) (Nat.le_refl _)).get hkl
      obtain ⟨x, hx⟩ : ∃ x, l[k] = x := ⟨_, rfl⟩
      rw [hx] at d0
      have HT := Lib.hid (show l.take (k + 1) = l.take k ++ [x] by rw [List.take_succ_eq_append_getElem hkl, hx])
      have hb1w : b1 < X.heap.size := by have := HN.out; have := HB.out.size; omega
      have hbX := Nat.lt_of_lt_of_le hbl HB.out.size
      have hql : (l.take k).length ≤ 100000 := by rw [List.length_take]; omega
      obtain ⟨q, hq⟩ : ∃ z, l.take k = z := ⟨_, rfl⟩
      rw [hq] at HO HT hql
      clear hx hq hb1 hkl
      obtain ⟨a9, c9, rfl⟩ := ownsRow_slice HO.out
      go_wp2
      go_loopw [6, 24] (fun t j wr => t = .bool true ∧ j = .int .i64 0 ∧ wr = X) (fun _ _ _ => 0)
      case atStart => exact ⟨rfl, rfl, rfl⟩
      case round =>
        obtain ⟨rfl, rfl, hw⟩ := hrel
        subst hw
        obtain ⟨X, rfl⟩ : ∃ z, z = wr := ⟨_, rfl⟩
        go_wp2_with (at_builtin; refine wpList_append_src _ rfl _ _ _ rfl W.heap.size 3 i0 (.int .i64 0) 1 8 Try.underlying39 hi hz0 hz1 hz2 rfl (by decide) (.slice a9 q.length c9) q.length (q.map fun i => Value.int .i64 i) rfl (ownsRow_keep HO.out ((Below.refl _ _).alloc (Nat.le_refl _) _)) _ 1 [.int .i64 x] rfl (srcB (Blk.new X [.int .i64 x] 3) rfl) (by intro u hu; simp at hu; subst hu; rfl) (by unfold maxLen; omega) (by omega) (by have := HB.out.size; simp; omega) ?_; intro v3 w3 hown3 hgr3 _; have HB3 := Lib.hid (below_app (HB.out.alloc HB.out.size (.cells #[.int .i64 x] 3)) (ownsRow_keep HO.out ((Below.refl _ _).alloc (Nat.le_refl _) _)) hgr3 (Nat.le_refl _) (by have := HB.out.size; simp; omega)); have HO3 := Lib.hid hown3; clear hown3 hgr3)
        exact ⟨⟨k + 1, by omega, by go_num, by rw [HT.out]; unfold OwnI; rw [List.length_append, List.map_append]; exact HO3.out, HB3.out⟩, by simp [intOf]; omega⟩
    · have hkN : k = N := by omega
      subst hkN
      have hki : ¬ ((k : Int) < (k : Int)) := by omega
      have HE := Lib.hid (show l.take k = l from List.take_of_length_le (by rw [HNL.out]; exact Nat.le_refl _))
      rw [HE.out] at HO
      go_wp2
      go_ret
      exact ⟨_, rfl, HO.out, HB.out⟩
set_option maxRecDepth 100000 in
set_option maxHeartbeats 4000000 in
theorem tkCl {Fr : Nat → Prop} {W : World} {g c k eB tB : Nat} {T : List Sr} {s : Sr} {cs : List Value} (h : TabM Fr W g T c) (hT : T.length ≤ 1000) (hk : T[k]? = some s) (hok : okS s = 0) (hsm : ∀ x ∈ s.labs, x.small)
    (he : Blk W eB 45 cs) (h5 : cs[5]? = some (.slice none 0 0)) (ht : W.cell? ⟨tB, 0, none⟩ = some (.pointer (some ⟨g, 0, none⟩))) :
    Calls Try.prog 32 #[.int .i64 ((k : Int) + 1), .pointer (some ⟨eB, 0, none⟩), .pointer (some ⟨tB, 0, none⟩)] W fun e w' => e = .returned (.bool false) ∧ Below W.heap.size W w' := by
  obtain ⟨lv, hb, hm, hx, G, F, hA⟩ := h
  obtain ⟨A, cA, rfl⟩ := hA.rows.slice
  obtain ⟨b, v, rfl, hbl, d0, d1, hL⟩ := hA.rows.get hk
  have hkl := (List.getElem?_eq_some_iff.1 hk).1
  have hIL := OwnL.labs (m := W.heap.size) hL (Nat.le_refl _) hsm
  obtain ⟨p, cp, rfl⟩ := ownsRow_slice hL
  have HIL := Lib.hid hIL
  have g0 := hA.blk.cell 0 _ rfl; have hgl := hA.blk.lt
  have e5 := he.cell 5 _ h5; have hel := he.lt
  have htl := World.block_lt_of_cell? W _ ht
  obtain ⟨LT, hLT⟩ : ∃ z, T.length = z := ⟨_, rfl⟩
  rw [hLT] at g0 hT hkl
  have hki : (k : Int) < (LT : Int) := by omega
  have hk0 : (0 : Int) ≤ (k : Int) := by omega
  have hw1 : IntKind.i64.wrap ((k : Int) + 1 - 1) = (k : Int) := by rw [IntWalk.i64_in _ (by omega)]; omega
  have hw2 : IntKind.i64.wrap (k : Int) = (k : Int) := IntWalk.i64_in _ (by omega)
  have HTK := Lib.hid (show takesAll [] s.labs = true by unfold takesAll; rw [(okS_parts hok).2]; rfl)
  obtain ⟨N, hN⟩ : ∃ z, s.labs.length = z := ⟨_, rfl⟩
  rw [hN] at HIL d1
  clear hA hk hok hL hIL hLT hN he h5 hsm
  have e5' := Lib.hid e5; have d1' := Lib.hid d1; have g0' := Lib.hid g0; have ht' := Lib.hid ht
  go_enter Try.func32, Try.ntmps32; (try simp only [List.append_eq, List.cons_append, List.nil_append])
  go_upto_region 1 with fail
  refine wp_region_held_drew (S := fun w => Below W.heap.size W w) (by kernel_rfl) (Below.drew (Below.refl _ _)) (fun hHeld => ?_)
  have HS := Lib.hid (Below.drew (Below.refl W.heap.size W))
  clear hHeld
  have hSS := HS.out
  obtain ⟨X2, hX2⟩ : ∃ z, W.drew = z := ⟨_, rfl⟩
  rw [hX2] at HS hSS ⊢
  clear hX2 e5 d1 g0 ht d0
  (refine held_take 0 5 ?_ rfl (by kernel_rfl) (by kernel_rfl) (by kernel_rfl) (by kernel_rfl) (fun _ _ _ h => h) (by kernel_rfl) ?_ (by assumption) ?_; rotate_left; (intro w hSw; clear hSw; go_simp); (try with_reducible rfl); simp only [List.set_cons_zero, List.set_cons_succ])
  (refine held_take 1 6 (.slice none 0 0) rfl rfl (by kernel_rfl) (by kernel_rfl) (by kernel_rfl) (fun _ _ _ h => h) (by kernel_rfl) ?_ (by assumption) ?_; (intro w hSw; have f1 := (hSw.cell (p := ⟨eB, 5, none⟩) hel).trans e5'.out; clear hSw; go_simp); simp only [List.set_cons_zero, List.set_cons_succ])
  (refine held_take 2 7 (.pointer (some ⟨g, 0, none⟩)) rfl rfl (by kernel_rfl) (by kernel_rfl) (by kernel_rfl) (fun _ _ _ h => h) (by kernel_rfl) ?_ (by assumption) ?_; (intro w hSw; have f1 := (hSw.cell (p := ⟨tB, 0, none⟩) htl).trans ht'.out; clear hSw; go_simp); simp only [List.set_cons_zero, List.set_cons_succ])
  (refine held_take 3 8 ?_ rfl (by kernel_rfl) (by kernel_rfl) (by kernel_rfl) (by kernel_rfl) (fun _ _ _ h => h) (by kernel_rfl) ?_ (by assumption) ?_; rotate_left; (intro w hSw; clear hSw; go_simp); (try with_reducible rfl); simp only [List.set_cons_zero, List.set_cons_succ])
  (refine held_take 4 9 (.pointer (some ⟨g, 0, none⟩)) rfl rfl (by kernel_rfl) (by kernel_rfl) (by kernel_rfl) (fun _ _ _ h => h) (by kernel_rfl) ?_ (by assumption) ?_; (intro w hSw; clear hSw; first | rfl | go_simp); simp only [List.set_cons_zero, List.set_cons_succ])
  (refine held_take 5 10 (.slice (some ⟨b, 0, none⟩) LT cA) rfl rfl (by kernel_rfl) (by kernel_rfl) (by kernel_rfl) (fun _ _ _ h => h) (by kernel_rfl) ?_ (by assumption) ?_; (intro w hSw; have f1 := (hSw.cell (p := ⟨g, 0, none⟩) hgl).trans g0'.out; clear hSw; go_simp); simp only [List.set_cons_zero, List.set_cons_succ])
  (refine held_take 6 11 ?_ rfl (by kernel_rfl) (by kernel_rfl) (by kernel_rfl) (by kernel_rfl) (fun _ _ _ h => h) (by kernel_rfl) ?_ (by assumption) ?_; rotate_left; (intro w hSw; clear hSw; go_simp); (try with_reducible rfl); simp only [List.set_cons_zero, List.set_cons_succ])
  (refine held_take 7 12 (.int .i64 (k : Int)) rfl rfl (by kernel_rfl) (by kernel_rfl) (by kernel_rfl) (fun _ _ _ h => h) (by kernel_rfl) ?_ (by assumption) ?_; (intro w hSw; clear hSw; go_simp; (try rw [hw2]); (try omega)); simp only [List.set_cons_zero, List.set_cons_succ])
  (refine held_take 8 13 (.pointer (some ⟨b, k * 2, none⟩)) rfl rfl (by kernel_rfl) (by kernel_rfl) (by kernel_rfl) (fun _ _ _ h => h) (by kernel_rfl) ?_ (by assumption) ?_; (intro w hSw; clear hSw; go_simp); simp only [List.set_cons_zero, List.set_cons_succ])
  (refine held_take 9 14 (.pointer (some ⟨b, k * 2 + 1, none⟩)) rfl rfl (by kernel_rfl) (by kernel_rfl) (by kernel_rfl) (fun _ _ _ h => h) (by kernel_rfl) ?_ (by assumption) ?_; (intro w hSw; clear hSw; first | rfl | go_simp); simp only [List.set_cons_zero, List.set_cons_succ])
  (refine held_take 10 15 (.slice p N cp) rfl rfl (by kernel_rfl) (by kernel_rfl) (by kernel_rfl) (fun _ _ _ h => h) (by kernel_rfl) ?_ (by assumption) ?_; (intro w hSw; have f1 := (hSw.cell (p := ⟨b, k * 2 + 1, none⟩) hbl).trans d1'.out; clear hSw; go_simp); simp only [List.set_cons_zero, List.set_cons_succ])
  refine wpAnyH_ready (rs := [11]) (by kernel_rfl) (by simp) (.cons rfl (fun K hK => ?_) .nil)
  rw [if_pos (by kernel_rfl)]
  go_simp
  refine (lTakes [] s.labs (.slice none 0 0) (.slice p N cp) W.heap.size X2 HS.out.size ⟨Arr.nil _ _ _, by simp⟩ (HIL.out.mono HS.out (Nat.le_refl _))).mono ?_
  rintro e w9 ⟨rfl, hb9⟩
  rw [HTK.out]
  have HS := Lib.hid (HS.out.trans (hb9.mono HS.out.size))
  clear hb9
  have hSS := HS.out
  refine hK.out _ _ HS.out (fun hHeld => ?_)
  clear hK K
  (try simp only [Act.put, List.setIfInBounds_toArray, List.set_cons_zero, List.set_cons_succ])
  (refine held_take 12 17 ?_ rfl (by kernel_rfl) (by kernel_rfl) (by kernel_rfl) (by kernel_rfl) (fun _ _ _ h => h) (by kernel_rfl) ?_ (by assumption) ?_; rotate_left; (intro w hSw; clear hSw; go_simp); (try with_reducible rfl); simp only [List.set_cons_zero, List.set_cons_succ])
  (refine held_take 13 4 (.bool false) rfl rfl (by kernel_rfl) (by kernel_rfl) (by kernel_rfl) (fun _ _ _ h => h) (by kernel_rfl) ?_ (by assumption) ?_; (intro w hSw; clear hSw; first | rfl | go_simp); (try simp only [List.set_cons_zero, List.set_cons_succ]))
  refine wpAnyH_done (by kernel_rfl) ?_ _
  go_wp2
  go_ret
  exact ⟨rfl, HS.out⟩
end Go.Proofs.Ytkheeiipkdeihaa
