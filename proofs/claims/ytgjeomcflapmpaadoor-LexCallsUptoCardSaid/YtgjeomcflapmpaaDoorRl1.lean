/- The reference's lexer: text in quotes; Unquote. -/
import Derived.Test.YtgjeomcflapmpaaDoorRl0
import Derived.Test.YtgjeomcflapmpaaDoorStl
import Derived.IntWalk
namespace Go.Proofs.YtgjeomcflapmpaaDoor
open Go.RowKit
set_option linter.unusedSimpArgs false
set_option linter.unusedVariables false

/-- What the reference's text tells, from a quote at a on. -/
def txt5 (s : ByteArray) (a : Nat) : Value := match textAt (sl s (a + 1)) with
  | some (x, n) => .tuple #[.string ⟨x.toArray⟩, .int .i64 ((a + 1 + n : Nat) : Int), .bool (decide ((x.length : Int) ≤ 64))]
  | none => .tuple #[.string ⟨#[]⟩, .int .i64 0, .bool false]
theorem txt5_quote {s : ByteArray} {a k : Nat} {l : List UInt8} (h : TxtI s a k l) (hk : k < s.size) (hak : a + 1 ≤ k) (hc : s[k] = 34) : txt5 s a = .tuple #[.string ⟨l.toArray⟩, .int .i64 ((k : Int) + 1), .bool (decide ((l.length : Int) ≤ 64))] := by
  unfold TxtI at h
  rw [sl_cons hk, hc, textAt_quote] at h
  unfold txt5
  rw [h]
  simp
  omega
theorem txt5_none {s : ByteArray} {a k : Nat} {l : List UInt8} (h : TxtI s a k l) (hn : textAt (sl s k) = none) : txt5 s a = .tuple #[.string ⟨#[]⟩, .int .i64 0, .bool false] := by
  unfold TxtI at h
  unfold txt5
  rw [h, hn]; rfl
theorem halfI_yes {c : UInt8} (h : hexC c = true) : halfI c = (hexV c : Int) := by unfold halfI; rw [h]; rfl
theorem halfI_no {c : UInt8} (h : hexC c = false) : halfI c = -1 := by unfold halfI; rw [h]; rfl
theorem hex16 {A B : Nat} (ha : A ≤ 15) (hb : B ≤ 15) : (16 * (A : Int) + (B : Int)) % 256 = ((UInt8.ofNat (16 * A + B)).toNat : Int) := by
  rw [UInt8.toNat_ofNat']; omega

set_option maxRecDepth 100000 in
set_option maxHeartbeats 4000000 in
theorem rText5 (s : ByteArray) (a : Nat) (w : World) (hs : s.size ≤ 16384) (ha : a < s.size) (h34 : s[a] = 34) :
    Calls Tryd.prog 30 #[.string s, .int .i64 a] w fun e w' => e = .returned (txt5 s a) ∧ Below w.heap.size w w' := by
  obtain ⟨i0, hi, hz0, hz1, hz2⟩ := info_parts infoB
  have q0 : ((s[a].toNat : Int) != 34) = false := by rw [h34]; rfl
  have q0' : (s[a].toNat : Int) = 34 := by rw [h34]; rfl
  have ha' : ¬ (s.size : Int) ≤ (a : Int) := by omega
  clear h34
  go_enter Tryd.func30, Tryd.ntmps30; (try simp only [List.append_eq, List.cons_append, List.nil_append])
  go_wp2
  clear q0 q0'
  go_loopw [7, 8] (fun v i wr => ∃ (k : Nat) (l : List UInt8), a + 1 ≤ k ∧ k ≤ s.size ∧ i = .int .i64 k ∧ l.length ≤ k ∧ OwnB w.heap.size wr v l ∧ TxtI s a k l ∧ Below w.heap.size w wr) (fun _ i _ => s.size - (intOf i).toNat)
  case atStart => exact ⟨a + 1, [], by omega, by omega, by go_num, by simp, World.ownsRow_nil _ _ _ _, by unfold TxtI; simp, Below.refl _ _⟩
  case round =>
    obtain ⟨k, l, hak, hk, rfl, hlk, hown, hr, hb⟩ := hrel
    have Hr := Lib.hid hr; clear hr
    have Hb := Lib.hid hb; clear hb
    obtain ⟨A, cap, rfl⟩ := ownB_slice hown
    have Hown := Lib.hid hown; clear hown
    have HL : l.length + 1 ≤ maxLen ∧ (l.length + 1) * 1 ≤ 140737488355328 := by unfold maxLen; omega
    by_cases hlt : k < s.size
    · by_cases c34 : s[k] = 34
      · have q1 : ((s[k].toNat : Int) == 34) = true := by rw [c34]; rfl
        have Hq := Lib.hid (txt5_quote Hr.out hlt hak c34)
        clear c34
        have hcv := ownB_convert Hown.out
        go_wp2
        go_ret3
        exact ⟨by rw [Hq.out]; rfl, Hb.out⟩
      · have q1 : ((s[k].toNat : Int) == 34) = false := u8ne (n := 34) (by omega) c34
        by_cases c92 : s[k] = 92
        · have q2 : ((s[k].toNat : Int) == 92) = true := by rw [c92]; rfl
          by_cases h1 : k + 1 < s.size
          · have e1 : sl s k = 92 :: s[k + 1] :: sl s (k + 2) := by rw [sl_cons hlt, sl_cons h1, c92]
            have hi1 : (k : Int) + 1 < s.size := by omega
            by_cases hd : s[k + 1] = 92 ∨ s[k + 1] = 34
            · have Hst := Lib.hid (txt_step (n := 2) (c := s[k + 1]) Hr.out hak (by rw [e1]; exact textAt_esc _ hd))
              rcases hd with hd | hd
              · have q3 : ((s[k + 1].toNat : Int) == 92) = true := by rw [hd]; rfl
                clear c34 c92 e1 hd
                go_wp2_with (at_builtin; refine wpList_append_own_at _ rfl _ _ 44 rfl w.heap.size 5 i0 _ 1 1 Tryd.underlying44 hi hz0 hz1 hz2 rfl (by decide) _ l.length (bc l) rfl (Hown.out.alloc _) ⟨wr.heap.size, 0, none⟩ 1 1 [.int .u8 (s[k + 1].toNat : Int)] rfl rfl (one_new _ _ _) (one_u8 _) HL.1 HL.2 (Nat.le_trans Hb.out.size (by simp)) ?_; intro v1 w1 hown1 hgr1 _ _)
                refine ⟨⟨k + 2, l ++ [s[k + 1]], by omega, by omega, by go_num, by simp; omega, by unfold OwnB; rw [bc_snoc, List.length_append]; exact hown1, Hst.out, below_app (Hb.out.alloc Hb.out.size _) (Hown.out.alloc _) hgr1 (Nat.le_refl _) (Nat.le_trans Hb.out.size (by simp))⟩, by simp [intOf]; omega⟩
              · have q3 : ((s[k + 1].toNat : Int) == 92) = false := by rw [hd]; rfl
                have q4 : ((s[k + 1].toNat : Int) == 34) = true := by rw [hd]; rfl
                clear c34 c92 e1 hd
                go_wp2_with (at_builtin; refine wpList_append_own_at _ rfl _ _ 44 rfl w.heap.size 5 i0 _ 1 1 Tryd.underlying44 hi hz0 hz1 hz2 rfl (by decide) _ l.length (bc l) rfl (Hown.out.alloc _) ⟨wr.heap.size, 0, none⟩ 1 1 [.int .u8 (s[k + 1].toNat : Int)] rfl rfl (one_new _ _ _) (one_u8 _) HL.1 HL.2 (Nat.le_trans Hb.out.size (by simp)) ?_; intro v1 w1 hown1 hgr1 _ _)
                refine ⟨⟨k + 2, l ++ [s[k + 1]], by omega, by omega, by go_num, by simp; omega, by unfold OwnB; rw [bc_snoc, List.length_append]; exact hown1, Hst.out, below_app (Hb.out.alloc Hb.out.size _) (Hown.out.alloc _) hgr1 (Nat.le_refl _) (Nat.le_trans Hb.out.size (by simp))⟩, by simp [intOf]; omega⟩
            · have q3 : ((s[k + 1].toNat : Int) == 92) = false := u8ne (n := 92) (by omega) (fun e => hd (.inl e))
              have q4 : ((s[k + 1].toNat : Int) == 34) = false := u8ne (n := 34) (by omega) (fun e => hd (.inr e))
              have hhd : headIs (fun d => d == 92 || d == 34) (sl s (k + 1)) = false := by rw [headIs_at h1]; simp; exact ⟨fun e => hd (.inl e), fun e => hd (.inr e)⟩
              by_cases h3 : k + 3 < s.size
              · have e3 : sl s (k + 1) = s[k + 1] :: s[k + 2] :: s[k + 3] :: sl s (k + 4) := by rw [sl_cons h1, sl_cons (by omega : k + 1 + 1 < s.size), sl_cons (by omega : k + 1 + 1 + 1 < s.size)]
                have hi3 : (k : Int) + 3 < (s.size : Int) := by omega
                by_cases hx : s[k + 1] = 120
                · have q5 : ((s[k + 1].toNat : Int) == 120) = true := by rw [hx]; rfl
                  have HA := fun X => rHalf s[k + 2] X
                  have HB := fun X => rHalf s[k + 3] X
                  cases ha2 : hexC s[k + 2] with
                  | false =>
                    have Hq := Lib.hid (txt5_none Hr.out (by
                      rw [sl_cons hlt, c92]
                      refine textAt_no hhd (fun a b r' e => ?_)
                      rw [e3, hx] at e
                      simp only [List.cons.injEq, true_and] at e
                      obtain ⟨rfl, rfl, -⟩ := e
                      exact .inl ha2))
                    rw [halfI_no ha2] at HA
                    have HA2 := Lib.hid HA
                    clear HA HB c34 hd e1 hhd e3 hx ha2 c92
                    go_wp2_with (go_at_call 47; refine (HA2.out _).mono ?_; rintro e w' ⟨rfl, rfl⟩)
                    go_ret3
                    exact ⟨by rw [Hq.out]; rfl, Hb.out⟩
                  | true =>
                    cases hb2 : hexC s[k + 3] with
                    | false =>
                      have Hq := Lib.hid (txt5_none Hr.out (by
                        rw [sl_cons hlt, c92]
                        refine textAt_no hhd (fun a b r' e => ?_)
                        rw [e3, hx] at e
                        simp only [List.cons.injEq, true_and] at e
                        obtain ⟨rfl, rfl, -⟩ := e
                        exact .inr hb2))
                      rw [halfI_yes ha2] at HA
                      rw [halfI_no hb2] at HB
                      have HA2 := Lib.hid HA
                      have HB2 := Lib.hid HB
                      have hn0 : (0 : Int) ≤ (hexV s[k + 2] : Int) := by omega
                      generalize hexV s[k + 2] = A2 at *
                      clear HA HB c34 hd e1 hhd e3 hx ha2 hb2 c92
                      have tk1 : True := trivial
                      go_wp2_with (first
                        | (go_at_call 47; have _t := tk1; clear tk1; refine (HA2.out _).mono ?_; rintro e w' ⟨rfl, rfl⟩; have tk2 : True := trivial)
                        | (go_at_call 47; have _t := tk2; clear tk2; refine (HB2.out _).mono ?_; rintro e w' ⟨rfl, rfl⟩))
                      go_ret3
                      exact ⟨by rw [Hq.out]; rfl, Hb.out⟩
                    | true =>
                      have Hst := Lib.hid (txt_step (n := 4) (c := UInt8.ofNat (16 * hexV s[k + 2] + hexV s[k + 3])) Hr.out hak (by rw [sl_cons hlt, c92, e3, hx]; exact textAt_hex _ ha2 hb2))
                      rw [halfI_yes ha2] at HA
                      rw [halfI_yes hb2] at HB
                      have HA2 := Lib.hid HA
                      have HB2 := Lib.hid HB
                      have hle1 := hexV_le ha2
                      have hle2 := hexV_le hb2
                      generalize hexV s[k + 2] = A2 at *
                      generalize hexV s[k + 3] = B2 at *
                      have h16 := hex16 hle1 hle2
                      obtain ⟨V, hV⟩ : ∃ V : Int, ((UInt8.ofNat (16 * A2 + B2)).toNat : Int) = V := ⟨_, rfl⟩
                      rw [hV] at h16
                      have HV := Lib.hid hV
                      have hn0 : (0 : Int) ≤ (A2 : Int) := by omega
                      have hn1 : (0 : Int) ≤ (B2 : Int) := by omega
                      have hn2 : (A2 : Int) ≤ 15 := by omega
                      have hn3 : (B2 : Int) ≤ 15 := by omega
                      clear HA HB c34 hd e1 hhd e3 hx ha2 hb2 c92 hV
                      have hi2 : (k : Int) + 2 < (s.size : Int) := by omega
                      have tk1 : True := trivial
                      go_upto_region 15 with (first
                        | (go_at_call 47; have _t := tk1; clear tk1; refine (HA2.out _).mono ?_; rintro e w' ⟨rfl, rfl⟩; have tk2 : True := trivial)
                        | (go_at_call 47; have _t := tk2; clear tk2; refine (HB2.out _).mono ?_; rintro e w' ⟨rfl, rfl⟩))
                      refine wp_region_held_drew (S := fun _ => True) (by kernel_rfl) trivial (fun hHeld => ?_)
                      (refine held_take 0 111 ?_ rfl (by kernel_rfl) (by kernel_rfl) (by kernel_rfl) (by kernel_rfl) (fun _ _ _ h => h) (by kernel_rfl) ?_ (by assumption) ?_; rotate_left; (intro w hSw; clear hSw; go_simp); (try with_reducible rfl); simp only [List.set_cons_zero, List.set_cons_succ])
                      (refine held_take 1 112 ?_ rfl (by kernel_rfl) (by kernel_rfl) (by kernel_rfl) (by kernel_rfl) (fun _ _ _ h => h) (by kernel_rfl) ?_ (by assumption) ?_; rotate_left; (intro w hSw; clear hSw; go_simp); (try with_reducible rfl); simp only [List.set_cons_zero, List.set_cons_succ])
                      (refine held_take 2 113 ?_ rfl (by kernel_rfl) (by kernel_rfl) (by kernel_rfl) (by kernel_rfl) (fun _ _ _ h => h) (by kernel_rfl) ?_ (by assumption) ?_; rotate_left; (intro w hSw; clear hSw; go_simp); (try with_reducible rfl); simp only [List.set_cons_zero, List.set_cons_succ])
                      (refine held_take 3 114 (.int .i64 ((k : Int) + 2)) rfl rfl (by kernel_rfl) (by kernel_rfl) (by kernel_rfl) (fun _ _ _ h => h) (by kernel_rfl) ?_ (by assumption) ?_; (intro w hSw; clear hSw; go_simp; try first | exact IntWalk.i64_in _ (by omega) | omega); simp only [List.set_cons_zero, List.set_cons_succ])
                      (refine held_take 4 115 (.int .u8 (s[k + 2].toNat : Int)) rfl rfl (by kernel_rfl) (by kernel_rfl) (by kernel_rfl) (fun _ _ _ h => h) (by kernel_rfl) ?_ (by assumption) ?_; (intro w hSw; clear hSw; go_simp; have e2 : ((k : Int) + 2).toNat = k + 2 := (by omega); simp only [e2]); simp only [List.set_cons_zero, List.set_cons_succ])
                      (refine held_take 7 118 ?_ rfl (by kernel_rfl) (by kernel_rfl) (by kernel_rfl) (by kernel_rfl) (fun _ _ _ h => h) (by kernel_rfl) ?_ (by assumption) ?_; rotate_left; (intro w hSw; clear hSw; go_simp); (try with_reducible rfl); simp only [List.set_cons_zero, List.set_cons_succ])
                      (refine held_take 8 119 ?_ rfl (by kernel_rfl) (by kernel_rfl) (by kernel_rfl) (by kernel_rfl) (fun _ _ _ h => h) (by kernel_rfl) ?_ (by assumption) ?_; rotate_left; (intro w hSw; clear hSw; go_simp); (try with_reducible rfl); simp only [List.set_cons_zero, List.set_cons_succ])
                      (refine held_take 9 120 (.int .i64 ((k : Int) + 3)) rfl rfl (by kernel_rfl) (by kernel_rfl) (by kernel_rfl) (fun _ _ _ h => h) (by kernel_rfl) ?_ (by assumption) ?_; (intro w hSw; clear hSw; go_simp; try first | exact IntWalk.i64_in _ (by omega) | omega); simp only [List.set_cons_zero, List.set_cons_succ])
                      (refine held_take 10 121 (.int .u8 (s[k + 3].toNat : Int)) rfl rfl (by kernel_rfl) (by kernel_rfl) (by kernel_rfl) (fun _ _ _ h => h) (by kernel_rfl) ?_ (by assumption) ?_; (intro w hSw; clear hSw; go_simp; have e2 : ((k : Int) + 3).toNat = k + 3 := (by omega); simp only [e2]); simp only [List.set_cons_zero, List.set_cons_succ])
                      (refine wpAnyH_ready (rs := [5]) (by kernel_rfl) (by simp) (.cons rfl (fun K hK => ?_) .nil))
                      rw [if_pos (by kernel_rfl)]
                      go_simp
                      refine (HA2.out _).mono ?_
                      rintro e' Xb ⟨rfl, rfl⟩
                      dsimp only
                      refine hK.out _ _ trivial (fun hHeld => ?_)
                      clear hK K
                      (try simp only [Act.put, List.setIfInBounds_toArray, List.set_cons_zero, List.set_cons_succ])
                      (refine held_take 6 117 (.int .i64 (16 * (A2 : Int))) rfl rfl (by kernel_rfl) (by kernel_rfl) (by kernel_rfl) (fun _ _ _ h => h) (by kernel_rfl) ?_ (by assumption) ?_; (intro w hSw; clear hSw; go_simp; try first | exact IntWalk.i64_in _ (by omega) | omega); simp only [List.set_cons_zero, List.set_cons_succ])
                      (refine wpAnyH_ready (rs := [11]) (by kernel_rfl) (by simp) (.cons rfl (fun K hK => ?_) .nil))
                      rw [if_pos (by kernel_rfl)]
                      go_simp
                      refine (HB2.out _).mono ?_
                      rintro e' Xb ⟨rfl, rfl⟩
                      dsimp only
                      refine hK.out _ _ trivial (fun hHeld => ?_)
                      clear hK K
                      (try simp only [Act.put, List.setIfInBounds_toArray, List.set_cons_zero, List.set_cons_succ])
                      (refine held_take 12 123 (.int .i64 (16 * (A2 : Int) + (B2 : Int))) rfl rfl (by kernel_rfl) (by kernel_rfl) (by kernel_rfl) (fun _ _ _ h => h) (by kernel_rfl) ?_ (by assumption) ?_; (intro w hSw; clear hSw; go_simp; try first | exact IntWalk.i64_in _ (by omega) | omega); simp only [List.set_cons_zero, List.set_cons_succ])
                      (refine held_take 13 124 (.int .u8 V) rfl rfl (by kernel_rfl) (by kernel_rfl) (by kernel_rfl) (fun _ _ _ h => h) (by kernel_rfl) ?_ (by assumption) ?_; (intro w hSw; clear hSw; go_simp; try first | exact h16 | (rw [IntWalk.u8_in _ (by omega)]; omega) | omega); simp only [List.set_cons_zero, List.set_cons_succ])
                      (refine wpAnyH_ready (rs := [14]) (by kernel_rfl) (by simp) (.cons rfl (fun K hK => ?_) .nil))
                      rw [if_pos (by kernel_rfl)]
                      go_simp
                      refine hK.out _ _ trivial (fun hHeld => ?_)
                      clear hK K
                      (try simp only [Act.put, List.setIfInBounds_toArray, List.set_cons_zero, List.set_cons_succ])
                      have hbd : Below wr.heap.size wr (wr.drew.alloc (.cells #[.int .u8 V] 5)) := (Below.drew (Below.refl _ _)).alloc (Nat.le_refl _) _
                      (refine wpAnyH_ready (rs := [15]) (by kernel_rfl) (by simp) (.cons rfl (fun K hK => ?_) .nil))
                      rw [if_pos (by kernel_rfl)]
                      refine wp_append_src _ _ _ _ rfl w.heap.size 5 i0 _ 1 1 Tryd.underlying44 hi hz0 hz1 hz2 rfl (by decide) _ l.length (bc l) rfl (ownsRow_keep Hown.out hbd) _ 1 [.int .u8 V] rfl (.inr ⟨_, 1, rfl, rfl, one_new _ _ _⟩) (one_u8 _) HL.1 HL.2 (Nat.le_trans Hb.out.size hbd.size) ?_
                      intro v1 w1 hown1 hgr1 _
                      refine hK.out _ _ trivial (fun hHeld => ?_)
                      clear hK K
                      (try simp only [Act.put, List.setIfInBounds_toArray, List.set_cons_zero, List.set_cons_succ])
                      (refine held_take 16 7 ?_ rfl (by kernel_rfl) (by kernel_rfl) (by kernel_rfl) (by kernel_rfl) (fun _ _ _ h => h) (by kernel_rfl) ?_ (by assumption) ?_; rotate_left; (intro w hSw; clear hSw; go_simp); (try with_reducible rfl); simp only [List.set_cons_zero, List.set_cons_succ])
                      refine wpAnyH_done (by kernel_rfl) ?_ _
                      rw [← HV.out] at hown1
                      all_goals go_wp2
                      all_goals exact ⟨⟨k + 4, l ++ [UInt8.ofNat (16 * A2 + B2)], by omega, by omega, by go_num, by simp; omega, by unfold OwnB; rw [bc_snoc, List.length_append]; exact hown1, Hst.out, below_app (Hb.out.trans (hbd.mono Hb.out.size)) (ownsRow_keep Hown.out hbd) hgr1 (Nat.le_refl _) (Nat.le_trans Hb.out.size hbd.size)⟩, by simp [intOf]; omega⟩
                · have q5 : ((s[k + 1].toNat : Int) == 120) = false := u8ne (n := 120) (by omega) hx
                  have Hq := Lib.hid (txt5_none Hr.out (by rw [sl_cons hlt, c92]; refine textAt_no hhd (fun a b r' e => ?_); rw [e3] at e; injection e with e _; exact absurd e hx))
                  clear c34 hd e1 hhd e3 hx c92
                  go_wp2
                  go_ret3
                  exact ⟨by rw [Hq.out]; rfl, Hb.out⟩
              · have hi3 : ¬ (k : Int) + 3 < (s.size : Int) := by omega
                have Hq := Lib.hid (txt5_none Hr.out (by
                  rw [sl_cons hlt, c92]
                  refine textAt_no hhd (fun a b r' e => ?_)
                  have := congrArg List.length e
                  rw [sl_length] at this
                  simp at this; omega))
                clear c34 hd e1 hhd c92
                go_wp2
                go_ret3
                exact ⟨by rw [Hq.out]; rfl, Hb.out⟩
          · have hi1 : ¬ (k : Int) + 1 < s.size := by omega
            have hi3 : ¬ (k : Int) + 3 < (s.size : Int) := by omega
            have Hq := Lib.hid (txt5_none Hr.out (by rw [sl_cons hlt, c92, sl_end (by omega)]; rfl))
            clear c34 c92
            go_wp2
            go_ret3
            exact ⟨by rw [Hq.out]; rfl, Hb.out⟩
        · have q2 : ((s[k].toNat : Int) == 92) = false := u8ne (n := 92) (by omega) c92
          by_cases cbad : (s[k].toNat : Int) < 32 ∨ 126 < (s[k].toNat : Int)
          · have Hq := Lib.hid (txt5_none Hr.out (by rw [sl_cons hlt]; exact textAt_bad _ c34 (by simp only [UInt8.lt_iff_toNat_lt]; simp; omega)))
            have cb : (s[k].toNat : Int) < 32 ∨ (¬ (s[k].toNat : Int) < 32 ∧ 126 < (s[k].toNat : Int)) := by omega
            clear c34 c92 cbad
            rcases cb with h | ⟨h, h'⟩
            all_goals go_wp2
            all_goals go_ret3
            all_goals exact ⟨by rw [Hq.out]; rfl, Hb.out⟩
          · have Hst := Lib.hid (txt_step (n := 1) (c := s[k]) Hr.out hak (by rw [sl_cons hlt]; exact textAt_plain _ c34 (by rw [UInt8.le_iff_toNat_le]; show 32 ≤ _; omega) (by rw [UInt8.le_iff_toNat_le]; show _ ≤ 126; omega) c92))
            have cb3 : ¬ 126 < (s[k].toNat : Int) := by omega
            have cb4 : ¬ (s[k].toNat : Int) < 32 := by omega
            clear c34 c92 cbad
            go_wp2_with (at_builtin; refine wpList_append_own_at _ rfl _ _ 44 rfl w.heap.size 5 i0 _ 1 1 Tryd.underlying44 hi hz0 hz1 hz2 rfl (by decide) _ l.length (bc l) rfl (Hown.out.alloc _) ⟨wr.heap.size, 0, none⟩ 1 1 [.int .u8 (s[k].toNat : Int)] rfl rfl (one_new _ _ _) (one_u8 _) HL.1 HL.2 (Nat.le_trans Hb.out.size (by simp)) ?_; intro v1 w1 hown1 hgr1 _ _)
            refine ⟨⟨k + 1, l ++ [s[k]], by omega, by omega, by go_num, by simp; omega, by unfold OwnB; rw [bc_snoc, List.length_append]; exact hown1, Hst.out, below_app (Hb.out.alloc Hb.out.size _) (Hown.out.alloc _) hgr1 (Nat.le_refl _) (Nat.le_trans Hb.out.size (by simp))⟩, by simp [intOf]; omega⟩
    · have Hq := Lib.hid (txt5_none Hr.out (by rw [sl_end (by omega)]; rfl))
      go_wp2
      go_ret3
      exact ⟨by rw [Hq.out]; rfl, Hb.out⟩
end Go.Proofs.YtgjeomcflapmpaaDoor
