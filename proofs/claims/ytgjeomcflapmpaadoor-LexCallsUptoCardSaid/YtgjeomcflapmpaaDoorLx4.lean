/- lex.text: what a text in quotes tells. -/
import Derived.Test.YtgjeomcflapmpaaDoorLx3
import Derived.Test.YtgjeomcflapmpaaDoorApp
import Derived.Test.YtgjeomcflapmpaaDoorBts
import Derived.Laws.IdiomStrings
import Derived.Lib.BufferRead
import Derived.Maps.AppendAt
namespace Go.Proofs.YtgjeomcflapmpaaDoor
open Go.Shelf
open Go.RowKit
set_option linter.unusedSimpArgs false
set_option linter.unusedVariables false

theorem halfYes (c : UInt8) (h : hexC c = true) (w : World) : Calls Tryd.prog 36 #[.int .u8 c.toNat] w fun e w' => e = .returned (.tuple #[.int .u8 (hexV c : Nat), .bool true]) ∧ w = w' :=
  (lHalf c w).mono fun e w' ⟨x, he, hx, hw⟩ => ⟨by rw [he, hx h, h], hw⟩
theorem halfNo (c : UInt8) (h : hexC c = false) (w : World) : Calls Tryd.prog 36 #[.int .u8 c.toNat] w fun e w' => ∃ x : Int, e = .returned (.tuple #[.int .u8 x, .bool false]) ∧ w = w' :=
  (lHalf c w).mono fun e w' ⟨x, he, hx, hw⟩ => ⟨x, by rw [he, h], hw⟩
set_option maxRecDepth 100000 in
set_option maxHeartbeats 4000000 in
theorem lText (s : ByteArray) (a : Nat) (w : World) (hs : s.size ≤ 16384) (ha : a < s.size) :
    Calls Tryd.prog 19 #[.string s, .int .i64 a] w fun e w' => e = .returned (textV (textR (sl s (a + 1)))) ∧ Below w.heap.size w w' := by
  obtain ⟨i0, hi, hz0, hz1, hz2⟩ := info_parts infoB
  go_enter Tryd.func19, Tryd.ntmps19; (try simp only [List.append_eq, List.cons_append, List.nil_append])
  go_wp2
  go_step3
  go_wp2
  go_step3
  go_wp2
  go_loopw [7, 8] (fun v i wr => ∃ (k : Nat) (l : List UInt8), a + 1 ≤ k ∧ k ≤ s.size ∧ i = .int .i64 k ∧ l.length ≤ k ∧ OwnB w.heap.size wr v l ∧ TxtI s a k l ∧ Below w.heap.size w wr) (fun _ i _ => s.size - (intOf i).toNat)
  case atStart => exact ⟨a + 1, [], by omega, by omega, by go_num, by simp, World.ownsRow_nil _ _ _ _, by unfold TxtI; simp, Below.refl _ _⟩
  case round =>
    obtain ⟨k, l, hak, hk, rfl, hlk, hown, hr, hb⟩ := hrel
    have Hr := Lib.hid hr; clear hr
    have Hb := Lib.hid hb; clear hb
    obtain ⟨A, cap, rfl⟩ := ownB_slice hown
    have Hown := Lib.hid hown; clear hown
    have HL : l.length + 1 ≤ maxLen ∧ (l.length + 1) * 1 ≤ 140737488355328 := by unfold maxLen; omega
    by_cases hlt : k < s.size
    · by_cases c34 : s[k] = 34
      · have q1 : ((s[k].toNat : Int) == 34) = true := by rw [c34]; rfl
        have Hq := Lib.hid (txt_quote Hr.out hlt hak c34)
        clear c34
        by_cases h64 : l.length ≤ 64
        · have hcv := ownB_convert Hown.out
          go_wp2
          try rw [Exit.noGoto_ret]
          go_ret3
          refine ⟨?_, Hb.out⟩
          rw [Hq.out, if_pos h64]
          show Ending.returned (.tuple #[.string ⟨l.toArray⟩, .int .i64 ((k : Int) + 1 - (a : Int)), .bool true]) = .returned (.tuple #[.string ⟨l.toArray⟩, .int .i64 ((k + 1 - a : Nat) : Int), .bool true])
          rw [show ((k + 1 - a : Nat) : Int) = (k : Int) + 1 - (a : Int) by omega]
        · have h64' : 64 < l.length := by omega
          clear h64
          go_wp2
          try rw [Exit.noGoto_ret]
          go_ret3
          refine ⟨?_, Hb.out⟩
          rw [Hq.out, if_neg (by omega)]; rfl
      · have q1 : ((s[k].toNat : Int) == 34) = false := u8ne (n := 34) (by omega) c34
        by_cases cbad : (s[k].toNat : Int) < 32 ∨ 126 < (s[k].toNat : Int)
        · have Hq := Lib.hid (txt_none Hr.out (by rw [sl_cons hlt]; exact textAt_bad _ c34 (by simp only [UInt8.lt_iff_toNat_lt]; simp; omega)))
          clear c34
          rcases cbad with h | h
          all_goals go_wp2
          all_goals (try rw [Exit.noGoto_ret])
          all_goals go_ret3
          all_goals
            refine ⟨?_, Hb.out⟩
            rw [Hq.out]; rfl
        · have cb1 : 32 ≤ (s[k].toNat : Int) := by omega
          have cb2 : (s[k].toNat : Int) ≤ 126 := by omega
          clear cbad
          have cb3 : decide (126 < (s[k].toNat : Int)) = false := decide_eq_false (by omega)
          have cb4 : decide ((s[k].toNat : Int) < 32) = false := decide_eq_false (by omega)
          have cb5 : ¬ s[k].toNat < 32 := by omega
          by_cases c92 : s[k] = 92
          · have q2 : ((s[k].toNat : Int) != 92) = false := by rw [c92]; rfl
            by_cases h1 : k + 1 < s.size
            · have e1 : sl s k = 92 :: s[k + 1] :: sl s (k + 2) := by rw [sl_cons hlt, sl_cons h1, c92]
              have hi1 : (k : Int) + 1 < s.size := by omega
              by_cases hd : s[k + 1] = 92 ∨ s[k + 1] = 34
              · have Hst := Lib.hid (txt_step (n := 2) (c := s[k + 1]) Hr.out hak (by rw [e1]; exact textAt_esc _ hd))
                rcases hd with hd | hd
                · have q3 : ((s[k + 1].toNat : Int) == 92) = true := by rw [hd]; rfl
                  clear c34 c92 e1 hd
                  go_wp2_with (at_builtin; refine wpList_append_own_at _ rfl _ _ 44 rfl w.heap.size 5 i0 _ 1 1 Tryd.underlying44 hi hz0 hz1 hz2 rfl (by decide) _ l.length (bc l) rfl (Hown.out.alloc _) ⟨wr.heap.size, 0, none⟩ 1 1 [.int .u8 (s[k + 1].toNat : Int)] rfl rfl (one_new _ _ _) (one_u8 _) HL.1 HL.2 (Nat.le_trans Hb.out.size (by simp)) ?_; intro v1 w1 hown1 hgr1 _ _)
                  refine ⟨⟨k + 2, l ++ [s[k + 1]], by omega, by omega, by go_num, by simp; omega, by unfold OwnB; rw [bc_snoc, List.length_append]; exact hown1, Hst.out, below_app (Hb.out.alloc Hb.out.size _) (Hown.out.alloc _) hgr1 (Nat.le_refl _) (Nat.le_trans Hb.out.size (by simp))⟩, by simp [intOf]; omega⟩
                · have q3 : ((s[k + 1].toNat : Int) == 92) = false := by rw [hd]; rfl
                  have q4 : ((s[k + 1].toNat : Int) == 34) = true := by rw [hd]; rfl
                  clear c34 c92 e1 hd
                  go_wp2_with (at_builtin; refine wpList_append_own_at _ rfl _ _ 44 rfl w.heap.size 5 i0 _ 1 1 Tryd.underlying44 hi hz0 hz1 hz2 rfl (by decide) _ l.length (bc l) rfl (Hown.out.alloc _) ⟨wr.heap.size, 0, none⟩ 1 1 [.int .u8 (s[k + 1].toNat : Int)] rfl rfl (one_new _ _ _) (one_u8 _) HL.1 HL.2 (Nat.le_trans Hb.out.size (by simp)) ?_; intro v1 w1 hown1 hgr1 _ _)
                  refine ⟨⟨k + 2, l ++ [s[k + 1]], by omega, by omega, by go_num, by simp; omega, by unfold OwnB; rw [bc_snoc, List.length_append]; exact hown1, Hst.out, below_app (Hb.out.alloc Hb.out.size _) (Hown.out.alloc _) hgr1 (Nat.le_refl _) (Nat.le_trans Hb.out.size (by simp))⟩, by simp [intOf]; omega⟩
              · have q3 : ((s[k + 1].toNat : Int) == 92) = false := u8ne (n := 92) (by omega) (fun e => hd (.inl e))
                have q4 : ((s[k + 1].toNat : Int) == 34) = false := u8ne (n := 34) (by omega) (fun e => hd (.inr e))
                have hhd : headIs (fun d => d == 92 || d == 34) (sl s (k + 1)) = false := by rw [headIs_at h1]; simp; exact ⟨fun e => hd (.inl e), fun e => hd (.inr e)⟩
                by_cases h3 : k + 3 < s.size
                · have e3 : sl s (k + 1) = s[k + 1] :: s[k + 2] :: s[k + 3] :: sl s (k + 4) := by rw [sl_cons h1, sl_cons (by omega : k + 1 + 1 < s.size), sl_cons (by omega : k + 1 + 1 + 1 < s.size)]
                  have hi3 : ¬ (s.size : Int) ≤ (k : Int) + 3 := by omega
                  have g4 : decide ((s.size : Int) ≤ (k : Int) + 3) = false := decide_eq_false hi3
                  by_cases hx : s[k + 1] = 120
                  · have q5 : ((s[k + 1].toNat : Int) != 120) = false := by rw [hx]; rfl
                    have HA := Lib.hid (halfYes s[k + 2])
                    have HB := Lib.hid (halfYes s[k + 3])
                    have HA' := Lib.hid (halfNo s[k + 2])
                    have HB' := Lib.hid (halfNo s[k + 3])
                    cases ha : hexC s[k + 2] with
                    | false =>
                      have Hq := Lib.hid (txt_none Hr.out (by
                        rw [sl_cons hlt, c92]
                        refine textAt_no hhd (fun a b r' e => ?_)
                        rw [e3, hx] at e
                        simp only [List.cons.injEq, true_and] at e
                        obtain ⟨rfl, rfl, -⟩ := e
                        exact .inl ha))
                      have HA2 := Lib.hid (HA'.out ha)
                      have HB2 := Lib.hid (fun wx => lHalf s[k + 3] wx)
                      clear HA HB HA' HB' c34 c92 hd e1 hhd e3 hx ha
                      have tk1 : True := trivial
                      go_wp2_with (first
                        | (go_at_call 36; have _t := tk1; clear tk1; refine (HA2.out _).mono ?_; rintro e w' ⟨x, rfl, rfl⟩; have tk2 : True := trivial)
                        | (go_at_call 36; have _t := tk2; clear tk2; refine (HB2.out _).mono ?_; rintro e w' ⟨y, rfl, -, rfl⟩))
                      try rw [Exit.noGoto_ret]
                      go_ret3
                      refine ⟨?_, Hb.out⟩
                      rw [Hq.out]; rfl
                    | true =>
                      cases hb' : hexC s[k + 3] with
                      | false =>
                        have Hq := Lib.hid (txt_none Hr.out (by
                          rw [sl_cons hlt, c92]
                          refine textAt_no hhd (fun a b r' e => ?_)
                          rw [e3, hx] at e
                          simp only [List.cons.injEq, true_and] at e
                          obtain ⟨rfl, rfl, -⟩ := e
                          exact .inr hb'))
                        have HA2 := Lib.hid (HA.out ha)
                        have HB2 := Lib.hid (HB'.out hb')
                        clear HA HB HA' HB' c34 c92 hd e1 hhd e3 hx ha hb'
                        have tk1 : True := trivial
                        go_wp2_with (first
                          | (go_at_call 36; have _t := tk1; clear tk1; refine (HA2.out _).mono ?_; rintro e w' ⟨rfl, rfl⟩; have tk2 : True := trivial)
                          | (go_at_call 36; have _t := tk2; clear tk2; refine (HB2.out _).mono ?_; rintro e w' ⟨y, rfl, rfl⟩))
                        try rw [Exit.noGoto_ret]
                        go_ret3
                        refine ⟨?_, Hb.out⟩
                        rw [Hq.out]; rfl
                      | true =>
                        have Hst := Lib.hid (txt_step (n := 4) (c := UInt8.ofNat (16 * hexV s[k + 2] + hexV s[k + 3])) Hr.out hak (by rw [sl_cons hlt, c92, e3, hx]; exact textAt_hex _ ha hb'))
                        have HA2 := Lib.hid (HA.out ha)
                        have HB2 := Lib.hid (HB.out hb')
                        have hle1 := hexV_le ha
                        have hle2 := hexV_le hb'
                        have hor := hexOr hle1 hle2
                        obtain ⟨V, hV⟩ : ∃ V : Int, ((UInt8.ofNat (16 * hexV s[k + 2] + hexV s[k + 3])).toNat : Int) = V := ⟨_, rfl⟩
                        rw [hV] at hor
                        have HV := Lib.hid hV
                        generalize hexV s[k + 2] = A2 at hor HA2 HV Hst
                        generalize hexV s[k + 3] = B2 at hor HB2 HV Hst
                        clear hV hle1 hle2 HA HB HA' HB' ha hb' c34 c92 hd e1 hhd e3 hx
                        have tk1 : True := trivial
                        go_wp2_with (first
                          | (go_at_call 36; have _t := tk1; clear tk1; refine (HA2.out _).mono ?_; rintro e w' ⟨rfl, rfl⟩; have tk2 : True := trivial)
                          | (go_at_call 36; have _t := tk2; clear tk2; refine (HB2.out _).mono ?_; rintro e w' ⟨rfl, rfl⟩)
                          | (at_builtin; refine wpList_append_own_at _ rfl _ _ 44 rfl w.heap.size 5 i0 _ 1 1 Tryd.underlying44 hi hz0 hz1 hz2 rfl (by decide) _ l.length (bc l) rfl (Hown.out.alloc _) ⟨wr.heap.size, 0, none⟩ 1 1 [.int .u8 V] rfl rfl (one_new _ _ _) (one_u8 _) HL.1 HL.2 (Nat.le_trans Hb.out.size (by simp)) ?_; intro v1 w1 hown1 hgr1 _ _))
                        rw [← HV.out] at hown1
                        refine ⟨⟨k + 4, l ++ [UInt8.ofNat (16 * A2 + B2)], by omega, by omega, by go_num, by simp; omega, by unfold OwnB; rw [bc_snoc, List.length_append]; exact hown1, Hst.out, below_app (Hb.out.alloc Hb.out.size _) (Hown.out.alloc _) hgr1 (Nat.le_refl _) (Nat.le_trans Hb.out.size (by simp))⟩, by simp [intOf]; omega⟩
                  · have q5 : ((s[k + 1].toNat : Int) != 120) = true := by
                      have := u8ne (n := 120) (by omega) hx
                      simp only [bne, Bool.not_eq_true']
                      exact this
                    have Hq := Lib.hid (txt_none Hr.out (by rw [sl_cons hlt, c92]; refine textAt_no hhd (fun a b r' e => ?_); rw [e3] at e; injection e with e _; exact absurd e hx))
                    clear c34 c92 hd e1 hhd e3 hx
                    go_wp2
                    try rw [Exit.noGoto_ret]
                    go_ret3
                    refine ⟨?_, Hb.out⟩
                    rw [Hq.out]; rfl
                · have g3 : (s.size : Int) ≤ (k : Int) + 3 := by omega
                  have g4 : decide ((s.size : Int) ≤ (k : Int) + 3) = true := decide_eq_true g3
                  have Hq := Lib.hid (txt_none Hr.out (by
                    rw [sl_cons hlt, c92]
                    refine textAt_no hhd (fun a b r' e => ?_)
                    have := congrArg List.length e
                    rw [sl_length] at this
                    simp at this
                    omega))
                  clear c34 c92 hd e1 hhd
                  go_wp2
                  try rw [Exit.noGoto_ret]
                  go_ret3
                  refine ⟨?_, Hb.out⟩
                  rw [Hq.out]; rfl
            · have Hq := Lib.hid (txt_none Hr.out (by rw [sl_cons hlt, c92, sl_end (by omega)]; rfl))
              clear c34 c92
              have g1 : ¬ ((k : Int) + 1 < (s.size : Int)) := by omega
              have g3 : (s.size : Int) ≤ (k : Int) + 3 := by omega
              have g4 : decide ((s.size : Int) ≤ (k : Int) + 3) = true := decide_eq_true g3
              go_wp2
              try rw [Exit.noGoto_ret]
              go_ret3
              refine ⟨?_, Hb.out⟩
              rw [Hq.out]; rfl
          · have q2 : ((s[k].toNat : Int) != 92) = true := by
              have := u8ne (n := 92) (by omega) c92
              simp only [bne, Bool.not_eq_true'] 
              exact this
            have Hst := Lib.hid (txt_step (n := 1) (c := s[k]) Hr.out hak (by rw [sl_cons hlt]; exact textAt_plain _ c34 (by simp only [UInt8.le_iff_toNat_le]; simp; omega) (by simp only [UInt8.le_iff_toNat_le]; simp; omega) c92))
            clear c34 c92
            go_wp2_with (at_builtin; refine wpList_append_own_at _ rfl _ _ 44 rfl w.heap.size 5 i0 _ 1 1 Tryd.underlying44 hi hz0 hz1 hz2 rfl (by decide) _ l.length (bc l) rfl (Hown.out.alloc _) ⟨wr.heap.size, 0, none⟩ 1 1 [.int .u8 (s[k].toNat : Int)] rfl rfl (one_new _ _ _) (one_u8 _) HL.1 HL.2 (Nat.le_trans Hb.out.size (by simp)) ?_; intro v1 w1 hown1 hgr1 _ _)
            refine ⟨⟨k + 1, l ++ [s[k]], by omega, by omega, by go_num, by simp; omega, by unfold OwnB; rw [bc_snoc, List.length_append]; exact hown1, Hst.out, below_app (Hb.out.alloc Hb.out.size _) (Hown.out.alloc _) hgr1 (Nat.le_refl _) (Nat.le_trans Hb.out.size (by simp))⟩, by simp [intOf]; omega⟩
    · go_wp2
      try rw [Exit.noGoto_ret]
      go_ret3
      refine ⟨?_, Hb.out⟩
      rw [txt_end Hr.out (by omega)]; rfl

end Go.Proofs.YtgjeomcflapmpaaDoor
