/- The reference's lexer: All. -/
import Derived.Test.YtpmbamfpmmdhcaaGreatK60
import Derived.Test.YtpmbamfpmmdhcaaGreatK62
import Derived.RegionTactic
import Derived.ChangeAlike
import Derived.Deep.RegionHeld3
import Derived.Deep.DeepCutAuto
import Derived.Deep.QuietTactic
import Derived.BigQuiet
import Derived.StillTailTactics
import Derived.Maps.AppendAt
import Derived.Test.YtpmbamfpmmdhcaaGreatK1
import Derived.Test.YtpmbamfpmmdhcaaGreatK12
set_option maxRecDepth 100000
set_option maxHeartbeats 16000000
set_option linter.unusedSimpArgs false
set_option linter.unusedVariables false
namespace Go.Proofs.YtpmbamfpmmdhcaaGreat
open Go.RowKit
set_option linter.unusedSimpArgs false
set_option linter.unusedVariables false
/-! ### signs -/
def signsB : List ByteArray := [⟨#[61, 61]⟩, ⟨#[33, 61]⟩, ⟨#[60, 61]⟩, ⟨#[62, 61]⟩, ⟨#[60]⟩, ⟨#[62]⟩, ⟨#[43]⟩, ⟨#[45]⟩, ⟨#[42]⟩, ⟨#[61]⟩, ⟨#[40]⟩, ⟨#[41]⟩, ⟨#[123]⟩, ⟨#[125]⟩, ⟨#[91]⟩, ⟨#[93]⟩, ⟨#[44]⟩, ⟨#[58]⟩]
theorem rSigns (w : World) : Calls Tryz.prog 72 #[] w fun e w' => e = .returned (.slice (some ⟨w.heap.size, 0, none⟩) 18 18) ∧ Blk w' w.heap.size 9 (signsB.map Value.string) ∧ Below w.heap.size w w' := by
  go_enter Tryz.func72, Tryz.ntmps72; (try simp only [List.append_eq, List.cons_append, List.nil_append])
  go_wp2
  go_ret
  exact ⟨rfl, Blk.new _ _ _, (Below.refl _ _).alloc (Nat.le_refl _) _⟩
theorem belowN {b : Nat} {a w : World} (n : Nat) (h : Below b a w) : Below b a (w.drewN n) := ⟨h.os, h.tape, h.output, h.size, h.block⟩
theorem signsB_small : ∀ x ∈ signsB, 1 ≤ x.size ∧ x.size ≤ 2 := by decide
theorem sign_hit (l : List UInt8) (k : Nat) (hk : k < signsB.length) (h : ∀ j (hj : j < signsB.length), j < k → ¬ signsB[j].data.toList <+: l) (hp : signsB[k].data.toList <+: l) :
    signAt l = some (⟨4, signsB[k].data.toList, 0, 0⟩, signsB[k].size) := by
  obtain ⟨r, rfl⟩ := hp
  have h0 := h 0 (by decide); have h1 := h 1 (by decide); have h2 := h 2 (by decide); have h3 := h 3 (by decide)
  clear h
  have hk18 : k < 18 := hk
  have hc : k = 0 ∨ k = 1 ∨ k = 2 ∨ k = 3 ∨ k = 4 ∨ k = 5 ∨ k = 6 ∨ k = 7 ∨ k = 8 ∨ k = 9 ∨ k = 10 ∨ k = 11 ∨ k = 12 ∨ k = 13 ∨ k = 14 ∨ k = 15 ∨ k = 16 ∨ k = 17 := by omega
  rcases hc with rfl | rfl | rfl | rfl | rfl | rfl | rfl | rfl | rfl | rfl | rfl | rfl | rfl | rfl | rfl | rfl | rfl | rfl
  all_goals first
    | (show signAt (_ :: 61 :: r) = _; rfl)
    | (cases r with
       | nil => rfl
       | cons d r =>
         by_cases hd : d = 61
         · subst hd
           exfalso
           first | exact h0 (by omega) ⟨r, rfl⟩ | exact h2 (by omega) ⟨r, rfl⟩ | exact h3 (by omega) ⟨r, rfl⟩ | exact h1 (by omega) ⟨r, rfl⟩
         · have hb : (d == 61) = false := by simp [hd]
           simp [signAt, signsB, pairC, signC, headIs, hb, ByteArray.size])
    | (simp [signAt, signsB, pairC, signC, ByteArray.size])
theorem sign_miss (l : List UInt8) (h : ∀ j (hj : j < signsB.length), ¬ signsB[j].data.toList <+: l) : signAt l = none := by
  match l with
  | [] => rfl
  | c :: r =>
    have hp : (pairC c && headIs (· == 61) r) = false := by
      cases r with
      | nil => simp [headIs]
      | cons d r =>
        cases hc : pairC c with
        | false => rfl
        | true =>
          cases hd : (d == 61) with
          | false => simp [headIs, hd]
          | true =>
            exfalso
            obtain rfl : d = 61 := by simpa using hd
            simp only [pairC, Bool.or_eq_true, beq_iff_eq] at hc
            rcases hc with ((rfl | rfl) | rfl) | rfl
            · exact h 0 (by decide) ⟨r, rfl⟩
            · exact h 1 (by decide) ⟨r, rfl⟩
            · exact h 2 (by decide) ⟨r, rfl⟩
            · exact h 3 (by decide) ⟨r, rfl⟩
    have hs : signC c = false := by
      cases hc : signC c with
      | false => rfl
      | true =>
        exfalso
        simp only [signC, Bool.or_eq_true, beq_iff_eq] at hc
        rcases hc with ((((((((((((rfl | rfl) | rfl) | rfl) | rfl) | rfl) | rfl) | rfl) | rfl) | rfl) | rfl) | rfl) | rfl) | rfl
        · exact h 4 (by decide) ⟨r, rfl⟩
        · exact h 5 (by decide) ⟨r, rfl⟩
        · exact h 6 (by decide) ⟨r, rfl⟩
        · exact h 7 (by decide) ⟨r, rfl⟩
        · exact h 8 (by decide) ⟨r, rfl⟩
        · exact h 9 (by decide) ⟨r, rfl⟩
        · exact h 10 (by decide) ⟨r, rfl⟩
        · exact h 11 (by decide) ⟨r, rfl⟩
        · exact h 12 (by decide) ⟨r, rfl⟩
        · exact h 13 (by decide) ⟨r, rfl⟩
        · exact h 14 (by decide) ⟨r, rfl⟩
        · exact h 15 (by decide) ⟨r, rfl⟩
        · exact h 16 (by decide) ⟨r, rfl⟩
        · exact h 17 (by decide) ⟨r, rfl⟩
    simp [signAt, hp, hs]
theorem pref_extract {s x : ByteArray} {a : Nat} (ha : a ≤ s.size) : x.data.toList <+: sl s a ↔ x.size ≤ s.size - a ∧ s.extract a (a + x.size) = x := by
  rw [extract_sl]
  have hxl : x.data.toList.length = x.size := by simp
  constructor
  · intro h
    have hl := h.length_le
    rw [hxl, sl_length] at hl
    refine ⟨hl, ?_⟩
    have := List.prefix_iff_eq_take.1 h
    rw [hxl] at this
    rw [← this]
  · rintro ⟨h1, h2⟩
    have : x.data.toList = (sl s a).take x.size := by
      conv => lhs; rw [← h2]
    rw [this]
    exact List.take_prefix _ _
theorem rOne_sign (s : ByteArray) (a : Nat) (t : Tok) (w : World) (hs : s.size ≤ 16384) (ha : a < s.size) (hlt : letC s[a] = false) (hq : s[a] ≠ 34) (hd : dgC s[a] = false) (hno : s[a] = 45 → frI t = false ∨ headIs dgC (sl s (a + 1)) = false) :
    Calls Tryz.prog 32 #[.string s, .int .i64 a, .agg #[.int .i64 t.kind, .string ⟨t.text.toArray⟩, .int .i64 t.num, .int .i64 t.pos]] w (OneR s a (frI t) w) := by
  go_enter Tryz.func32, Tryz.ntmps32; (try simp only [List.append_eq, List.cons_append, List.nil_append])
  go_upto_region 2 with fail
  have k1 := two_at w [.int .i64 t.kind, .string ⟨t.text.toArray⟩, .int .i64 t.num, .int .i64 t.pos] [.int .i64 0, .string ⟨#[]⟩, .int .i64 0, .int .i64 0] 65 65
  have k2 := two_at' w (.cells #[.int .i64 t.kind, .string ⟨t.text.toArray⟩, .int .i64 t.num, .int .i64 t.pos] 65) [.int .i64 0, .string ⟨#[]⟩, .int .i64 0, .int .i64 0] 65
  have kb := two_below w (.cells #[.int .i64 t.kind, .string ⟨t.text.toArray⟩, .int .i64 t.num, .int .i64 t.pos] 65) (.cells #[.int .i64 0, .string ⟨#[]⟩, .int .i64 0, .int .i64 0] 65)
  obtain ⟨X, hX⟩ : ∃ X, ((w.alloc (.cells #[.int .i64 t.kind, .string ⟨t.text.toArray⟩, .int .i64 t.num, .int .i64 t.pos] 65)).alloc (.cells #[.int .i64 0, .string ⟨#[]⟩, .int .i64 0, .int .i64 0] 65)) = X := ⟨_, rfl⟩
  have kk1 : Blk X w.heap.size 65 [.int .i64 t.kind, .string ⟨t.text.toArray⟩, .int .i64 t.num, .int .i64 t.pos] := by rw [← hX]; exact k1
  have kk2 : Blk X (w.heap.size + 1) 65 [.int .i64 0, .string ⟨#[]⟩, .int .i64 0, .int .i64 0] := by rw [← hX]; exact k2
  rw [hX] at kb ⊢
  clear hX k1 k2
  have HK := Lib.hid kk2; clear kk2
  have HB := Lib.hid kb; clear kb
  go_cut [10] from 18 to 41 (fun s10 wx => s10 = .bool (frI t) ∧ wx = X)
  case first =>
    have d0 := kk1.cell 0 _ rfl; have d1 := kk1.cell 1 _ rfl; have d2 := kk1.cell 2 _ rfl; have d3 := kk1.cell 3 _ rfl
    clear kk1
    go_wp2
    all_goals go_meet
    all_goals refine ⟨?_, rfl⟩
    all_goals (congr 1)
    all_goals
      rw [Bool.eq_iff_iff]
      simp only [frI, Tok.free, Bool.and_eq_true, Bool.or_eq_true, Bool.not_eq_true', beq_iff_eq, bne_iff_ne, ne_eq, beq_eq_false_iff_ne]
      simp [*]
  case rest =>
    obtain ⟨rfl, rfl⟩ := hcut
    have hsX := HB.out.size
    have ha' : (a : Int) < (s.size : Int) := by omega
    have HL0 := Lib.hid (fun wx => rLetter s[a] wx)
    rw [hlt] at HL0
    have hD0 := fun wx => rDigit s[a] wx
    rw [hd] at hD0
    have HD0 := Lib.hid hD0
    have q34 : ((s[a].toNat : Int) == 34) = false := u8ne (n := 34) (by omega) hq
    have htk := tokAt_sign (free := frI t) ha hlt hq hd hno
    have Htk := Lib.hid htk
    have hcase : ((s[a].toNat : Int) == 45) = false ∨ (((s[a].toNat : Int) == 45) = true ∧ (frI t = false ∨ (frI t = true ∧ ¬ a + 1 < s.size) ∨ (frI t = true ∧ ∃ h : a + 1 < s.size, dgC s[a + 1] = false))) := by
      by_cases h45 : s[a] = 45
      · refine .inr ⟨by rw [h45]; rfl, ?_⟩
        cases hf : frI t with
        | false => exact .inl rfl
        | true =>
          rcases hno h45 with h | h
          · rw [hf] at h; cases h
          · by_cases h1 : a + 1 < s.size
            · exact .inr (.inr ⟨rfl, h1, by rw [headIs_at h1] at h; exact h⟩)
            · exact .inr (.inl ⟨rfl, h1⟩)
      · exact .inl (u8ne (n := 45) (by omega) h45)
    clear hD0 htk hno hd hq hlt
    have HSg := Lib.hid (fun X => rSigns X)
    have tk1 : True := trivial
    rcases hcase with h45 | ⟨h45, hf | ⟨hf, h1⟩ | ⟨hf, h1, h2⟩⟩
    · go_wp2_with (first
        | (go_at_call 67; refine (HL0.out _).mono ?_; rintro e w' ⟨rfl, rfl⟩)
        | (go_at_call 68; refine (HD0.out _).mono ?_; rintro e w' ⟨rfl, rfl⟩)
        | (go_at_call 72; refine (HSg.out _).mono ?_; rintro e w1 ⟨rfl, hblk, hbw⟩))
      have HS1 := Lib.hid hblk
      have HK1 := Lib.hid (HK.out.keep hbw)
      have HB1 := Lib.hid (HB.out.trans (hbw.mono hsX))
      have hs1 := hbw.size
      have hgne : wc.heap.size ≠ w.heap.size + 1 := by have := HK.out.lt; omega
      clear hblk hbw
      go_loopw [17] (fun i wr => ∃ k : Nat, k ≤ 18 ∧ i = .int .i64 k ∧ (∀ j (hj : j < signsB.length), j < k → ¬ signsB[j].data.toList <+: sl s a) ∧ Below w1.heap.size w1 wr) (fun i _ => 18 - (intOf i).toNat)
      case atStart => exact ⟨0, by omega, rfl, fun j _ h => by omega, Below.refl _ _⟩
      case round =>
        obtain ⟨k, hk, rfl, hmiss, hbr⟩ := hrel
        have HM := Lib.hid hmiss; clear hmiss
        have HBr := Lib.hid hbr; clear hbr
        by_cases hlt : k < 18
        · have hkl : k < signsB.length := hlt
          have HX := Lib.hid (show (signsB.map Value.string)[k]? = some (.string signsB[k]) by simp [hkl])
          have hcell : wr.cell? ⟨wc.heap.size, k, none⟩ = some (.string signsB[k]) := (HS1.out.keep HBr.out).cell k _ (by simp [hkl])
          obtain ⟨hx1, hx2⟩ := signsB_small _ (List.getElem_mem hkl)
          have Hhit := Lib.hid (fun hp => sign_hit (sl s a) k hkl HM.out hp)
          have Hnext : Hid (¬ signsB[k].data.toList <+: sl s a → ∀ j (hj : j < signsB.length), j < k + 1 → ¬ signsB[j].data.toList <+: sl s a) := fun hn j hj hjk => by
            by_cases e : j = k
            · subst e; exact hn
            · exact HM.out j hj (by omega)
          have Hpe := Lib.hid (pref_extract (s := s) (x := signsB[k]) (a := a) (by omega))
          generalize signsB[k] = x at *
          have hlti : (k : Int) < 18 := by omega
          by_cases hfit : x.size ≤ s.size - a
          · have hfi : (x.size : Int) ≤ (s.size : Int) - (a : Int) := by omega
            have hfi2 : (a : Int) + (x.size : Int) ≤ (s.size : Int) := by omega
            have hfi3 : (a : Int) ≤ (a : Int) + (x.size : Int) := by omega
            have e9 : ((a : Int) + (x.size : Int)).toNat = a + x.size := by omega
            have HE9 := Lib.hid e9; clear e9
            by_cases heq : s.extract a (a + x.size) = x
            · have hcmp : ((s.extract a (a + x.size)).toList == x.toList) = true := by rw [toList_beq]; exact decide_eq_true heq
              have Hit := Lib.hid (Hhit.out (Hpe.out.2 ⟨hfit, heq⟩))
              have HKr := Lib.hid (HK1.out.keep HBr.out)
              have HSr := Lib.hid (HS1.out.keep HBr.out)
              have Heq := Lib.hid heq
              clear heq Hhit Hnext Hpe hfit
              have e9 := HE9.out
              go_upto_region 21 with fail
              go_quiet (fail)
              clear e9
              all_goals go_upto_region 22 with fail
              all_goals (
                refine wp_region_held_drew (S := fun W => Blk W wc.heap.size 9 (signsB.map Value.string)) (by kernel_rfl) HSr.out (fun hHeld => ?_)
                (refine htk 0 198 ?_ rfl ?_ ?_; rotate_left; (intro w hSw; clear hSw; go_simp); (try with_reducible rfl); simp only [lsz, lss])
                (refine htk 1 199 ?_ rfl ?_ ?_; rotate_left; (intro w hSw; clear hSw; go_simp); (try with_reducible rfl); simp only [lsz, lss])
                (refine htk 2 200 ?_ rfl ?_ ?_; rotate_left; (intro w hSw; clear hSw; go_simp); (try with_reducible rfl); simp only [lsz, lss])
                (refine htk 3 201 (.string x) rfl ?_ ?_; (intro w hSw; have q0 := hSw.cell k _ HX.out; go_simp); simp only [lsz, lss])
                (refine htk 4 202 ?_ rfl ?_ ?_; rotate_left; (intro w hSw; clear hSw; go_simp); (try with_reducible rfl); simp only [lsz, lss])
                (refine htk 5 203 (.agg #[.int .i64 4, .string x, .int .i64 0, .int .i64 a]) rfl ?_ ?_; (intro w hSw; clear hSw; go_simp; try omega); simp only [lsz, lss])
                (refine htk 6 204 ?_ rfl ?_ ?_; rotate_left; (intro w hSw; clear hSw; go_simp); (try with_reducible rfl); simp only [lsz, lss])
                (refine htk 7 205 ?_ rfl ?_ ?_; rotate_left; (intro w hSw; clear hSw; go_simp); (try with_reducible rfl); simp only [lsz, lss])
                (refine htk 8 206 ?_ rfl ?_ ?_; rotate_left; (intro w hSw; clear hSw; go_simp); (try with_reducible rfl); simp only [lsz, lss])
                (refine htk 9 207 ?_ rfl ?_ ?_; rotate_left; (intro w hSw; clear hSw; go_simp); (try with_reducible rfl); simp only [lsz, lss])
                (refine htk 10 208 (.string x) rfl ?_ ?_; (intro w hSw; have q0 := hSw.cell k _ HX.out; go_simp); simp only [lsz, lss])
                (refine htk 11 209 ?_ rfl ?_ ?_; rotate_left; (intro w hSw; clear hSw; go_simp); (try with_reducible rfl); simp only [lsz, lss])
                (refine htk 12 210 (.int .i64 ((a : Int) + (x.size : Int))) rfl ?_ ?_; (intro w hSw; clear hSw; go_simp; try first | exact IntWalk.i64_in _ (by omega) | omega); simp only [lsz, lss])
                refine held_store 13 rfl (by kernel_rfl) (by kernel_rfl) (by kernel_rfl) 65 (.tmp 6) (.tmp 203) (by kernel_rfl) (w.heap.size + 1) [.int .i64 4, .string x, .int .i64 0, .int .i64 a] _ _ (by kernel_rfl) (by kernel_rfl) HKr.out infoSz4 rfl (tok_all _ _ _ _) (HSr.out.far_row hgne _) (fun hS => ?_)
                (refine htk 14 7 ?_ rfl ?_ ?_; rotate_left; (intro w hSw; clear hSw; go_simp); (try with_reducible rfl); simp only [lsz, lss])
                (refine htk 15 8 ?_ rfl ?_ ?_; rotate_left; (intro w hSw; clear hSw; go_simp); (try with_reducible rfl); simp only [lsz, lss])
                refine wpAnyH_done (by kernel_rfl) ?_ _
                go_wp2
                refine oneEnd 4 x 0 a x.size _ true rfl (Blk.row HKr.out _) rfl rfl rfl (by first | rfl | omega) ?_ (below_setRow (Below.drew (belowN nq (HB1.out.trans (HBr.out.mono (by omega))))) (by omega) _)
                rw [Htk.out, Hit.out]
                exact ⟨rfl, rfl, rfl, rfl, rfl, rfl⟩)
            · have hcmp : ((s.extract a (a + x.size)).toList == x.toList) = false := by rw [toList_beq]; exact decide_eq_false heq
              have Hn := Lib.hid (Hnext.out (fun hp => heq (Hpe.out.1 hp).2))
              have HBq := Lib.hid HBr.out
              clear heq Hhit Hnext Hpe hfit
              have e9 := HE9.out
              go_upto_region 21 with fail
              go_quiet (fail)
              clear e9
              all_goals go_wp2_with fail
              all_goals exact ⟨⟨k + 1, by omega, by go_num, Hn.out, belowN _ HBq.out⟩, by simp [intOf]; omega⟩
          · have Hn := Lib.hid (Hnext.out (fun hp => hfit (Hpe.out.1 hp).1))
            have HBq := Lib.hid HBr.out
            have hfi : ¬ (x.size : Int) ≤ (s.size : Int) - (a : Int) := by omega
            clear Hhit Hnext Hpe hfit
            go_upto_region 21 with fail
            go_quiet (fail)
            all_goals go_wp2_with fail
            all_goals exact ⟨⟨k + 1, by omega, by go_num, Hn.out, belowN _ HBq.out⟩, by simp [intOf]; omega⟩
        · obtain rfl : k = 18 := by omega
          have Hm := Lib.hid (sign_miss (sl s a) (fun j hj => HM.out j hj hj))
          have HKr := Lib.hid (HK1.out.keep HBr.out)
          go_wp2_with (refine wpList_store_row rfl 65 _ _ rfl (w.heap.size + 1) #[.int .i64 0, .string ⟨#[]⟩, .int .i64 0, .int .i64 0] rfl rfl 65 _ HKr.out (by kernel_rfl) rfl (by kernel_rfl) ?_)
          exact oneEnd 0 ⟨#[]⟩ 0 0 (-(a : Int)) 0 false rfl (Blk.row HKr.out [.int .i64 0, .string ⟨#[]⟩, .int .i64 0, .int .i64 0]) rfl rfl rfl (by omega) (by rw [Htk.out, Hm.out]; exact rfl) (below_setRow (HB1.out.trans (HBr.out.mono (by omega))) (by omega) _)
    · go_wp2_with (first
        | (go_at_call 67; refine (HL0.out _).mono ?_; rintro e w' ⟨rfl, rfl⟩)
        | (go_at_call 68; refine (HD0.out _).mono ?_; rintro e w' ⟨rfl, rfl⟩)
        | (go_at_call 72; refine (HSg.out _).mono ?_; rintro e w1 ⟨rfl, hblk, hbw⟩))
      have HS1 := Lib.hid hblk
      have HK1 := Lib.hid (HK.out.keep hbw)
      have HB1 := Lib.hid (HB.out.trans (hbw.mono hsX))
      have hs1 := hbw.size
      have hgne : wc.heap.size ≠ w.heap.size + 1 := by have := HK.out.lt; omega
      clear hblk hbw
      go_loopw [17] (fun i wr => ∃ k : Nat, k ≤ 18 ∧ i = .int .i64 k ∧ (∀ j (hj : j < signsB.length), j < k → ¬ signsB[j].data.toList <+: sl s a) ∧ Below w1.heap.size w1 wr) (fun i _ => 18 - (intOf i).toNat)
      case atStart => exact ⟨0, by omega, rfl, fun j _ h => by omega, Below.refl _ _⟩
      case round =>
        obtain ⟨k, hk, rfl, hmiss, hbr⟩ := hrel
        have HM := Lib.hid hmiss; clear hmiss
        have HBr := Lib.hid hbr; clear hbr
        by_cases hlt : k < 18
        · have hkl : k < signsB.length := hlt
          have HX := Lib.hid (show (signsB.map Value.string)[k]? = some (.string signsB[k]) by simp [hkl])
          have hcell : wr.cell? ⟨wc.heap.size, k, none⟩ = some (.string signsB[k]) := (HS1.out.keep HBr.out).cell k _ (by simp [hkl])
          obtain ⟨hx1, hx2⟩ := signsB_small _ (List.getElem_mem hkl)
          have Hhit := Lib.hid (fun hp => sign_hit (sl s a) k hkl HM.out hp)
          have Hnext : Hid (¬ signsB[k].data.toList <+: sl s a → ∀ j (hj : j < signsB.length), j < k + 1 → ¬ signsB[j].data.toList <+: sl s a) := fun hn j hj hjk => by
            by_cases e : j = k
            · subst e; exact hn
            · exact HM.out j hj (by omega)
          have Hpe := Lib.hid (pref_extract (s := s) (x := signsB[k]) (a := a) (by omega))
          generalize signsB[k] = x at *
          have hlti : (k : Int) < 18 := by omega
          by_cases hfit : x.size ≤ s.size - a
          · have hfi : (x.size : Int) ≤ (s.size : Int) - (a : Int) := by omega
            have hfi2 : (a : Int) + (x.size : Int) ≤ (s.size : Int) := by omega
            have hfi3 : (a : Int) ≤ (a : Int) + (x.size : Int) := by omega
            have e9 : ((a : Int) + (x.size : Int)).toNat = a + x.size := by omega
            have HE9 := Lib.hid e9; clear e9
            by_cases heq : s.extract a (a + x.size) = x
            · have hcmp : ((s.extract a (a + x.size)).toList == x.toList) = true := by rw [toList_beq]; exact decide_eq_true heq
              have Hit := Lib.hid (Hhit.out (Hpe.out.2 ⟨hfit, heq⟩))
              have HKr := Lib.hid (HK1.out.keep HBr.out)
              have HSr := Lib.hid (HS1.out.keep HBr.out)
              have Heq := Lib.hid heq
              clear heq Hhit Hnext Hpe hfit
              have e9 := HE9.out
              go_upto_region 21 with fail
              go_quiet (fail)
              clear e9
              all_goals go_upto_region 22 with fail
              all_goals (
                refine wp_region_held_drew (S := fun W => Blk W wc.heap.size 9 (signsB.map Value.string)) (by kernel_rfl) HSr.out (fun hHeld => ?_)
                (refine htk 0 198 ?_ rfl ?_ ?_; rotate_left; (intro w hSw; clear hSw; go_simp); (try with_reducible rfl); simp only [lsz, lss])
                (refine htk 1 199 ?_ rfl ?_ ?_; rotate_left; (intro w hSw; clear hSw; go_simp); (try with_reducible rfl); simp only [lsz, lss])
                (refine htk 2 200 ?_ rfl ?_ ?_; rotate_left; (intro w hSw; clear hSw; go_simp); (try with_reducible rfl); simp only [lsz, lss])
                (refine htk 3 201 (.string x) rfl ?_ ?_; (intro w hSw; have q0 := hSw.cell k _ HX.out; go_simp); simp only [lsz, lss])
                (refine htk 4 202 ?_ rfl ?_ ?_; rotate_left; (intro w hSw; clear hSw; go_simp); (try with_reducible rfl); simp only [lsz, lss])
                (refine htk 5 203 (.agg #[.int .i64 4, .string x, .int .i64 0, .int .i64 a]) rfl ?_ ?_; (intro w hSw; clear hSw; go_simp; try omega); simp only [lsz, lss])
                (refine htk 6 204 ?_ rfl ?_ ?_; rotate_left; (intro w hSw; clear hSw; go_simp); (try with_reducible rfl); simp only [lsz, lss])
                (refine htk 7 205 ?_ rfl ?_ ?_; rotate_left; (intro w hSw; clear hSw; go_simp); (try with_reducible rfl); simp only [lsz, lss])
                (refine htk 8 206 ?_ rfl ?_ ?_; rotate_left; (intro w hSw; clear hSw; go_simp); (try with_reducible rfl); simp only [lsz, lss])
                (refine htk 9 207 ?_ rfl ?_ ?_; rotate_left; (intro w hSw; clear hSw; go_simp); (try with_reducible rfl); simp only [lsz, lss])
                (refine htk 10 208 (.string x) rfl ?_ ?_; (intro w hSw; have q0 := hSw.cell k _ HX.out; go_simp); simp only [lsz, lss])
                (refine htk 11 209 ?_ rfl ?_ ?_; rotate_left; (intro w hSw; clear hSw; go_simp); (try with_reducible rfl); simp only [lsz, lss])
                (refine htk 12 210 (.int .i64 ((a : Int) + (x.size : Int))) rfl ?_ ?_; (intro w hSw; clear hSw; go_simp; try first | exact IntWalk.i64_in _ (by omega) | omega); simp only [lsz, lss])
                refine held_store 13 rfl (by kernel_rfl) (by kernel_rfl) (by kernel_rfl) 65 (.tmp 6) (.tmp 203) (by kernel_rfl) (w.heap.size + 1) [.int .i64 4, .string x, .int .i64 0, .int .i64 a] _ _ (by kernel_rfl) (by kernel_rfl) HKr.out infoSz4 rfl (tok_all _ _ _ _) (HSr.out.far_row hgne _) (fun hS => ?_)
                (refine htk 14 7 ?_ rfl ?_ ?_; rotate_left; (intro w hSw; clear hSw; go_simp); (try with_reducible rfl); simp only [lsz, lss])
                (refine htk 15 8 ?_ rfl ?_ ?_; rotate_left; (intro w hSw; clear hSw; go_simp); (try with_reducible rfl); simp only [lsz, lss])
                refine wpAnyH_done (by kernel_rfl) ?_ _
                go_wp2
                refine oneEnd 4 x 0 a x.size _ true rfl (Blk.row HKr.out _) rfl rfl rfl (by first | rfl | omega) ?_ (below_setRow (Below.drew (belowN nq (HB1.out.trans (HBr.out.mono (by omega))))) (by omega) _)
                rw [Htk.out, Hit.out]
                exact ⟨rfl, rfl, rfl, rfl, rfl, rfl⟩)
            · have hcmp : ((s.extract a (a + x.size)).toList == x.toList) = false := by rw [toList_beq]; exact decide_eq_false heq
              have Hn := Lib.hid (Hnext.out (fun hp => heq (Hpe.out.1 hp).2))
              have HBq := Lib.hid HBr.out
              clear heq Hhit Hnext Hpe hfit
              have e9 := HE9.out
              go_upto_region 21 with fail
              go_quiet (fail)
              clear e9
              all_goals go_wp2_with fail
              all_goals exact ⟨⟨k + 1, by omega, by go_num, Hn.out, belowN _ HBq.out⟩, by simp [intOf]; omega⟩
          · have Hn := Lib.hid (Hnext.out (fun hp => hfit (Hpe.out.1 hp).1))
            have HBq := Lib.hid HBr.out
            have hfi : ¬ (x.size : Int) ≤ (s.size : Int) - (a : Int) := by omega
            clear Hhit Hnext Hpe hfit
            go_upto_region 21 with fail
            go_quiet (fail)
            all_goals go_wp2_with fail
            all_goals exact ⟨⟨k + 1, by omega, by go_num, Hn.out, belowN _ HBq.out⟩, by simp [intOf]; omega⟩
        · obtain rfl : k = 18 := by omega
          have Hm := Lib.hid (sign_miss (sl s a) (fun j hj => HM.out j hj hj))
          have HKr := Lib.hid (HK1.out.keep HBr.out)
          go_wp2_with (refine wpList_store_row rfl 65 _ _ rfl (w.heap.size + 1) #[.int .i64 0, .string ⟨#[]⟩, .int .i64 0, .int .i64 0] rfl rfl 65 _ HKr.out (by kernel_rfl) rfl (by kernel_rfl) ?_)
          exact oneEnd 0 ⟨#[]⟩ 0 0 (-(a : Int)) 0 false rfl (Blk.row HKr.out [.int .i64 0, .string ⟨#[]⟩, .int .i64 0, .int .i64 0]) rfl rfl rfl (by omega) (by rw [Htk.out, Hm.out]; exact rfl) (below_setRow (HB1.out.trans (HBr.out.mono (by omega))) (by omega) _)
    · have h1i : ¬ (a : Int) + 1 < (s.size : Int) := by omega
      go_wp2_with (first
        | (go_at_call 67; refine (HL0.out _).mono ?_; rintro e w' ⟨rfl, rfl⟩)
        | (go_at_call 68; refine (HD0.out _).mono ?_; rintro e w' ⟨rfl, rfl⟩)
        | (go_at_call 72; refine (HSg.out _).mono ?_; rintro e w1 ⟨rfl, hblk, hbw⟩))
      have HS1 := Lib.hid hblk
      have HK1 := Lib.hid (HK.out.keep hbw)
      have HB1 := Lib.hid (HB.out.trans (hbw.mono hsX))
      have hs1 := hbw.size
      have hgne : wc.heap.size ≠ w.heap.size + 1 := by have := HK.out.lt; omega
      clear hblk hbw
      go_loopw [17] (fun i wr => ∃ k : Nat, k ≤ 18 ∧ i = .int .i64 k ∧ (∀ j (hj : j < signsB.length), j < k → ¬ signsB[j].data.toList <+: sl s a) ∧ Below w1.heap.size w1 wr) (fun i _ => 18 - (intOf i).toNat)
      case atStart => exact ⟨0, by omega, rfl, fun j _ h => by omega, Below.refl _ _⟩
      case round =>
        obtain ⟨k, hk, rfl, hmiss, hbr⟩ := hrel
        have HM := Lib.hid hmiss; clear hmiss
        have HBr := Lib.hid hbr; clear hbr
        by_cases hlt : k < 18
        · have hkl : k < signsB.length := hlt
          have HX := Lib.hid (show (signsB.map Value.string)[k]? = some (.string signsB[k]) by simp [hkl])
          have hcell : wr.cell? ⟨wc.heap.size, k, none⟩ = some (.string signsB[k]) := (HS1.out.keep HBr.out).cell k _ (by simp [hkl])
          obtain ⟨hx1, hx2⟩ := signsB_small _ (List.getElem_mem hkl)
          have Hhit := Lib.hid (fun hp => sign_hit (sl s a) k hkl HM.out hp)
          have Hnext : Hid (¬ signsB[k].data.toList <+: sl s a → ∀ j (hj : j < signsB.length), j < k + 1 → ¬ signsB[j].data.toList <+: sl s a) := fun hn j hj hjk => by
            by_cases e : j = k
            · subst e; exact hn
            · exact HM.out j hj (by omega)
          have Hpe := Lib.hid (pref_extract (s := s) (x := signsB[k]) (a := a) (by omega))
          generalize signsB[k] = x at *
          have hlti : (k : Int) < 18 := by omega
          by_cases hfit : x.size ≤ s.size - a
          · have hfi : (x.size : Int) ≤ (s.size : Int) - (a : Int) := by omega
            have hfi2 : (a : Int) + (x.size : Int) ≤ (s.size : Int) := by omega
            have hfi3 : (a : Int) ≤ (a : Int) + (x.size : Int) := by omega
            have e9 : ((a : Int) + (x.size : Int)).toNat = a + x.size := by omega
            have HE9 := Lib.hid e9; clear e9
            by_cases heq : s.extract a (a + x.size) = x
            · have hcmp : ((s.extract a (a + x.size)).toList == x.toList) = true := by rw [toList_beq]; exact decide_eq_true heq
              have Hit := Lib.hid (Hhit.out (Hpe.out.2 ⟨hfit, heq⟩))
              have HKr := Lib.hid (HK1.out.keep HBr.out)
              have HSr := Lib.hid (HS1.out.keep HBr.out)
              have Heq := Lib.hid heq
              clear heq Hhit Hnext Hpe hfit
              have e9 := HE9.out
              go_upto_region 21 with fail
              go_quiet (fail)
              clear e9
              all_goals go_upto_region 22 with fail
              all_goals (
                refine wp_region_held_drew (S := fun W => Blk W wc.heap.size 9 (signsB.map Value.string)) (by kernel_rfl) HSr.out (fun hHeld => ?_)
                (refine htk 0 198 ?_ rfl ?_ ?_; rotate_left; (intro w hSw; clear hSw; go_simp); (try with_reducible rfl); simp only [lsz, lss])
                (refine htk 1 199 ?_ rfl ?_ ?_; rotate_left; (intro w hSw; clear hSw; go_simp); (try with_reducible rfl); simp only [lsz, lss])
                (refine htk 2 200 ?_ rfl ?_ ?_; rotate_left; (intro w hSw; clear hSw; go_simp); (try with_reducible rfl); simp only [lsz, lss])
                (refine htk 3 201 (.string x) rfl ?_ ?_; (intro w hSw; have q0 := hSw.cell k _ HX.out; go_simp); simp only [lsz, lss])
                (refine htk 4 202 ?_ rfl ?_ ?_; rotate_left; (intro w hSw; clear hSw; go_simp); (try with_reducible rfl); simp only [lsz, lss])
                (refine htk 5 203 (.agg #[.int .i64 4, .string x, .int .i64 0, .int .i64 a]) rfl ?_ ?_; (intro w hSw; clear hSw; go_simp; try omega); simp only [lsz, lss])
                (refine htk 6 204 ?_ rfl ?_ ?_; rotate_left; (intro w hSw; clear hSw; go_simp); (try with_reducible rfl); simp only [lsz, lss])
                (refine htk 7 205 ?_ rfl ?_ ?_; rotate_left; (intro w hSw; clear hSw; go_simp); (try with_reducible rfl); simp only [lsz, lss])
                (refine htk 8 206 ?_ rfl ?_ ?_; rotate_left; (intro w hSw; clear hSw; go_simp); (try with_reducible rfl); simp only [lsz, lss])
                (refine htk 9 207 ?_ rfl ?_ ?_; rotate_left; (intro w hSw; clear hSw; go_simp); (try with_reducible rfl); simp only [lsz, lss])
                (refine htk 10 208 (.string x) rfl ?_ ?_; (intro w hSw; have q0 := hSw.cell k _ HX.out; go_simp); simp only [lsz, lss])
                (refine htk 11 209 ?_ rfl ?_ ?_; rotate_left; (intro w hSw; clear hSw; go_simp); (try with_reducible rfl); simp only [lsz, lss])
                (refine htk 12 210 (.int .i64 ((a : Int) + (x.size : Int))) rfl ?_ ?_; (intro w hSw; clear hSw; go_simp; try first | exact IntWalk.i64_in _ (by omega) | omega); simp only [lsz, lss])
                refine held_store 13 rfl (by kernel_rfl) (by kernel_rfl) (by kernel_rfl) 65 (.tmp 6) (.tmp 203) (by kernel_rfl) (w.heap.size + 1) [.int .i64 4, .string x, .int .i64 0, .int .i64 a] _ _ (by kernel_rfl) (by kernel_rfl) HKr.out infoSz4 rfl (tok_all _ _ _ _) (HSr.out.far_row hgne _) (fun hS => ?_)
                (refine htk 14 7 ?_ rfl ?_ ?_; rotate_left; (intro w hSw; clear hSw; go_simp); (try with_reducible rfl); simp only [lsz, lss])
                (refine htk 15 8 ?_ rfl ?_ ?_; rotate_left; (intro w hSw; clear hSw; go_simp); (try with_reducible rfl); simp only [lsz, lss])
                refine wpAnyH_done (by kernel_rfl) ?_ _
                go_wp2
                refine oneEnd 4 x 0 a x.size _ true rfl (Blk.row HKr.out _) rfl rfl rfl (by first | rfl | omega) ?_ (below_setRow (Below.drew (belowN nq (HB1.out.trans (HBr.out.mono (by omega))))) (by omega) _)
                rw [Htk.out, Hit.out]
                exact ⟨rfl, rfl, rfl, rfl, rfl, rfl⟩)
            · have hcmp : ((s.extract a (a + x.size)).toList == x.toList) = false := by rw [toList_beq]; exact decide_eq_false heq
              have Hn := Lib.hid (Hnext.out (fun hp => heq (Hpe.out.1 hp).2))
              have HBq := Lib.hid HBr.out
              clear heq Hhit Hnext Hpe hfit
              have e9 := HE9.out
              go_upto_region 21 with fail
              go_quiet (fail)
              clear e9
              all_goals go_wp2_with fail
              all_goals exact ⟨⟨k + 1, by omega, by go_num, Hn.out, belowN _ HBq.out⟩, by simp [intOf]; omega⟩
          · have Hn := Lib.hid (Hnext.out (fun hp => hfit (Hpe.out.1 hp).1))
            have HBq := Lib.hid HBr.out
            have hfi : ¬ (x.size : Int) ≤ (s.size : Int) - (a : Int) := by omega
            clear Hhit Hnext Hpe hfit
            go_upto_region 21 with fail
            go_quiet (fail)
            all_goals go_wp2_with fail
            all_goals exact ⟨⟨k + 1, by omega, by go_num, Hn.out, belowN _ HBq.out⟩, by simp [intOf]; omega⟩
        · obtain rfl : k = 18 := by omega
          have Hm := Lib.hid (sign_miss (sl s a) (fun j hj => HM.out j hj hj))
          have HKr := Lib.hid (HK1.out.keep HBr.out)
          go_wp2_with (refine wpList_store_row rfl 65 _ _ rfl (w.heap.size + 1) #[.int .i64 0, .string ⟨#[]⟩, .int .i64 0, .int .i64 0] rfl rfl 65 _ HKr.out (by kernel_rfl) rfl (by kernel_rfl) ?_)
          exact oneEnd 0 ⟨#[]⟩ 0 0 (-(a : Int)) 0 false rfl (Blk.row HKr.out [.int .i64 0, .string ⟨#[]⟩, .int .i64 0, .int .i64 0]) rfl rfl rfl (by omega) (by rw [Htk.out, Hm.out]; exact rfl) (below_setRow (HB1.out.trans (HBr.out.mono (by omega))) (by omega) _)
    · have hd1 := fun wx => rDigit s[a + 1] wx
      rw [h2] at hd1
      have HD1 := Lib.hid hd1
      clear hd1 h2
      have h1i : (a : Int) + 1 < (s.size : Int) := by omega
      go_wp2_with (first
        | (go_at_call 67; refine (HL0.out _).mono ?_; rintro e w' ⟨rfl, rfl⟩)
        | (go_at_call 68; have _t := tk1; clear tk1; refine (HD0.out _).mono ?_; rintro e w' ⟨rfl, rfl⟩; have tk2 : True := trivial)
        | (go_at_call 68; have _t := tk2; clear tk2; refine (HD1.out _).mono ?_; rintro e w' ⟨rfl, rfl⟩)
        | (go_at_call 72; refine (HSg.out _).mono ?_; rintro e w1 ⟨rfl, hblk, hbw⟩))
      have HS1 := Lib.hid hblk
      have HK1 := Lib.hid (HK.out.keep hbw)
      have HB1 := Lib.hid (HB.out.trans (hbw.mono hsX))
      have hs1 := hbw.size
      have hgne : wc.heap.size ≠ w.heap.size + 1 := by have := HK.out.lt; omega
      clear hblk hbw
      go_loopw [17] (fun i wr => ∃ k : Nat, k ≤ 18 ∧ i = .int .i64 k ∧ (∀ j (hj : j < signsB.length), j < k → ¬ signsB[j].data.toList <+: sl s a) ∧ Below w1.heap.size w1 wr) (fun i _ => 18 - (intOf i).toNat)
      case atStart => exact ⟨0, by omega, rfl, fun j _ h => by omega, Below.refl _ _⟩
      case round =>
        obtain ⟨k, hk, rfl, hmiss, hbr⟩ := hrel
        have HM := Lib.hid hmiss; clear hmiss
        have HBr := Lib.hid hbr; clear hbr
        by_cases hlt : k < 18
        · have hkl : k < signsB.length := hlt
          have HX := Lib.hid (show (signsB.map Value.string)[k]? = some (.string signsB[k]) by simp [hkl])
          have hcell : wr.cell? ⟨wc.heap.size, k, none⟩ = some (.string signsB[k]) := (HS1.out.keep HBr.out).cell k _ (by simp [hkl])
          obtain ⟨hx1, hx2⟩ := signsB_small _ (List.getElem_mem hkl)
          have Hhit := Lib.hid (fun hp => sign_hit (sl s a) k hkl HM.out hp)
          have Hnext : Hid (¬ signsB[k].data.toList <+: sl s a → ∀ j (hj : j < signsB.length), j < k + 1 → ¬ signsB[j].data.toList <+: sl s a) := fun hn j hj hjk => by
            by_cases e : j = k
            · subst e; exact hn
            · exact HM.out j hj (by omega)
          have Hpe := Lib.hid (pref_extract (s := s) (x := signsB[k]) (a := a) (by omega))
          generalize signsB[k] = x at *
          have hlti : (k : Int) < 18 := by omega
          by_cases hfit : x.size ≤ s.size - a
          · have hfi : (x.size : Int) ≤ (s.size : Int) - (a : Int) := by omega
            have hfi2 : (a : Int) + (x.size : Int) ≤ (s.size : Int) := by omega
            have hfi3 : (a : Int) ≤ (a : Int) + (x.size : Int) := by omega
            have e9 : ((a : Int) + (x.size : Int)).toNat = a + x.size := by omega
            have HE9 := Lib.hid e9; clear e9
            by_cases heq : s.extract a (a + x.size) = x
            · have hcmp : ((s.extract a (a + x.size)).toList == x.toList) = true := by rw [toList_beq]; exact decide_eq_true heq
              have Hit := Lib.hid (Hhit.out (Hpe.out.2 ⟨hfit, heq⟩))
              have HKr := Lib.hid (HK1.out.keep HBr.out)
              have HSr := Lib.hid (HS1.out.keep HBr.out)
              have Heq := Lib.hid heq
              clear heq Hhit Hnext Hpe hfit
              have e9 := HE9.out
              go_upto_region 21 with fail
              go_quiet (fail)
              clear e9
              all_goals go_upto_region 22 with fail
              all_goals (
                refine wp_region_held_drew (S := fun W => Blk W wc.heap.size 9 (signsB.map Value.string)) (by kernel_rfl) HSr.out (fun hHeld => ?_)
                (refine htk 0 198 ?_ rfl ?_ ?_; rotate_left; (intro w hSw; clear hSw; go_simp); (try with_reducible rfl); simp only [lsz, lss])
                (refine htk 1 199 ?_ rfl ?_ ?_; rotate_left; (intro w hSw; clear hSw; go_simp); (try with_reducible rfl); simp only [lsz, lss])
                (refine htk 2 200 ?_ rfl ?_ ?_; rotate_left; (intro w hSw; clear hSw; go_simp); (try with_reducible rfl); simp only [lsz, lss])
                (refine htk 3 201 (.string x) rfl ?_ ?_; (intro w hSw; have q0 := hSw.cell k _ HX.out; go_simp); simp only [lsz, lss])
                (refine htk 4 202 ?_ rfl ?_ ?_; rotate_left; (intro w hSw; clear hSw; go_simp); (try with_reducible rfl); simp only [lsz, lss])
                (refine htk 5 203 (.agg #[.int .i64 4, .string x, .int .i64 0, .int .i64 a]) rfl ?_ ?_; (intro w hSw; clear hSw; go_simp; try omega); simp only [lsz, lss])
                (refine htk 6 204 ?_ rfl ?_ ?_; rotate_left; (intro w hSw; clear hSw; go_simp); (try with_reducible rfl); simp only [lsz, lss])
                (refine htk 7 205 ?_ rfl ?_ ?_; rotate_left; (intro w hSw; clear hSw; go_simp); (try with_reducible rfl); simp only [lsz, lss])
                (refine htk 8 206 ?_ rfl ?_ ?_; rotate_left; (intro w hSw; clear hSw; go_simp); (try with_reducible rfl); simp only [lsz, lss])
                (refine htk 9 207 ?_ rfl ?_ ?_; rotate_left; (intro w hSw; clear hSw; go_simp); (try with_reducible rfl); simp only [lsz, lss])
                (refine htk 10 208 (.string x) rfl ?_ ?_; (intro w hSw; have q0 := hSw.cell k _ HX.out; go_simp); simp only [lsz, lss])
                (refine htk 11 209 ?_ rfl ?_ ?_; rotate_left; (intro w hSw; clear hSw; go_simp); (try with_reducible rfl); simp only [lsz, lss])
                (refine htk 12 210 (.int .i64 ((a : Int) + (x.size : Int))) rfl ?_ ?_; (intro w hSw; clear hSw; go_simp; try first | exact IntWalk.i64_in _ (by omega) | omega); simp only [lsz, lss])
                refine held_store 13 rfl (by kernel_rfl) (by kernel_rfl) (by kernel_rfl) 65 (.tmp 6) (.tmp 203) (by kernel_rfl) (w.heap.size + 1) [.int .i64 4, .string x, .int .i64 0, .int .i64 a] _ _ (by kernel_rfl) (by kernel_rfl) HKr.out infoSz4 rfl (tok_all _ _ _ _) (HSr.out.far_row hgne _) (fun hS => ?_)
                (refine htk 14 7 ?_ rfl ?_ ?_; rotate_left; (intro w hSw; clear hSw; go_simp); (try with_reducible rfl); simp only [lsz, lss])
                (refine htk 15 8 ?_ rfl ?_ ?_; rotate_left; (intro w hSw; clear hSw; go_simp); (try with_reducible rfl); simp only [lsz, lss])
                refine wpAnyH_done (by kernel_rfl) ?_ _
                go_wp2
                refine oneEnd 4 x 0 a x.size _ true rfl (Blk.row HKr.out _) rfl rfl rfl (by first | rfl | omega) ?_ (below_setRow (Below.drew (belowN nq (HB1.out.trans (HBr.out.mono (by omega))))) (by omega) _)
                rw [Htk.out, Hit.out]
                exact ⟨rfl, rfl, rfl, rfl, rfl, rfl⟩)
            · have hcmp : ((s.extract a (a + x.size)).toList == x.toList) = false := by rw [toList_beq]; exact decide_eq_false heq
              have Hn := Lib.hid (Hnext.out (fun hp => heq (Hpe.out.1 hp).2))
              have HBq := Lib.hid HBr.out
              clear heq Hhit Hnext Hpe hfit
              have e9 := HE9.out
              go_upto_region 21 with fail
              go_quiet (fail)
              clear e9
              all_goals go_wp2_with fail
              all_goals exact ⟨⟨k + 1, by omega, by go_num, Hn.out, belowN _ HBq.out⟩, by simp [intOf]; omega⟩
          · have Hn := Lib.hid (Hnext.out (fun hp => hfit (Hpe.out.1 hp).1))
            have HBq := Lib.hid HBr.out
            have hfi : ¬ (x.size : Int) ≤ (s.size : Int) - (a : Int) := by omega
            clear Hhit Hnext Hpe hfit
            go_upto_region 21 with fail
            go_quiet (fail)
            all_goals go_wp2_with fail
            all_goals exact ⟨⟨k + 1, by omega, by go_num, Hn.out, belowN _ HBq.out⟩, by simp [intOf]; omega⟩
        · obtain rfl : k = 18 := by omega
          have Hm := Lib.hid (sign_miss (sl s a) (fun j hj => HM.out j hj hj))
          have HKr := Lib.hid (HK1.out.keep HBr.out)
          go_wp2_with (refine wpList_store_row rfl 65 _ _ rfl (w.heap.size + 1) #[.int .i64 0, .string ⟨#[]⟩, .int .i64 0, .int .i64 0] rfl rfl 65 _ HKr.out (by kernel_rfl) rfl (by kernel_rfl) ?_)
          exact oneEnd 0 ⟨#[]⟩ 0 0 (-(a : Int)) 0 false rfl (Blk.row HKr.out [.int .i64 0, .string ⟨#[]⟩, .int .i64 0, .int .i64 0]) rfl rfl rfl (by omega) (by rw [Htk.out, Hm.out]; exact rfl) (below_setRow (HB1.out.trans (HBr.out.mono (by omega))) (by omega) _)
theorem rOne (s : ByteArray) (a : Nat) (t : Tok) (w : World) (hs : s.size ≤ 16384) (ha : a < s.size) :
    Calls Tryz.prog 32 #[.string s, .int .i64 a, .agg #[.int .i64 t.kind, .string ⟨t.text.toArray⟩, .int .i64 t.num, .int .i64 t.pos]] w (OneR s a (frI t) w) := by
  by_cases hlt : letC s[a] = true
  · exact rOne_word s a t w hs ha hlt
  · have hlt : letC s[a] = false := by simpa using hlt
    by_cases hq : s[a] = 34
    · exact rOne_text s a t w hs ha hq
    · by_cases hd : dgC s[a] = true
      · exact rOne_num s a t w hs ha hlt hq (.inl hd)
      · have hd : dgC s[a] = false := by simpa using hd
        by_cases h45 : s[a] = 45 ∧ frI t = true ∧ headIs dgC (sl s (a + 1)) = true
        · exact rOne_num s a t w hs ha hlt hq (.inr h45)
        · refine rOne_sign s a t w hs ha hlt hq hd (fun e => ?_)
          cases hf : frI t with
          | false => exact .inl rfl
          | true =>
            cases hh : headIs dgC (sl s (a + 1)) with
            | false => exact .inr rfl
            | true => exact absurd ⟨e, hf, hh⟩ h45
theorem ownsRow_setRow {W : World} {base e sz n : Nat} {v : Value} {xs : List Value} (h : W.ownsRow base e sz v n xs) {g : Nat} (hg : g < base) (us : Array Value) : (W.setRow g us).ownsRow base e sz v n xs := by
  refine ⟨h.1, ?_⟩
  rcases h.2 with h | ⟨b, cap, cur, hv, hb, hh, h1, h2, h3, h4⟩
  · exact .inl h
  · exact .inr ⟨b, cap, cur, hv, hb, (setRow_other W g b us (by omega)).trans hh, h1, h2, h3, h4⟩
theorem ownT_setRow {W : World} {base : Nat} {v : Value} {l : List Tok} (h : OwnT base W v l) {g : Nat} (hg : g < base) (us : Array Value) : OwnT base (W.setRow g us) v l := ownsRow_setRow h hg us
theorem tokAt_kindR {free : Bool} {l : List UInt8} {t : Tok} {n : Nat} (h : tokAt free l = some (t, n)) : t.kind ≠ 0 := by
  match l, h with
  | [], h => cases h
  | c :: r, h =>
    simp only [tokAt] at h
    split at h
    · split at h
      · cases h; simp
      · cases h
    · split at h
      · cases hh : textAt r with
        | none => rw [hh] at h; cases h
        | some y =>
          obtain ⟨y, m⟩ := y
          rw [hh] at h
          simp only at h
          split at h
          · cases h; simp
          · cases h
      · split at h
        · split at h
          · cases h; simp
          · cases h
        · simp only [signAt] at h
          split at h
          · cases h; simp
          · split at h
            · cases h; simp
            · cases h
theorem oneYes {s : ByteArray} {a : Nat} {t0 : Tok} {f : Bool} {w : World} {t : Tok} {m : Nat} (hf : frI t0 = f) (ht : tokAt f (sl s a) = some (t, m)) (hs : s.size ≤ 16384) (ha : a < s.size) :
    Calls Tryz.prog 32 #[.string s, .int .i64 a, .agg #[.int .i64 t0.kind, .string ⟨t0.text.toArray⟩, .int .i64 t0.num, .int .i64 t0.pos]] w fun e w' => e = .returned (.tuple #[.agg #[.int .i64 t.kind, .string ⟨t.text.toArray⟩, .int .i64 t.num, .int .i64 a], .int .i64 (a + m), .bool true]) ∧ Below w.heap.size w w' := by
  refine (rOne s a t0 w hs ha).mono ?_
  rintro e w' ⟨k, x, u, p, n, ok, rfl, hi, hb⟩
  rw [hf, ht] at hi
  obtain ⟨rfl, rfl, rfl, rfl, rfl, rfl⟩ := hi
  exact ⟨rfl, hb⟩
theorem oneNo {s : ByteArray} {a : Nat} {t0 : Tok} {f : Bool} {w : World} (hf : frI t0 = f) (ht : tokAt f (sl s a) = none) (hs : s.size ≤ 16384) (ha : a < s.size) :
    Calls Tryz.prog 32 #[.string s, .int .i64 a, .agg #[.int .i64 t0.kind, .string ⟨t0.text.toArray⟩, .int .i64 t0.num, .int .i64 t0.pos]] w fun e w' => ∃ (k : Int) (x : ByteArray) (u p n : Int), e = .returned (.tuple #[.agg #[.int .i64 k, .string x, .int .i64 u, .int .i64 p], .int .i64 n, .bool false]) ∧ Below w.heap.size w w' := by
  refine (rOne s a t0 w hs ha).mono ?_
  rintro e w' ⟨k, x, u, p, n, ok, rfl, hi, hb⟩
  rw [hf, ht] at hi
  obtain rfl : ok = false := hi
  exact ⟨k, x, u, p, _, rfl, hb⟩
theorem rallEnd {s : ByteArray} {w W : World} {A : Act} (v : Value) (er at' : Int) (l : List Tok) (hp : A.tmps.getD 3 undef = .pointer (some ⟨w.heap.size, 0, none⟩)) (hg : Blk W w.heap.size 31 [.int .i64 er, .int .i64 at'])
    (hv : A.tmps.getD 2 undef = v) (hdf : A.defers = []) (hl : lexAll s = (l, er, at')) (ho : OwnT w.heap.size W v l) (hb : Below w.heap.size w W) : bodyPost Tryz.prog Tryz.f9 (AllR s w) .ret A W :=
  bodyPost_tmp_agg rfl hp hg Tryz.underlying31 rfl (by kernel_rfl) hdf ⟨v, by rw [hv, hl], by rw [hl]; exact ho, hb⟩
theorem rAll_long (s : ByteArray) (w : World) (hm : s.size ≤ maxLen) (hs : 16384 < s.size) : Calls Tryz.prog 9 #[.string s] w (AllR s w) := by
  unfold maxLen at hm
  have Hl : Hid (lexAll s = ([], 3, 0)) := by show _ = _; unfold lexAll; rw [if_pos hs]
  have h1 : (16384 : Int) < (s.size : Int) := by omega
  go_enter Tryz.func9, Tryz.ntmps9; (try simp only [List.append_eq, List.cons_append, List.nil_append])
  go_wp2_with (refine wpList_store_new rfl 31 _ _ rfl #[.int .i64 3, .int .i64 0] _ _ rfl rfl (by kernel_rfl) rfl (by kernel_rfl) ?_)
  refine rallEnd (.slice none 0 0) 3 0 [] rfl (Blk.new _ _ _) rfl rfl Hl.out (OwnT.nil _ _) ((Below.refl _ _).alloc (Nat.le_refl _) _)
theorem rAll_short (s : ByteArray) (w : World) (hs : s.size ≤ 16384) : Calls Tryz.prog 9 #[.string s] w (AllR s w) := by
  obtain ⟨i0, hi, hz0, hz1, hz2⟩ := info_parts infoT
  have h1 : ¬ (16384 : Int) < (s.size : Int) := by omega
  go_enter Tryz.func9, Tryz.ntmps9; (try simp only [List.append_eq, List.cons_append, List.nil_append])
  go_wp2_with fail
  go_loopw [4, 6] (fun v i wr => ∃ (k : Nat) (l : List Tok) (u : Tok), k ≤ s.size ∧ i = .int .i64 k ∧ l.length ≤ k ∧ OwnT (w.heap.size + 2) wr v l ∧ LexI s k l ∧ frI u = freeOf l ∧ Blk wr w.heap.size 31 [.int .i64 0, .int .i64 0] ∧ Blk wr (w.heap.size + 1) 65 u.cells ∧ Below w.heap.size w wr) (fun _ i _ => s.size - (intOf i).toNat)
  case atStart => exact ⟨0, [], ⟨0, [], 0, 0⟩, by omega, rfl, by simp, OwnT.nil _ _, LexI.start s, rfl, two_at w _ _ _ _, two_at' w _ _ _, two_below w _ _⟩
  case round =>
    obtain ⟨k, l, u, hk, rfl, hlk, hown, hli, hfr, hblk, hah, hb⟩ := hrel
    have Hli := Lib.hid hli; clear hli
    have Hfr := Lib.hid hfr; clear hfr
    have Hb := Lib.hid hb; clear hb
    have hbl := hblk.lt
    have hal := hah.lt
    have Hblk := Lib.hid hblk; clear hblk
    have Hah := Lib.hid hah; clear hah
    have hlt' : l.length ≤ 16384 := by omega
    have Hown := Lib.hid hown; clear hown
    by_cases hlt : k < s.size
    · have hlti : (k : Int) < (s.size : Int) := by omega
      by_cases hbk : blankC s[k] = true
      · have hl2 := Lib.hid (Hli.out.blank hlt hbk)
        have hB := fun wx => rBlank s[k] wx
        rw [hbk] at hB
        have HBk := Lib.hid hB
        clear hbk hB
        go_wp2_with (go_at_call 31; refine (HBk.out _).mono ?_; rintro e w' ⟨rfl, rfl⟩)
        exact ⟨⟨k + 1, l, u, by omega, by go_num, by omega, Hown.out, hl2.out, Hfr.out, Hblk.out, Hah.out, Hb.out⟩, by simp [intOf]; omega⟩
      · have hbk' : blankC s[k] = false := by simpa using hbk
        clear hbk
        have hB := fun wx => rBlank s[k] wx
        rw [hbk'] at hB
        have HBk := Lib.hid hB
        clear hB
        by_cases hnt : s[k] = 35
        · have hl2 := Lib.hid (Hli.out.note hlt hnt)
          have h5 : ((s[k].toNat : Int) == 35) = true := u8b (n := 35) (by omega) hnt
          have hr0 : headIs notNl (sl s k) = true := by rw [headIs_at hlt, hnt]; rfl
          have Hr0 := Lib.hid hr0
          clear hnt hbk' hr0
          go_wp2_with (go_at_call 31; refine (HBk.out _).mono ?_; rintro e w' ⟨rfl, rfl⟩)
          go_loop [6] (fun x => ∃ j : Nat, k ≤ j ∧ j ≤ s.size ∧ x = .int .i64 j ∧ ((sl s k).take (j - k)).all notNl = true) (fun x => s.size - (intOf x).toNat)
          case atStart => exact ⟨k, Nat.le_refl _, by omega, rfl, by simp⟩
          case round =>
            obtain ⟨j, hkj, hj, rfl, hal2⟩ := hrel
            have hcase : (j < s.size ∧ headIs notNl (sl s j) = true) ∨ (headIs notNl (sl s j) = false ∧ k < j) := by
              by_cases hjs : j < s.size
              · cases hw : headIs notNl (sl s j) with
                | true => exact .inl ⟨hjs, rfl⟩
                | false =>
                  refine .inr ⟨rfl, ?_⟩
                  rcases Nat.lt_or_ge k j with h | h
                  · exact h
                  · obtain rfl : j = k := by omega
                    rw [Hr0.out] at hw; cases hw
              · exact .inr ⟨headIs_end (by omega), by omega⟩
            rcases hcase with ⟨hjs, hw⟩ | ⟨hend, hkj2⟩
            · have hst : ((sl s k).take (j + 1 - k)).all notNl = true := by
                rw [sl_snoc hkj hjs, List.all_append, hal2]
                rw [headIs_at hjs] at hw
                simp [hw]
              have Hst := Lib.hid hst
              have hn10 : ((s[j].toNat : Int) == 10) = false := by
                rw [headIs_at hjs] at hw
                refine u8ne (n := 10) (by omega) ?_
                intro e; rw [e] at hw; cases hw
              have hjsi : (j : Int) < (s.size : Int) := by omega
              clear hst hw hal2
              go_wp2_with fail
              exact ⟨⟨j + 1, by omega, by omega, by go_num, Hst.out⟩, by simp [intOf]; omega⟩
            · obtain ⟨n, rfl⟩ : ∃ n, j = k + n := ⟨j - k, by omega⟩
              rw [show k + n - k = n by omega] at hal2
              have hrun : runN notNl (sl s k) = n := runN_eq (by rw [sl_length]; omega) hal2 (by rw [sl_drop]; exact hend)
              have hl3 := hl2.out
              rw [hrun] at hl3
              have Hl3 := Lib.hid hl3
              have Hend := Lib.hid hend
              clear hl3 hal2 hend hrun
              by_cases hjs : k + n < s.size
              · have h10 : ((s[k + n].toNat : Int) == 10) = true := by
                  have := Hend.out
                  rw [headIs_at hjs] at this
                  have e : s[k + n] = 10 := by simpa [notNl] using this
                  exact u8b (n := 10) (by omega) e
                have hjsi : ((k + n : Nat) : Int) < (s.size : Int) := by omega
                go_wp2_with fail
                exact ⟨⟨k + n, l, u, by omega, by go_num, by omega, Hown.out, Hl3.out, Hfr.out, Hblk.out, Hah.out, Hb.out⟩, by simp [intOf]; omega⟩
              · have hjsi : ¬ ((k + n : Nat) : Int) < (s.size : Int) := by omega
                go_wp2_with fail
                exact ⟨⟨k + n, l, u, by omega, by go_num, by omega, Hown.out, Hl3.out, Hfr.out, Hblk.out, Hah.out, Hb.out⟩, by simp [intOf]; omega⟩
        · have h5 : ((s[k].toNat : Int) == 35) = false := u8ne (n := 35) (by omega) hnt
          have hszw := Hb.out.size
          obtain ⟨A, cap, rfl⟩ := ownsRow_slice Hown.out
          have a0 := Hah.out.cell 0 _ rfl; have a1 := Hah.out.cell 1 _ rfl; have a2 := Hah.out.cell 2 _ rfl; have a3 := Hah.out.cell 3 _ rfl
          cases htk : tokAt (freeOf l) (sl s k) with
          | none =>
            have Hno := Lib.hid (fun X => oneNo (w := X) Hfr.out htk hs hlt)
            have Hend := Lib.hid (Hli.out.bad hs hlt hbk' hnt htk)
            clear htk hnt hbk'
            go_wp2_with (first
              | (go_at_call 31; refine (HBk.out _).mono ?_; rintro e w' ⟨rfl, rfl⟩)
              | (go_at_call 32; refine (Hno.out _).mono ?_; rintro e w1 ⟨x1, x2, x3, x4, x5, rfl, hb1⟩; have hb2 := Hblk.out.keep hb1; have hbl2 := hb2.lt; have HB2 := Lib.hid hb2; clear hb2; have hz := hb1.size; have HB1 := Lib.hid hb1; clear hb1)
              | (refine wpList_store_new rfl 65 _ _ rfl #[.int .i64 x1, .string x2, .int .i64 x3, .int .i64 x4] _ _ rfl rfl (by kernel_rfl) rfl (by kernel_rfl) ?_)
              | (refine wpList_store_row rfl 31 _ _ rfl w.heap.size #[.int .i64 13, .int .i64 k] rfl rfl 31 _ (HB2.out.alloc _) (by kernel_rfl) rfl (by kernel_rfl) ?_))
            exact rallEnd (.slice none 0 0) 13 k [] rfl ((HB2.out.alloc _).row [.int .i64 13, .int .i64 k]) rfl rfl Hend.out (OwnT.nil _ _) (below_setRow ((Hb.out.trans (HB1.out.mono (by omega))).alloc (by omega) _) (Nat.le_refl _) _)
          | some tm =>
            obtain ⟨t, m⟩ := tm
            have Hyes := Lib.hid (fun X => oneYes (w := X) Hfr.out htk hs hlt)
            have hl2 := Lib.hid (Hli.out.tok hlt hbk' hnt htk)
            have hm0 := tokAt_pos htk
            have hm1 := tokAt_len htk
            have Hk0 := Lib.hid (tokAt_kindR htk)
            rw [sl_length] at hm1
            clear htk hnt hbk'
            go_upto_region 15 with (first
              | (go_at_call 31; refine (HBk.out _).mono ?_; rintro e w' ⟨rfl, rfl⟩)
              | (go_at_call 32; refine (Hyes.out _).mono ?_; rintro e w1 ⟨rfl, hb1⟩; have hz := hb1.size; have HB1 := Lib.hid hb1; clear hb1)
              | (refine wpList_store_new rfl 65 _ _ rfl #[.int .i64 t.kind, .string ⟨t.text.toArray⟩, .int .i64 t.num, .int .i64 (k : Int)] _ _ rfl rfl (by kernel_rfl) rfl (by kernel_rfl) ?_))
            obtain ⟨X7, hX7⟩ : ∃ X7, w1.alloc (.cells #[.int .i64 t.kind, .string ⟨t.text.toArray⟩, .int .i64 t.num, .int .i64 (k : Int)] 65) = X7 := ⟨_, rfl⟩
            have hb7 : Below wr.heap.size wr X7 := by rw [← hX7]; exact HB1.out.alloc (by omega) _
            have h7 : Blk X7 w1.heap.size 65 [.int .i64 t.kind, .string ⟨t.text.toArray⟩, .int .i64 t.num, .int .i64 (k : Int)] := by rw [← hX7]; exact Blk.new w1 [.int .i64 t.kind, .string ⟨t.text.toArray⟩, .int .i64 t.num, .int .i64 (k : Int)] 65
            rw [hX7]
            have hz7 := hb7.size
            have H7 := Lib.hid h7
            have H7d := Lib.hid (Blk.drew h7)
            have Hown7 := Lib.hid (ownsRow_keep Hown.out hb7)
            have HBlk7 := Lib.hid (Hblk.out.keep hb7)
            have HAh7 := Lib.hid (Hah.out.keep hb7)
            have HB7 := Lib.hid (Hb.out.trans (hb7.mono (by omega)))
            clear hX7 h7 hb7 a0 a1 a2 a3
            refine wp_region_held_drew (S := fun W => Blk W w1.heap.size 65 [.int .i64 t.kind, .string ⟨t.text.toArray⟩, .int .i64 t.num, .int .i64 (k : Int)]) (by kernel_rfl) H7d.out (fun hHeld => ?_)
            (refine htk 0 52 ?_ rfl ?_ ?_; rotate_left; (intro w hSw; clear hSw; go_simp); (try with_reducible rfl); simp only [lsz, lss])
            (refine htk 1 53 (.agg #[.int .i64 t.kind, .string ⟨t.text.toArray⟩, .int .i64 t.num, .int .i64 (k : Int)]) rfl ?_ ?_; (intro w hSw; have q0 := hSw.cell 0 _ rfl; have q1 := hSw.cell 1 _ rfl; have q2 := hSw.cell 2 _ rfl; have q3 := hSw.cell 3 _ rfl; go_simp); simp only [lsz, lss])
            (refine htk 4 56 (.agg #[.int .i64 t.kind, .string ⟨t.text.toArray⟩, .int .i64 t.num, .int .i64 (k : Int)]) rfl ?_ ?_; (intro w hSw; have q0 := hSw.cell 0 _ rfl; have q1 := hSw.cell 1 _ rfl; have q2 := hSw.cell 2 _ rfl; have q3 := hSw.cell 3 _ rfl; go_simp); simp only [lsz, lss])
            (refine htk 5 57 ?_ rfl ?_ ?_; rotate_left; (intro w hSw; clear hSw; go_simp); (try with_reducible rfl); simp only [lsz, lss])
            (refine hrd 2 rfl (fun K hK => ?_))
            rw [if_pos (by kernel_rfl)]
            go_simp
            refine hK.out _ _ (H7d.out.alloc _) (fun hHeld => ?_)
            clear hK K
            (try simp only [Act.put, lsa, lsz, lss])
            (refine hrd 3 rfl (fun K hK => ?_))
            rw [if_pos (by kernel_rfl)]
            refine wp_append_src _ _ _ _ rfl (w.heap.size + 2) 65 i0 _ 4 40 Tryz.underlying35 hi hz0 hz1 hz2 rfl (by decide) _ _ (l.map Tok.cells).flatten rfl (ownsRow_keep Hown7.out ((Below.refl _ _).drew.alloc (Nat.le_refl _) _)) _ 1 ({ t with pos := k } : Tok).cells rfl (src_new rfl rfl) (by intro u hu; exact cells_one [{ t with pos := k }] u (by simpa using hu)) (by unfold maxLen; omega) (by omega) (by show _ ≤ _; simp; omega) ?_
            intro v3 w3 hown3 hgr3 hat3
            have hb4 : Below (w.heap.size + 2) X7 w3 := below_app ((Below.refl _ _).drew.alloc (by show _ ≤ X7.heap.size; omega) _) (ownsRow_keep Hown7.out ((Below.refl _ _).drew.alloc (Nat.le_refl _) _)) hgr3 (Nat.le_refl _) (by simp; omega)
            have h7w3 : Blk w3 w1.heap.size 65 [.int .i64 t.kind, .string ⟨t.text.toArray⟩, .int .i64 t.num, .int .i64 (k : Int)] := (hgr3.block _ (by simp; have := H7.out.lt; omega) (fun e => by have := (ownsRow_block Hown.out _ e.symm).2; omega)).trans (H7d.out.alloc _)
            have hah3 := HAh7.out.mono hb4 (by omega)
            have H7w3 := Lib.hid h7w3; have Hah3 := Lib.hid hah3; have Hb4 := Lib.hid hb4; have Hown3 := Lib.hid hown3
            clear h7w3 hah3 hb4 hown3 hgr3 hat3
            refine hK.out _ _ H7w3.out (fun hHeld => ?_)
            clear hK K
            (try simp only [Act.put, lsa, lsz, lss])
            (refine htk 6 4 ?_ rfl ?_ ?_; rotate_left; (intro w hSw; clear hSw; go_simp); (try with_reducible rfl); simp only [lsz, lss])
            refine held_store 7 rfl (by kernel_rfl) (by kernel_rfl) (by kernel_rfl) 65 (.tmp 5) (.tmp 56) (by kernel_rfl) (w.heap.size + 1) [.int .i64 t.kind, .string ⟨t.text.toArray⟩, .int .i64 t.num, .int .i64 (k : Int)] _ _ (by kernel_rfl) (by kernel_rfl) Hah3.out infoSz4 rfl (tok_all _ _ _ _) (H7w3.out.far_row (by omega) _) (fun hS => ?_)
            (refine htk 8 6 ?_ rfl ?_ ?_; rotate_left; (intro w hSw; clear hSw; go_simp); (try with_reducible rfl); simp only [lsz, lss])
            refine wpAnyH_done (by kernel_rfl) ?_ _
            go_wp2
            exact ⟨⟨k + m, l ++ [{ t with pos := k }], { t with pos := k }, by omega, by go_num, by simp; omega, ownT_setRow (OwnT.app Hown3.out) (by omega) _, hl2.out, by rw [freeOf_snoc]; simp [frI, Tok.free, Hk0.out], (HBlk7.out.mono Hb4.out (by omega)).far_row (by omega) _, Hah3.out.row _, below_setRow (HB7.out.trans (Hb4.out.mono (by omega))) (by omega) _⟩, by simp [intOf]; omega⟩
    · have hk' : s.size = k := by omega
      have hend := Hli.out.done hs hk'
      rw [← hk'] at hend
      have Hend := Lib.hid hend; clear hend
      have hlti : ¬ (k : Int) < (s.size : Int) := by omega
      clear hk'
      obtain ⟨A, cap, rfl⟩ := ownsRow_slice Hown.out
      have hszw := Hb.out.size
      go_wp2_with (first
        | (at_builtin; refine wpList_append_src _ rfl _ _ _ rfl (w.heap.size + 2) 65 i0 _ 4 40 Tryz.underlying35 hi hz0 hz1 hz2 rfl (by decide) _ _ (l.map Tok.cells).flatten rfl (ownsRow_keep Hown.out ((Below.refl _ _).alloc (Nat.le_refl _) _)) _ 1 (⟨5, [], 0, (s.size : Int)⟩ : Tok).cells rfl (src_new rfl (by simp)) (by intro u hu; exact cells_one [⟨5, [], 0, (s.size : Int)⟩] u (by simpa using hu)) (by unfold maxLen; omega) (by omega) (by simp; omega) ?_; intro v3 w3 hown3 hgr3 hat3; have hb4 : Below (w.heap.size + 2) wr w3 := below_app ((Below.refl _ _).alloc (by omega) _) (ownsRow_keep Hown.out ((Below.refl _ _).alloc (Nat.le_refl _) _)) hgr3 (Nat.le_refl _) (by simp; omega); have HB5 := Lib.hid (Hblk.out.mono hb4 (by omega)); have HB4 := Lib.hid hb4; clear hb4; have Hown3 := Lib.hid hown3; clear hown3)
        | (refine wpList_store_row rfl 31 _ _ rfl w.heap.size #[.int .i64 0, .int .i64 0] rfl rfl 31 _ HB5.out (by kernel_rfl) rfl (by kernel_rfl) ?_))
      exact rallEnd v3 0 0 _ rfl (HB5.out.row [.int .i64 0, .int .i64 0]) rfl rfl Hend.out (ownsRow_base (ownT_setRow (OwnT.app Hown3.out) (by omega) _) (by omega)) (below_setRow (Hb.out.trans (HB4.out.mono (by omega))) (Nat.le_refl _) _)
theorem rAll (s : ByteArray) (w : World) (hs : s.size ≤ maxLen) : Calls Tryz.prog 9 #[.string s] w (AllR s w) := by
  by_cases h : s.size ≤ 16384
  · exact rAll_short s w h
  · exact rAll_long s w hs (by omega)
end Go.Proofs.YtpmbamfpmmdhcaaGreat
