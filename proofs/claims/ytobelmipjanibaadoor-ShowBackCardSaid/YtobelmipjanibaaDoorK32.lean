/- The reference's lexer: signs; the token at a place, whole. -/
import Derived.Test.YtobelmipjanibaaDoorK31
import Derived.RegionTactic
import Derived.ChangeAlike
import Derived.Deep.RegionHeld3
import Derived.Deep.DeepCutAuto
import Derived.Deep.QuietTactic
import Derived.BigQuiet
import Derived.StillTailTactics
import Derived.Maps.AppendAt
import Derived.Test.YtobelmipjanibaaDoorK1
namespace Go.Proofs.YtobelmipjanibaaDoor
open Go.RowKit
set_option linter.unusedSimpArgs false
set_option linter.unusedVariables false
theorem Blk.far_row {w : World} {g g' t : Nat} {cs : List Value} (h : Blk w g t cs) (hg : g ≠ g') (us : Array Value) : Blk (w.setRow g' us) g t cs := (setRow_other w g' g us hg).trans h

/-! ### signs -/
def signsB : List ByteArray := [⟨#[61, 61]⟩, ⟨#[33, 61]⟩, ⟨#[60, 61]⟩, ⟨#[62, 61]⟩, ⟨#[60]⟩, ⟨#[62]⟩, ⟨#[43]⟩, ⟨#[45]⟩, ⟨#[42]⟩, ⟨#[61]⟩, ⟨#[40]⟩, ⟨#[41]⟩, ⟨#[123]⟩, ⟨#[125]⟩, ⟨#[91]⟩, ⟨#[93]⟩, ⟨#[44]⟩, ⟨#[58]⟩]
theorem rSigns (w : World) : Calls Tryd.prog 105 #[] w fun e w' => e = .returned (.slice (some ⟨w.heap.size, 0, none⟩) 18 18) ∧ Blk w' w.heap.size 9 (signsB.map Value.string) ∧ Below w.heap.size w w' := by
  go_enter Tryd.func105, Tryd.ntmps105; (try simp only [List.append_eq, List.cons_append, List.nil_append])
  go_wp2
  go_ret
  exact ⟨rfl, Blk.new _ _ _, (Below.refl _ _).alloc (Nat.le_refl _) _⟩
theorem belowN {b : Nat} {a w : World} (n : Nat) (h : Below b a w) : Below b a (w.drewN n) := ⟨h.os, h.tape, h.output, h.size, h.block⟩
theorem signsB_small : ∀ x ∈ signsB, 1 ≤ x.size ∧ x.size ≤ 2 := by decide
theorem sign_hit (l : List UInt8) (k : Nat) (hk : k < signsB.length) (h : ∀ j (hj : j < signsB.length), j < k → ¬ signsB[j].data.toList <+: l) (hp : signsB[k].data.toList <+: l) :
    signAt l = some (⟨4, signsB[k].data.toList, 0, 0⟩, signsB[k].size) := by
  obtain ⟨r, rfl⟩ := hp
  have h0 := h 0 (by decide); have h1 := h 1 (by decide); have h2 := h 2 (by decide); have h3 := h 3 (by decide)
  clear h
  have hk18 : k < 18 := hk
  have hc : k = 0 ∨ k = 1 ∨ k = 2 ∨ k = 3 ∨ k = 4 ∨ k = 5 ∨ k = 6 ∨ k = 7 ∨ k = 8 ∨ k = 9 ∨ k = 10 ∨ k = 11 ∨ k = 12 ∨ k = 13 ∨ k = 14 ∨ k = 15 ∨ k = 16 ∨ k = 17 := by omega
  rcases hc with rfl | rfl | rfl | rfl | rfl | rfl | rfl | rfl | rfl | rfl | rfl | rfl | rfl | rfl | rfl | rfl | rfl | rfl
  all_goals first
    | (show signAt (_ :: 61 :: r) = _; rfl)
    | (cases r with
       | nil => rfl
       | cons d r =>
         by_cases hd : d = 61
         · subst hd
           exfalso
           first | exact h0 (by omega) ⟨r, rfl⟩ | exact h2 (by omega) ⟨r, rfl⟩ | exact h3 (by omega) ⟨r, rfl⟩ | exact h1 (by omega) ⟨r, rfl⟩
         · have hb : (d == 61) = false := by simp [hd]
           simp [signAt, signsB, pairC, signC, headIs, hb, ByteArray.size])
    | (simp [signAt, signsB, pairC, signC, ByteArray.size])
theorem sign_miss (l : List UInt8) (h : ∀ j (hj : j < signsB.length), ¬ signsB[j].data.toList <+: l) : signAt l = none := by
  match l with
  | [] => rfl
  | c :: r =>
    have hp : (pairC c && headIs (· == 61) r) = false := by
      cases r with
      | nil => simp [headIs]
      | cons d r =>
        cases hc : pairC c with
        | false => rfl
        | true =>
          cases hd : (d == 61) with
          | false => simp [headIs, hd]
          | true =>
            exfalso
            obtain rfl : d = 61 := by simpa using hd
            simp only [pairC, Bool.or_eq_true, beq_iff_eq] at hc
            rcases hc with ((rfl | rfl) | rfl) | rfl
            · exact h 0 (by decide) ⟨r, rfl⟩
            · exact h 1 (by decide) ⟨r, rfl⟩
            · exact h 2 (by decide) ⟨r, rfl⟩
            · exact h 3 (by decide) ⟨r, rfl⟩
    have hs : signC c = false := by
      cases hc : signC c with
      | false => rfl
      | true =>
        exfalso
        simp only [signC, Bool.or_eq_true, beq_iff_eq] at hc
        rcases hc with ((((((((((((rfl | rfl) | rfl) | rfl) | rfl) | rfl) | rfl) | rfl) | rfl) | rfl) | rfl) | rfl) | rfl) | rfl
        · exact h 4 (by decide) ⟨r, rfl⟩
        · exact h 5 (by decide) ⟨r, rfl⟩
        · exact h 6 (by decide) ⟨r, rfl⟩
        · exact h 7 (by decide) ⟨r, rfl⟩
        · exact h 8 (by decide) ⟨r, rfl⟩
        · exact h 9 (by decide) ⟨r, rfl⟩
        · exact h 10 (by decide) ⟨r, rfl⟩
        · exact h 11 (by decide) ⟨r, rfl⟩
        · exact h 12 (by decide) ⟨r, rfl⟩
        · exact h 13 (by decide) ⟨r, rfl⟩
        · exact h 14 (by decide) ⟨r, rfl⟩
        · exact h 15 (by decide) ⟨r, rfl⟩
        · exact h 16 (by decide) ⟨r, rfl⟩
        · exact h 17 (by decide) ⟨r, rfl⟩
    simp [signAt, hp, hs]
theorem pref_extract {s x : ByteArray} {a : Nat} (ha : a ≤ s.size) : x.data.toList <+: sl s a ↔ x.size ≤ s.size - a ∧ s.extract a (a + x.size) = x := by
  rw [extract_sl]
  have hxl : x.data.toList.length = x.size := by simp
  constructor
  · intro h
    have hl := h.length_le
    rw [hxl, sl_length] at hl
    refine ⟨hl, ?_⟩
    have := List.prefix_iff_eq_take.1 h
    rw [hxl] at this
    rw [← this]
  · rintro ⟨h1, h2⟩
    have : x.data.toList = (sl s a).take x.size := by
      conv => lhs; rw [← h2]
    rw [this]
    exact List.take_prefix _ _

set_option maxRecDepth 100000 in
set_option maxHeartbeats 8000000 in
theorem rOne_sign (s : ByteArray) (a : Nat) (t : Tok) (w : World) (hs : s.size ≤ 16384) (ha : a < s.size) (hlt : letC s[a] = false) (hq : s[a] ≠ 34) (hd : dgC s[a] = false) (hno : s[a] = 45 → frI t = false ∨ headIs dgC (sl s (a + 1)) = false) :
    Calls Tryd.prog 86 #[.string s, .int .i64 a, .agg #[.int .i64 t.kind, .string ⟨t.text.toArray⟩, .int .i64 t.num, .int .i64 t.pos]] w (OneR s a (frI t) w) := by
  go_enter Tryd.func86, Tryd.ntmps86; (try simp only [List.append_eq, List.cons_append, List.nil_append])
  go_upto_region 2 with fail
  have k1 := two_at w [.int .i64 t.kind, .string ⟨t.text.toArray⟩, .int .i64 t.num, .int .i64 t.pos] [.int .i64 0, .string ⟨#[]⟩, .int .i64 0, .int .i64 0] 67 67
  have k2 := two_at' w (.cells #[.int .i64 t.kind, .string ⟨t.text.toArray⟩, .int .i64 t.num, .int .i64 t.pos] 67) [.int .i64 0, .string ⟨#[]⟩, .int .i64 0, .int .i64 0] 67
  have kb := two_below w (.cells #[.int .i64 t.kind, .string ⟨t.text.toArray⟩, .int .i64 t.num, .int .i64 t.pos] 67) (.cells #[.int .i64 0, .string ⟨#[]⟩, .int .i64 0, .int .i64 0] 67)
  obtain ⟨X, hX⟩ : ∃ X, ((w.alloc (.cells #[.int .i64 t.kind, .string ⟨t.text.toArray⟩, .int .i64 t.num, .int .i64 t.pos] 67)).alloc (.cells #[.int .i64 0, .string ⟨#[]⟩, .int .i64 0, .int .i64 0] 67)) = X := ⟨_, rfl⟩
  have kk1 : Blk X w.heap.size 67 [.int .i64 t.kind, .string ⟨t.text.toArray⟩, .int .i64 t.num, .int .i64 t.pos] := by rw [← hX]; exact k1
  have kk2 : Blk X (w.heap.size + 1) 67 [.int .i64 0, .string ⟨#[]⟩, .int .i64 0, .int .i64 0] := by rw [← hX]; exact k2
  rw [hX] at kb ⊢
  clear hX k1 k2
  have HK := Lib.hid kk2; clear kk2
  have HB := Lib.hid kb; clear kb
  go_cut [10] from 18 to 41 (fun s10 wx => s10 = .bool (frI t) ∧ wx = X)
  case first =>
    have d0 := kk1.cell 0 _ rfl; have d1 := kk1.cell 1 _ rfl; have d2 := kk1.cell 2 _ rfl; have d3 := kk1.cell 3 _ rfl
    clear kk1
    go_wp2
    all_goals go_meet
    all_goals refine ⟨?_, rfl⟩
    all_goals (congr 1)
    all_goals
      rw [Bool.eq_iff_iff]
      simp only [frI, Tok.free, Bool.and_eq_true, Bool.or_eq_true, Bool.not_eq_true', beq_iff_eq, bne_iff_ne, ne_eq, beq_eq_false_iff_ne]
      simp [*]
  case rest =>
    obtain ⟨rfl, rfl⟩ := hcut
    have hsX := HB.out.size
    have ha' : (a : Int) < (s.size : Int) := by omega
    have HL0 := Lib.hid (fun wx => rLetter s[a] wx)
    rw [hlt] at HL0
    have hD0 := fun wx => rDigit s[a] wx
    rw [hd] at hD0
    have HD0 := Lib.hid hD0
    have q34 : ((s[a].toNat : Int) == 34) = false := u8ne (n := 34) (by omega) hq
    have htk := tokAt_sign (free := frI t) ha hlt hq hd hno
    have Htk := Lib.hid htk
    have hcase : ((s[a].toNat : Int) == 45) = false ∨ (((s[a].toNat : Int) == 45) = true ∧ (frI t = false ∨ (frI t = true ∧ ¬ a + 1 < s.size) ∨ (frI t = true ∧ ∃ h : a + 1 < s.size, dgC s[a + 1] = false))) := by
      by_cases h45 : s[a] = 45
      · refine .inr ⟨by rw [h45]; rfl, ?_⟩
        cases hf : frI t with
        | false => exact .inl rfl
        | true =>
          rcases hno h45 with h | h
          · rw [hf] at h; cases h
          · by_cases h1 : a + 1 < s.size
            · exact .inr (.inr ⟨rfl, h1, by rw [headIs_at h1] at h; exact h⟩)
            · exact .inr (.inl ⟨rfl, h1⟩)
      · exact .inl (u8ne (n := 45) (by omega) h45)
    clear hD0 htk hno hd hq hlt
    have HSg := Lib.hid (fun X => rSigns X)
    have tk1 : True := trivial
    rcases hcase with h45 | ⟨h45, hf | ⟨hf, h1⟩ | ⟨hf, h1, h2⟩⟩
    · go_wp2_with (first
        | (go_at_call 100; refine (HL0.out _).mono ?_; rintro e w' ⟨rfl, rfl⟩)
        | (go_at_call 101; refine (HD0.out _).mono ?_; rintro e w' ⟨rfl, rfl⟩)
        | (go_at_call 105; refine (HSg.out _).mono ?_; rintro e w1 ⟨rfl, hblk, hbw⟩))
      have HS1 := Lib.hid hblk
      have HK1 := Lib.hid (HK.out.keep hbw)
      have HB1 := Lib.hid (HB.out.trans (hbw.mono hsX))
      have hs1 := hbw.size
      have hgne : wc.heap.size ≠ w.heap.size + 1 := by have := HK.out.lt; omega
      clear hblk hbw
      go_loopw [17] (fun i wr => ∃ k : Nat, k ≤ 18 ∧ i = .int .i64 k ∧ (∀ j (hj : j < signsB.length), j < k → ¬ signsB[j].data.toList <+: sl s a) ∧ Below w1.heap.size w1 wr) (fun i _ => 18 - (intOf i).toNat)
      case atStart => exact ⟨0, by omega, rfl, fun j _ h => by omega, Below.refl _ _⟩
      case round =>
        obtain ⟨k, hk, rfl, hmiss, hbr⟩ := hrel
        have HM := Lib.hid hmiss; clear hmiss
        have HBr := Lib.hid hbr; clear hbr
        by_cases hlt : k < 18
        · have hkl : k < signsB.length := hlt
          have HX := Lib.hid (show (signsB.map Value.string)[k]? = some (.string signsB[k]) by simp [hkl])
          have hcell : wr.cell? ⟨wc.heap.size, k, none⟩ = some (.string signsB[k]) := (HS1.out.keep HBr.out).cell k _ (by simp [hkl])
          obtain ⟨hx1, hx2⟩ := signsB_small _ (List.getElem_mem hkl)
          have Hhit := Lib.hid (fun hp => sign_hit (sl s a) k hkl HM.out hp)
          have Hnext : Hid (¬ signsB[k].data.toList <+: sl s a → ∀ j (hj : j < signsB.length), j < k + 1 → ¬ signsB[j].data.toList <+: sl s a) := fun hn j hj hjk => by
            by_cases e : j = k
            · subst e; exact hn
            · exact HM.out j hj (by omega)
          have Hpe := Lib.hid (pref_extract (s := s) (x := signsB[k]) (a := a) (by omega))
          generalize signsB[k] = x at *
          have hlti : (k : Int) < 18 := by omega
          by_cases hfit : x.size ≤ s.size - a
          · have hfi : (x.size : Int) ≤ (s.size : Int) - (a : Int) := by omega
            have hfi2 : (a : Int) + (x.size : Int) ≤ (s.size : Int) := by omega
            have hfi3 : (a : Int) ≤ (a : Int) + (x.size : Int) := by omega
            have e9 : ((a : Int) + (x.size : Int)).toNat = a + x.size := by omega
            have HE9 := Lib.hid e9; clear e9
            by_cases heq : s.extract a (a + x.size) = x
            · have hcmp : ((s.extract a (a + x.size)).toList == x.toList) = true := by rw [toList_beq]; exact decide_eq_true heq
              have Hit := Lib.hid (Hhit.out (Hpe.out.2 ⟨hfit, heq⟩))
              have HKr := Lib.hid (HK1.out.keep HBr.out)
              have HSr := Lib.hid (HS1.out.keep HBr.out)
              have Heq := Lib.hid heq
              clear heq Hhit Hnext Hpe hfit
              have e9 := HE9.out
              go_upto_region 21 with fail
              go_quiet (fail)
              clear e9
              all_goals go_upto_region 22 with fail
              all_goals (
                refine wp_region_held_drew (S := fun W => Blk W wc.heap.size 9 (signsB.map Value.string)) (by kernel_rfl) HSr.out (fun hHeld => ?_)
                (refine htk 0 198 ?_ rfl ?_ ?_; rotate_left; (intro w hSw; clear hSw; go_simp); (try with_reducible rfl); simp only [lsz, lss])
                (refine htk 1 199 ?_ rfl ?_ ?_; rotate_left; (intro w hSw; clear hSw; go_simp); (try with_reducible rfl); simp only [lsz, lss])
                (refine htk 2 200 ?_ rfl ?_ ?_; rotate_left; (intro w hSw; clear hSw; go_simp); (try with_reducible rfl); simp only [lsz, lss])
                (refine htk 3 201 (.string x) rfl ?_ ?_; (intro w hSw; have q0 := hSw.cell k _ HX.out; go_simp); simp only [lsz, lss])
                (refine htk 4 202 ?_ rfl ?_ ?_; rotate_left; (intro w hSw; clear hSw; go_simp); (try with_reducible rfl); simp only [lsz, lss])
                (refine htk 5 203 (.agg #[.int .i64 4, .string x, .int .i64 0, .int .i64 a]) rfl ?_ ?_; (intro w hSw; clear hSw; go_simp; try omega); simp only [lsz, lss])
                (refine htk 6 204 ?_ rfl ?_ ?_; rotate_left; (intro w hSw; clear hSw; go_simp); (try with_reducible rfl); simp only [lsz, lss])
                (refine htk 7 205 ?_ rfl ?_ ?_; rotate_left; (intro w hSw; clear hSw; go_simp); (try with_reducible rfl); simp only [lsz, lss])
                (refine htk 8 206 ?_ rfl ?_ ?_; rotate_left; (intro w hSw; clear hSw; go_simp); (try with_reducible rfl); simp only [lsz, lss])
                (refine htk 9 207 ?_ rfl ?_ ?_; rotate_left; (intro w hSw; clear hSw; go_simp); (try with_reducible rfl); simp only [lsz, lss])
                (refine htk 10 208 (.string x) rfl ?_ ?_; (intro w hSw; have q0 := hSw.cell k _ HX.out; go_simp); simp only [lsz, lss])
                (refine htk 11 209 ?_ rfl ?_ ?_; rotate_left; (intro w hSw; clear hSw; go_simp); (try with_reducible rfl); simp only [lsz, lss])
                (refine htk 12 210 (.int .i64 ((a : Int) + (x.size : Int))) rfl ?_ ?_; (intro w hSw; clear hSw; go_simp; try first | exact IntWalk.i64_in _ (by omega) | omega); simp only [lsz, lss])
                refine held_store 13 rfl (by kernel_rfl) (by kernel_rfl) (by kernel_rfl) 67 (.tmp 6) (.tmp 203) (by kernel_rfl) (w.heap.size + 1) [.int .i64 4, .string x, .int .i64 0, .int .i64 a] _ _ (by kernel_rfl) (by kernel_rfl) HKr.out infoSz4 rfl (tok_all _ _ _ _) (HSr.out.far_row hgne _) (fun hS => ?_)
                (refine htk 14 7 ?_ rfl ?_ ?_; rotate_left; (intro w hSw; clear hSw; go_simp); (try with_reducible rfl); simp only [lsz, lss])
                (refine htk 15 8 ?_ rfl ?_ ?_; rotate_left; (intro w hSw; clear hSw; go_simp); (try with_reducible rfl); simp only [lsz, lss])
                refine wpAnyH_done (by kernel_rfl) ?_ _
                go_wp2
                refine oneEnd 4 x 0 a x.size _ true rfl (Blk.row HKr.out _) rfl rfl rfl (by first | rfl | omega) ?_ (below_setRow (Below.drew (belowN nq (HB1.out.trans (HBr.out.mono (by omega))))) (by omega) _)
                rw [Htk.out, Hit.out]
                exact ⟨rfl, rfl, rfl, rfl, rfl, rfl⟩)
            · have hcmp : ((s.extract a (a + x.size)).toList == x.toList) = false := by rw [toList_beq]; exact decide_eq_false heq
              have Hn := Lib.hid (Hnext.out (fun hp => heq (Hpe.out.1 hp).2))
              have HBq := Lib.hid HBr.out
              clear heq Hhit Hnext Hpe hfit
              have e9 := HE9.out
              go_upto_region 21 with fail
              go_quiet (fail)
              clear e9
              all_goals go_wp2_with fail
              all_goals exact ⟨⟨k + 1, by omega, by go_num, Hn.out, belowN _ HBq.out⟩, by simp [intOf]; omega⟩
          · have Hn := Lib.hid (Hnext.out (fun hp => hfit (Hpe.out.1 hp).1))
            have HBq := Lib.hid HBr.out
            have hfi : ¬ (x.size : Int) ≤ (s.size : Int) - (a : Int) := by omega
            clear Hhit Hnext Hpe hfit
            go_upto_region 21 with fail
            go_quiet (fail)
            all_goals go_wp2_with fail
            all_goals exact ⟨⟨k + 1, by omega, by go_num, Hn.out, belowN _ HBq.out⟩, by simp [intOf]; omega⟩
        · obtain rfl : k = 18 := by omega
          have Hm := Lib.hid (sign_miss (sl s a) (fun j hj => HM.out j hj hj))
          have HKr := Lib.hid (HK1.out.keep HBr.out)
          go_wp2_with (refine wpList_store_row rfl 67 _ _ rfl (w.heap.size + 1) #[.int .i64 0, .string ⟨#[]⟩, .int .i64 0, .int .i64 0] rfl rfl 67 _ HKr.out (by kernel_rfl) rfl (by kernel_rfl) ?_)
          exact oneEnd 0 ⟨#[]⟩ 0 0 (-(a : Int)) 0 false rfl (Blk.row HKr.out [.int .i64 0, .string ⟨#[]⟩, .int .i64 0, .int .i64 0]) rfl rfl rfl (by omega) (by rw [Htk.out, Hm.out]; exact rfl) (below_setRow (HB1.out.trans (HBr.out.mono (by omega))) (by omega) _)
    · go_wp2_with (first
        | (go_at_call 100; refine (HL0.out _).mono ?_; rintro e w' ⟨rfl, rfl⟩)
        | (go_at_call 101; refine (HD0.out _).mono ?_; rintro e w' ⟨rfl, rfl⟩)
        | (go_at_call 105; refine (HSg.out _).mono ?_; rintro e w1 ⟨rfl, hblk, hbw⟩))
      have HS1 := Lib.hid hblk
      have HK1 := Lib.hid (HK.out.keep hbw)
      have HB1 := Lib.hid (HB.out.trans (hbw.mono hsX))
      have hs1 := hbw.size
      have hgne : wc.heap.size ≠ w.heap.size + 1 := by have := HK.out.lt; omega
      clear hblk hbw
      go_loopw [17] (fun i wr => ∃ k : Nat, k ≤ 18 ∧ i = .int .i64 k ∧ (∀ j (hj : j < signsB.length), j < k → ¬ signsB[j].data.toList <+: sl s a) ∧ Below w1.heap.size w1 wr) (fun i _ => 18 - (intOf i).toNat)
      case atStart => exact ⟨0, by omega, rfl, fun j _ h => by omega, Below.refl _ _⟩
      case round =>
        obtain ⟨k, hk, rfl, hmiss, hbr⟩ := hrel
        have HM := Lib.hid hmiss; clear hmiss
        have HBr := Lib.hid hbr; clear hbr
        by_cases hlt : k < 18
        · have hkl : k < signsB.length := hlt
          have HX := Lib.hid (show (signsB.map Value.string)[k]? = some (.string signsB[k]) by simp [hkl])
          have hcell : wr.cell? ⟨wc.heap.size, k, none⟩ = some (.string signsB[k]) := (HS1.out.keep HBr.out).cell k _ (by simp [hkl])
          obtain ⟨hx1, hx2⟩ := signsB_small _ (List.getElem_mem hkl)
          have Hhit := Lib.hid (fun hp => sign_hit (sl s a) k hkl HM.out hp)
          have Hnext : Hid (¬ signsB[k].data.toList <+: sl s a → ∀ j (hj : j < signsB.length), j < k + 1 → ¬ signsB[j].data.toList <+: sl s a) := fun hn j hj hjk => by
            by_cases e : j = k
            · subst e; exact hn
            · exact HM.out j hj (by omega)
          have Hpe := Lib.hid (pref_extract (s := s) (x := signsB[k]) (a := a) (by omega))
          generalize signsB[k] = x at *
          have hlti : (k : Int) < 18 := by omega
          by_cases hfit : x.size ≤ s.size - a
          · have hfi : (x.size : Int) ≤ (s.size : Int) - (a : Int) := by omega
            have hfi2 : (a : Int) + (x.size : Int) ≤ (s.size : Int) := by omega
            have hfi3 : (a : Int) ≤ (a : Int) + (x.size : Int) := by omega
            have e9 : ((a : Int) + (x.size : Int)).toNat = a + x.size := by omega
            have HE9 := Lib.hid e9; clear e9
            by_cases heq : s.extract a (a + x.size) = x
            · have hcmp : ((s.extract a (a + x.size)).toList == x.toList) = true := by rw [toList_beq]; exact decide_eq_true heq
              have Hit := Lib.hid (Hhit.out (Hpe.out.2 ⟨hfit, heq⟩))
              have HKr := Lib.hid (HK1.out.keep HBr.out)
              have HSr := Lib.hid (HS1.out.keep HBr.out)
              have Heq := Lib.hid heq
              clear heq Hhit Hnext Hpe hfit
              have e9 := HE9.out
              go_upto_region 21 with fail
              go_quiet (fail)
              clear e9
              all_goals go_upto_region 22 with fail
              all_goals (
                refine wp_region_held_drew (S := fun W => Blk W wc.heap.size 9 (signsB.map Value.string)) (by kernel_rfl) HSr.out (fun hHeld => ?_)
                (refine htk 0 198 ?_ rfl ?_ ?_; rotate_left; (intro w hSw; clear hSw; go_simp); (try with_reducible rfl); simp only [lsz, lss])
                (refine htk 1 199 ?_ rfl ?_ ?_; rotate_left; (intro w hSw; clear hSw; go_simp); (try with_reducible rfl); simp only [lsz, lss])
                (refine htk 2 200 ?_ rfl ?_ ?_; rotate_left; (intro w hSw; clear hSw; go_simp); (try with_reducible rfl); simp only [lsz, lss])
                (refine htk 3 201 (.string x) rfl ?_ ?_; (intro w hSw; have q0 := hSw.cell k _ HX.out; go_simp); simp only [lsz, lss])
                (refine htk 4 202 ?_ rfl ?_ ?_; rotate_left; (intro w hSw; clear hSw; go_simp); (try with_reducible rfl); simp only [lsz, lss])
                (refine htk 5 203 (.agg #[.int .i64 4, .string x, .int .i64 0, .int .i64 a]) rfl ?_ ?_; (intro w hSw; clear hSw; go_simp; try omega); simp only [lsz, lss])
                (refine htk 6 204 ?_ rfl ?_ ?_; rotate_left; (intro w hSw; clear hSw; go_simp); (try with_reducible rfl); simp only [lsz, lss])
                (refine htk 7 205 ?_ rfl ?_ ?_; rotate_left; (intro w hSw; clear hSw; go_simp); (try with_reducible rfl); simp only [lsz, lss])
                (refine htk 8 206 ?_ rfl ?_ ?_; rotate_left; (intro w hSw; clear hSw; go_simp); (try with_reducible rfl); simp only [lsz, lss])
                (refine htk 9 207 ?_ rfl ?_ ?_; rotate_left; (intro w hSw; clear hSw; go_simp); (try with_reducible rfl); simp only [lsz, lss])
                (refine htk 10 208 (.string x) rfl ?_ ?_; (intro w hSw; have q0 := hSw.cell k _ HX.out; go_simp); simp only [lsz, lss])
                (refine htk 11 209 ?_ rfl ?_ ?_; rotate_left; (intro w hSw; clear hSw; go_simp); (try with_reducible rfl); simp only [lsz, lss])
                (refine htk 12 210 (.int .i64 ((a : Int) + (x.size : Int))) rfl ?_ ?_; (intro w hSw; clear hSw; go_simp; try first | exact IntWalk.i64_in _ (by omega) | omega); simp only [lsz, lss])
                refine held_store 13 rfl (by kernel_rfl) (by kernel_rfl) (by kernel_rfl) 67 (.tmp 6) (.tmp 203) (by kernel_rfl) (w.heap.size + 1) [.int .i64 4, .string x, .int .i64 0, .int .i64 a] _ _ (by kernel_rfl) (by kernel_rfl) HKr.out infoSz4 rfl (tok_all _ _ _ _) (HSr.out.far_row hgne _) (fun hS => ?_)
                (refine htk 14 7 ?_ rfl ?_ ?_; rotate_left; (intro w hSw; clear hSw; go_simp); (try with_reducible rfl); simp only [lsz, lss])
                (refine htk 15 8 ?_ rfl ?_ ?_; rotate_left; (intro w hSw; clear hSw; go_simp); (try with_reducible rfl); simp only [lsz, lss])
                refine wpAnyH_done (by kernel_rfl) ?_ _
                go_wp2
                refine oneEnd 4 x 0 a x.size _ true rfl (Blk.row HKr.out _) rfl rfl rfl (by first | rfl | omega) ?_ (below_setRow (Below.drew (belowN nq (HB1.out.trans (HBr.out.mono (by omega))))) (by omega) _)
                rw [Htk.out, Hit.out]
                exact ⟨rfl, rfl, rfl, rfl, rfl, rfl⟩)
            · have hcmp : ((s.extract a (a + x.size)).toList == x.toList) = false := by rw [toList_beq]; exact decide_eq_false heq
              have Hn := Lib.hid (Hnext.out (fun hp => heq (Hpe.out.1 hp).2))
              have HBq := Lib.hid HBr.out
              clear heq Hhit Hnext Hpe hfit
              have e9 := HE9.out
              go_upto_region 21 with fail
              go_quiet (fail)
              clear e9
              all_goals go_wp2_with fail
              all_goals exact ⟨⟨k + 1, by omega, by go_num, Hn.out, belowN _ HBq.out⟩, by simp [intOf]; omega⟩
          · have Hn := Lib.hid (Hnext.out (fun hp => hfit (Hpe.out.1 hp).1))
            have HBq := Lib.hid HBr.out
            have hfi : ¬ (x.size : Int) ≤ (s.size : Int) - (a : Int) := by omega
            clear Hhit Hnext Hpe hfit
            go_upto_region 21 with fail
            go_quiet (fail)
            all_goals go_wp2_with fail
            all_goals exact ⟨⟨k + 1, by omega, by go_num, Hn.out, belowN _ HBq.out⟩, by simp [intOf]; omega⟩
        · obtain rfl : k = 18 := by omega
          have Hm := Lib.hid (sign_miss (sl s a) (fun j hj => HM.out j hj hj))
          have HKr := Lib.hid (HK1.out.keep HBr.out)
          go_wp2_with (refine wpList_store_row rfl 67 _ _ rfl (w.heap.size + 1) #[.int .i64 0, .string ⟨#[]⟩, .int .i64 0, .int .i64 0] rfl rfl 67 _ HKr.out (by kernel_rfl) rfl (by kernel_rfl) ?_)
          exact oneEnd 0 ⟨#[]⟩ 0 0 (-(a : Int)) 0 false rfl (Blk.row HKr.out [.int .i64 0, .string ⟨#[]⟩, .int .i64 0, .int .i64 0]) rfl rfl rfl (by omega) (by rw [Htk.out, Hm.out]; exact rfl) (below_setRow (HB1.out.trans (HBr.out.mono (by omega))) (by omega) _)
    · have h1i : ¬ (a : Int) + 1 < (s.size : Int) := by omega
      go_wp2_with (first
        | (go_at_call 100; refine (HL0.out _).mono ?_; rintro e w' ⟨rfl, rfl⟩)
        | (go_at_call 101; refine (HD0.out _).mono ?_; rintro e w' ⟨rfl, rfl⟩)
        | (go_at_call 105; refine (HSg.out _).mono ?_; rintro e w1 ⟨rfl, hblk, hbw⟩))
      have HS1 := Lib.hid hblk
      have HK1 := Lib.hid (HK.out.keep hbw)
      have HB1 := Lib.hid (HB.out.trans (hbw.mono hsX))
      have hs1 := hbw.size
      have hgne : wc.heap.size ≠ w.heap.size + 1 := by have := HK.out.lt; omega
      clear hblk hbw
      go_loopw [17] (fun i wr => ∃ k : Nat, k ≤ 18 ∧ i = .int .i64 k ∧ (∀ j (hj : j < signsB.length), j < k → ¬ signsB[j].data.toList <+: sl s a) ∧ Below w1.heap.size w1 wr) (fun i _ => 18 - (intOf i).toNat)
      case atStart => exact ⟨0, by omega, rfl, fun j _ h => by omega, Below.refl _ _⟩
      case round =>
        obtain ⟨k, hk, rfl, hmiss, hbr⟩ := hrel
        have HM := Lib.hid hmiss; clear hmiss
        have HBr := Lib.hid hbr; clear hbr
        by_cases hlt : k < 18
        · have hkl : k < signsB.length := hlt
          have HX := Lib.hid (show (signsB.map Value.string)[k]? = some (.string signsB[k]) by simp [hkl])
          have hcell : wr.cell? ⟨wc.heap.size, k, none⟩ = some (.string signsB[k]) := (HS1.out.keep HBr.out).cell k _ (by simp [hkl])
          obtain ⟨hx1, hx2⟩ := signsB_small _ (List.getElem_mem hkl)
          have Hhit := Lib.hid (fun hp => sign_hit (sl s a) k hkl HM.out hp)
          have Hnext : Hid (¬ signsB[k].data.toList <+: sl s a → ∀ j (hj : j < signsB.length), j < k + 1 → ¬ signsB[j].data.toList <+: sl s a) := fun hn j hj hjk => by
            by_cases e : j = k
            · subst e; exact hn
            · exact HM.out j hj (by omega)
          have Hpe := Lib.hid (pref_extract (s := s) (x := signsB[k]) (a := a) (by omega))
          generalize signsB[k] = x at *
          have hlti : (k : Int) < 18 := by omega
          by_cases hfit : x.size ≤ s.size - a
          · have hfi : (x.size : Int) ≤ (s.size : Int) - (a : Int) := by omega
            have hfi2 : (a : Int) + (x.size : Int) ≤ (s.size : Int) := by omega
            have hfi3 : (a : Int) ≤ (a : Int) + (x.size : Int) := by omega
            have e9 : ((a : Int) + (x.size : Int)).toNat = a + x.size := by omega
            have HE9 := Lib.hid e9; clear e9
            by_cases heq : s.extract a (a + x.size) = x
            · have hcmp : ((s.extract a (a + x.size)).toList == x.toList) = true := by rw [toList_beq]; exact decide_eq_true heq
              have Hit := Lib.hid (Hhit.out (Hpe.out.2 ⟨hfit, heq⟩))
              have HKr := Lib.hid (HK1.out.keep HBr.out)
              have HSr := Lib.hid (HS1.out.keep HBr.out)
              have Heq := Lib.hid heq
              clear heq Hhit Hnext Hpe hfit
              have e9 := HE9.out
              go_upto_region 21 with fail
              go_quiet (fail)
              clear e9
              all_goals go_upto_region 22 with fail
              all_goals (
                refine wp_region_held_drew (S := fun W => Blk W wc.heap.size 9 (signsB.map Value.string)) (by kernel_rfl) HSr.out (fun hHeld => ?_)
                (refine htk 0 198 ?_ rfl ?_ ?_; rotate_left; (intro w hSw; clear hSw; go_simp); (try with_reducible rfl); simp only [lsz, lss])
                (refine htk 1 199 ?_ rfl ?_ ?_; rotate_left; (intro w hSw; clear hSw; go_simp); (try with_reducible rfl); simp only [lsz, lss])
                (refine htk 2 200 ?_ rfl ?_ ?_; rotate_left; (intro w hSw; clear hSw; go_simp); (try with_reducible rfl); simp only [lsz, lss])
                (refine htk 3 201 (.string x) rfl ?_ ?_; (intro w hSw; have q0 := hSw.cell k _ HX.out; go_simp); simp only [lsz, lss])
                (refine htk 4 202 ?_ rfl ?_ ?_; rotate_left; (intro w hSw; clear hSw; go_simp); (try with_reducible rfl); simp only [lsz, lss])
                (refine htk 5 203 (.agg #[.int .i64 4, .string x, .int .i64 0, .int .i64 a]) rfl ?_ ?_; (intro w hSw; clear hSw; go_simp; try omega); simp only [lsz, lss])
                (refine htk 6 204 ?_ rfl ?_ ?_; rotate_left; (intro w hSw; clear hSw; go_simp); (try with_reducible rfl); simp only [lsz, lss])
                (refine htk 7 205 ?_ rfl ?_ ?_; rotate_left; (intro w hSw; clear hSw; go_simp); (try with_reducible rfl); simp only [lsz, lss])
                (refine htk 8 206 ?_ rfl ?_ ?_; rotate_left; (intro w hSw; clear hSw; go_simp); (try with_reducible rfl); simp only [lsz, lss])
                (refine htk 9 207 ?_ rfl ?_ ?_; rotate_left; (intro w hSw; clear hSw; go_simp); (try with_reducible rfl); simp only [lsz, lss])
                (refine htk 10 208 (.string x) rfl ?_ ?_; (intro w hSw; have q0 := hSw.cell k _ HX.out; go_simp); simp only [lsz, lss])
                (refine htk 11 209 ?_ rfl ?_ ?_; rotate_left; (intro w hSw; clear hSw; go_simp); (try with_reducible rfl); simp only [lsz, lss])
                (refine htk 12 210 (.int .i64 ((a : Int) + (x.size : Int))) rfl ?_ ?_; (intro w hSw; clear hSw; go_simp; try first | exact IntWalk.i64_in _ (by omega) | omega); simp only [lsz, lss])
                refine held_store 13 rfl (by kernel_rfl) (by kernel_rfl) (by kernel_rfl) 67 (.tmp 6) (.tmp 203) (by kernel_rfl) (w.heap.size + 1) [.int .i64 4, .string x, .int .i64 0, .int .i64 a] _ _ (by kernel_rfl) (by kernel_rfl) HKr.out infoSz4 rfl (tok_all _ _ _ _) (HSr.out.far_row hgne _) (fun hS => ?_)
                (refine htk 14 7 ?_ rfl ?_ ?_; rotate_left; (intro w hSw; clear hSw; go_simp); (try with_reducible rfl); simp only [lsz, lss])
                (refine htk 15 8 ?_ rfl ?_ ?_; rotate_left; (intro w hSw; clear hSw; go_simp); (try with_reducible rfl); simp only [lsz, lss])
                refine wpAnyH_done (by kernel_rfl) ?_ _
                go_wp2
                refine oneEnd 4 x 0 a x.size _ true rfl (Blk.row HKr.out _) rfl rfl rfl (by first | rfl | omega) ?_ (below_setRow (Below.drew (belowN nq (HB1.out.trans (HBr.out.mono (by omega))))) (by omega) _)
                rw [Htk.out, Hit.out]
                exact ⟨rfl, rfl, rfl, rfl, rfl, rfl⟩)
            · have hcmp : ((s.extract a (a + x.size)).toList == x.toList) = false := by rw [toList_beq]; exact decide_eq_false heq
              have Hn := Lib.hid (Hnext.out (fun hp => heq (Hpe.out.1 hp).2))
              have HBq := Lib.hid HBr.out
              clear heq Hhit Hnext Hpe hfit
              have e9 := HE9.out
              go_upto_region 21 with fail
              go_quiet (fail)
              clear e9
              all_goals go_wp2_with fail
              all_goals exact ⟨⟨k + 1, by omega, by go_num, Hn.out, belowN _ HBq.out⟩, by simp [intOf]; omega⟩
          · have Hn := Lib.hid (Hnext.out (fun hp => hfit (Hpe.out.1 hp).1))
            have HBq := Lib.hid HBr.out
            have hfi : ¬ (x.size : Int) ≤ (s.size : Int) - (a : Int) := by omega
            clear Hhit Hnext Hpe hfit
            go_upto_region 21 with fail
            go_quiet (fail)
            all_goals go_wp2_with fail
            all_goals exact ⟨⟨k + 1, by omega, by go_num, Hn.out, belowN _ HBq.out⟩, by simp [intOf]; omega⟩
        · obtain rfl : k = 18 := by omega
          have Hm := Lib.hid (sign_miss (sl s a) (fun j hj => HM.out j hj hj))
          have HKr := Lib.hid (HK1.out.keep HBr.out)
          go_wp2_with (refine wpList_store_row rfl 67 _ _ rfl (w.heap.size + 1) #[.int .i64 0, .string ⟨#[]⟩, .int .i64 0, .int .i64 0] rfl rfl 67 _ HKr.out (by kernel_rfl) rfl (by kernel_rfl) ?_)
          exact oneEnd 0 ⟨#[]⟩ 0 0 (-(a : Int)) 0 false rfl (Blk.row HKr.out [.int .i64 0, .string ⟨#[]⟩, .int .i64 0, .int .i64 0]) rfl rfl rfl (by omega) (by rw [Htk.out, Hm.out]; exact rfl) (below_setRow (HB1.out.trans (HBr.out.mono (by omega))) (by omega) _)
    · have hd1 := fun wx => rDigit s[a + 1] wx
      rw [h2] at hd1
      have HD1 := Lib.hid hd1
      clear hd1 h2
      have h1i : (a : Int) + 1 < (s.size : Int) := by omega
      go_wp2_with (first
        | (go_at_call 100; refine (HL0.out _).mono ?_; rintro e w' ⟨rfl, rfl⟩)
        | (go_at_call 101; have _t := tk1; clear tk1; refine (HD0.out _).mono ?_; rintro e w' ⟨rfl, rfl⟩; have tk2 : True := trivial)
        | (go_at_call 101; have _t := tk2; clear tk2; refine (HD1.out _).mono ?_; rintro e w' ⟨rfl, rfl⟩)
        | (go_at_call 105; refine (HSg.out _).mono ?_; rintro e w1 ⟨rfl, hblk, hbw⟩))
      have HS1 := Lib.hid hblk
      have HK1 := Lib.hid (HK.out.keep hbw)
      have HB1 := Lib.hid (HB.out.trans (hbw.mono hsX))
      have hs1 := hbw.size
      have hgne : wc.heap.size ≠ w.heap.size + 1 := by have := HK.out.lt; omega
      clear hblk hbw
      go_loopw [17] (fun i wr => ∃ k : Nat, k ≤ 18 ∧ i = .int .i64 k ∧ (∀ j (hj : j < signsB.length), j < k → ¬ signsB[j].data.toList <+: sl s a) ∧ Below w1.heap.size w1 wr) (fun i _ => 18 - (intOf i).toNat)
      case atStart => exact ⟨0, by omega, rfl, fun j _ h => by omega, Below.refl _ _⟩
      case round =>
        obtain ⟨k, hk, rfl, hmiss, hbr⟩ := hrel
        have HM := Lib.hid hmiss; clear hmiss
        have HBr := Lib.hid hbr; clear hbr
        by_cases hlt : k < 18
        · have hkl : k < signsB.length := hlt
          have HX := Lib.hid (show (signsB.map Value.string)[k]? = some (.string signsB[k]) by simp [hkl])
          have hcell : wr.cell? ⟨wc.heap.size, k, none⟩ = some (.string signsB[k]) := (HS1.out.keep HBr.out).cell k _ (by simp [hkl])
          obtain ⟨hx1, hx2⟩ := signsB_small _ (List.getElem_mem hkl)
          have Hhit := Lib.hid (fun hp => sign_hit (sl s a) k hkl HM.out hp)
          have Hnext : Hid (¬ signsB[k].data.toList <+: sl s a → ∀ j (hj : j < signsB.length), j < k + 1 → ¬ signsB[j].data.toList <+: sl s a) := fun hn j hj hjk => by
            by_cases e : j = k
            · subst e; exact hn
            · exact HM.out j hj (by omega)
          have Hpe := Lib.hid (pref_extract (s := s) (x := signsB[k]) (a := a) (by omega))
          generalize signsB[k] = x at *
          have hlti : (k : Int) < 18 := by omega
          by_cases hfit : x.size ≤ s.size - a
          · have hfi : (x.size : Int) ≤ (s.size : Int) - (a : Int) := by omega
            have hfi2 : (a : Int) + (x.size : Int) ≤ (s.size : Int) := by omega
            have hfi3 : (a : Int) ≤ (a : Int) + (x.size : Int) := by omega
            have e9 : ((a : Int) + (x.size : Int)).toNat = a + x.size := by omega
            have HE9 := Lib.hid e9; clear e9
            by_cases heq : s.extract a (a + x.size) = x
            · have hcmp : ((s.extract a (a + x.size)).toList == x.toList) = true := by rw [toList_beq]; exact decide_eq_true heq
              have Hit := Lib.hid (Hhit.out (Hpe.out.2 ⟨hfit, heq⟩))
              have HKr := Lib.hid (HK1.out.keep HBr.out)
              have HSr := Lib.hid (HS1.out.keep HBr.out)
              have Heq := Lib.hid heq
              clear heq Hhit Hnext Hpe hfit
              have e9 := HE9.out
              go_upto_region 21 with fail
              go_quiet (fail)
              clear e9
              all_goals go_upto_region 22 with fail
              all_goals (
                refine wp_region_held_drew (S := fun W => Blk W wc.heap.size 9 (signsB.map Value.string)) (by kernel_rfl) HSr.out (fun hHeld => ?_)
                (refine htk 0 198 ?_ rfl ?_ ?_; rotate_left; (intro w hSw; clear hSw; go_simp); (try with_reducible rfl); simp only [lsz, lss])
                (refine htk 1 199 ?_ rfl ?_ ?_; rotate_left; (intro w hSw; clear hSw; go_simp); (try with_reducible rfl); simp only [lsz, lss])
                (refine htk 2 200 ?_ rfl ?_ ?_; rotate_left; (intro w hSw; clear hSw; go_simp); (try with_reducible rfl); simp only [lsz, lss])
                (refine htk 3 201 (.string x) rfl ?_ ?_; (intro w hSw; have q0 := hSw.cell k _ HX.out; go_simp); simp only [lsz, lss])
                (refine htk 4 202 ?_ rfl ?_ ?_; rotate_left; (intro w hSw; clear hSw; go_simp); (try with_reducible rfl); simp only [lsz, lss])
                (refine htk 5 203 (.agg #[.int .i64 4, .string x, .int .i64 0, .int .i64 a]) rfl ?_ ?_; (intro w hSw; clear hSw; go_simp; try omega); simp only [lsz, lss])
                (refine htk 6 204 ?_ rfl ?_ ?_; rotate_left; (intro w hSw; clear hSw; go_simp); (try with_reducible rfl); simp only [lsz, lss])
                (refine htk 7 205 ?_ rfl ?_ ?_; rotate_left; (intro w hSw; clear hSw; go_simp); (try with_reducible rfl); simp only [lsz, lss])
                (refine htk 8 206 ?_ rfl ?_ ?_; rotate_left; (intro w hSw; clear hSw; go_simp); (try with_reducible rfl); simp only [lsz, lss])
                (refine htk 9 207 ?_ rfl ?_ ?_; rotate_left; (intro w hSw; clear hSw; go_simp); (try with_reducible rfl); simp only [lsz, lss])
                (refine htk 10 208 (.string x) rfl ?_ ?_; (intro w hSw; have q0 := hSw.cell k _ HX.out; go_simp); simp only [lsz, lss])
                (refine htk 11 209 ?_ rfl ?_ ?_; rotate_left; (intro w hSw; clear hSw; go_simp); (try with_reducible rfl); simp only [lsz, lss])
                (refine htk 12 210 (.int .i64 ((a : Int) + (x.size : Int))) rfl ?_ ?_; (intro w hSw; clear hSw; go_simp; try first | exact IntWalk.i64_in _ (by omega) | omega); simp only [lsz, lss])
                refine held_store 13 rfl (by kernel_rfl) (by kernel_rfl) (by kernel_rfl) 67 (.tmp 6) (.tmp 203) (by kernel_rfl) (w.heap.size + 1) [.int .i64 4, .string x, .int .i64 0, .int .i64 a] _ _ (by kernel_rfl) (by kernel_rfl) HKr.out infoSz4 rfl (tok_all _ _ _ _) (HSr.out.far_row hgne _) (fun hS => ?_)
                (refine htk 14 7 ?_ rfl ?_ ?_; rotate_left; (intro w hSw; clear hSw; go_simp); (try with_reducible rfl); simp only [lsz, lss])
                (refine htk 15 8 ?_ rfl ?_ ?_; rotate_left; (intro w hSw; clear hSw; go_simp); (try with_reducible rfl); simp only [lsz, lss])
                refine wpAnyH_done (by kernel_rfl) ?_ _
                go_wp2
                refine oneEnd 4 x 0 a x.size _ true rfl (Blk.row HKr.out _) rfl rfl rfl (by first | rfl | omega) ?_ (below_setRow (Below.drew (belowN nq (HB1.out.trans (HBr.out.mono (by omega))))) (by omega) _)
                rw [Htk.out, Hit.out]
                exact ⟨rfl, rfl, rfl, rfl, rfl, rfl⟩)
            · have hcmp : ((s.extract a (a + x.size)).toList == x.toList) = false := by rw [toList_beq]; exact decide_eq_false heq
              have Hn := Lib.hid (Hnext.out (fun hp => heq (Hpe.out.1 hp).2))
              have HBq := Lib.hid HBr.out
              clear heq Hhit Hnext Hpe hfit
              have e9 := HE9.out
              go_upto_region 21 with fail
              go_quiet (fail)
              clear e9
              all_goals go_wp2_with fail
              all_goals exact ⟨⟨k + 1, by omega, by go_num, Hn.out, belowN _ HBq.out⟩, by simp [intOf]; omega⟩
          · have Hn := Lib.hid (Hnext.out (fun hp => hfit (Hpe.out.1 hp).1))
            have HBq := Lib.hid HBr.out
            have hfi : ¬ (x.size : Int) ≤ (s.size : Int) - (a : Int) := by omega
            clear Hhit Hnext Hpe hfit
            go_upto_region 21 with fail
            go_quiet (fail)
            all_goals go_wp2_with fail
            all_goals exact ⟨⟨k + 1, by omega, by go_num, Hn.out, belowN _ HBq.out⟩, by simp [intOf]; omega⟩
        · obtain rfl : k = 18 := by omega
          have Hm := Lib.hid (sign_miss (sl s a) (fun j hj => HM.out j hj hj))
          have HKr := Lib.hid (HK1.out.keep HBr.out)
          go_wp2_with (refine wpList_store_row rfl 67 _ _ rfl (w.heap.size + 1) #[.int .i64 0, .string ⟨#[]⟩, .int .i64 0, .int .i64 0] rfl rfl 67 _ HKr.out (by kernel_rfl) rfl (by kernel_rfl) ?_)
          exact oneEnd 0 ⟨#[]⟩ 0 0 (-(a : Int)) 0 false rfl (Blk.row HKr.out [.int .i64 0, .string ⟨#[]⟩, .int .i64 0, .int .i64 0]) rfl rfl rfl (by omega) (by rw [Htk.out, Hm.out]; exact rfl) (below_setRow (HB1.out.trans (HBr.out.mono (by omega))) (by omega) _)

/-- The reference's token at a place. -/
theorem rOne (s : ByteArray) (a : Nat) (t : Tok) (w : World) (hs : s.size ≤ 16384) (ha : a < s.size) :
    Calls Tryd.prog 86 #[.string s, .int .i64 a, .agg #[.int .i64 t.kind, .string ⟨t.text.toArray⟩, .int .i64 t.num, .int .i64 t.pos]] w (OneR s a (frI t) w) := by
  by_cases hlt : letC s[a] = true
  · exact rOne_word s a t w hs ha hlt
  · have hlt : letC s[a] = false := by simpa using hlt
    by_cases hq : s[a] = 34
    · exact rOne_text s a t w hs ha hq
    · by_cases hd : dgC s[a] = true
      · exact rOne_num s a t w hs ha hlt hq (.inl hd)
      · have hd : dgC s[a] = false := by simpa using hd
        by_cases h45 : s[a] = 45 ∧ frI t = true ∧ headIs dgC (sl s (a + 1)) = true
        · exact rOne_num s a t w hs ha hlt hq (.inr h45)
        · refine rOne_sign s a t w hs ha hlt hq hd (fun e => ?_)
          cases hf : frI t with
          | false => exact .inl rfl
          | true =>
            cases hh : headIs dgC (sl s (a + 1)) with
            | false => exact .inr rfl
            | true => exact absurd ⟨e, hf, hh⟩ h45

end Go.Proofs.YtobelmipjanibaaDoor
