/- The reference's lexer: the token at a place. -/
import Derived.Test.YtpmbamfpmmdhcaaGreatK60
import Derived.Test.YtpmbamfpmmdhcaaGreatK61
import Derived.Test.YtpmbamfpmmdhcaaGreatK12
import Derived.Test.YtpmbamfpmmdhcaaGreatK1
set_option maxRecDepth 100000
set_option maxHeartbeats 16000000
set_option linter.unusedSimpArgs false
set_option linter.unusedVariables false
namespace Go.Proofs.YtpmbamfpmmdhcaaGreat
open Go.RowKit
set_option linter.unusedSimpArgs false
set_option linter.unusedVariables false
def frI (t : Tok) : Bool := t.kind == 0 || t.free
def OneR (s : ByteArray) (a : Nat) (free : Bool) (w : World) (e : Ending) (w' : World) : Prop :=
  ∃ (k : Int) (x : ByteArray) (v p n : Int) (ok : Bool), e = .returned (.tuple #[.agg #[.int .i64 k, .string x, .int .i64 v, .int .i64 p], .int .i64 (a + n), .bool ok]) ∧ TokIs (tokAt free (sl s a)) a k x v p n ok ∧ Below w.heap.size w w'
theorem oneEnd {s : ByteArray} {a : Nat} {free : Bool} {w W : World} {A : Act} (k : Int) (x : ByteArray) (v p n m : Int) (ok : Bool) (hp : A.tmps.getD 6 undef = .pointer (some ⟨w.heap.size + 1, 0, none⟩))
    (hg : Blk W (w.heap.size + 1) 65 [.int .i64 k, .string x, .int .i64 v, .int .i64 p]) (h7 : A.tmps.getD 7 undef = .int .i64 m) (h8 : A.tmps.getD 8 undef = .bool ok) (hdf : A.defers = []) (hm : m = a + n)
    (ht : TokIs (tokAt free (sl s a)) a k x v p n ok) (hb : Below w.heap.size w W) : bodyPost Tryz.prog Tryz.f32 (OneR s a free w) .ret A W :=
  bodyPost_agg_tmp2 (u := 7) (v := 8) rfl hp hg Tryz.underlying65 rfl (by kernel_rfl) hdf ⟨k, x, v, p, n, ok, by rw [h7, h8, hm], ht, hb⟩
theorem rOne_word (s : ByteArray) (a : Nat) (t : Tok) (w : World) (hs : s.size ≤ 16384) (ha : a < s.size) (hlt : letC s[a] = true) :
    Calls Tryz.prog 32 #[.string s, .int .i64 a, .agg #[.int .i64 t.kind, .string ⟨t.text.toArray⟩, .int .i64 t.num, .int .i64 t.pos]] w (OneR s a (frI t) w) := by
  go_enter Tryz.func32, Tryz.ntmps32; (try simp only [List.append_eq, List.cons_append, List.nil_append])
  go_upto_region 2 with fail
  have k1 := two_at w [.int .i64 t.kind, .string ⟨t.text.toArray⟩, .int .i64 t.num, .int .i64 t.pos] [.int .i64 0, .string ⟨#[]⟩, .int .i64 0, .int .i64 0] 65 65
  have k2 := two_at' w (.cells #[.int .i64 t.kind, .string ⟨t.text.toArray⟩, .int .i64 t.num, .int .i64 t.pos] 65) [.int .i64 0, .string ⟨#[]⟩, .int .i64 0, .int .i64 0] 65
  have kb := two_below w (.cells #[.int .i64 t.kind, .string ⟨t.text.toArray⟩, .int .i64 t.num, .int .i64 t.pos] 65) (.cells #[.int .i64 0, .string ⟨#[]⟩, .int .i64 0, .int .i64 0] 65)
  obtain ⟨X, hX⟩ : ∃ X, ((w.alloc (.cells #[.int .i64 t.kind, .string ⟨t.text.toArray⟩, .int .i64 t.num, .int .i64 t.pos] 65)).alloc (.cells #[.int .i64 0, .string ⟨#[]⟩, .int .i64 0, .int .i64 0] 65)) = X := ⟨_, rfl⟩
  have kk1 : Blk X w.heap.size 65 [.int .i64 t.kind, .string ⟨t.text.toArray⟩, .int .i64 t.num, .int .i64 t.pos] := by rw [← hX]; exact k1
  have kk2 : Blk X (w.heap.size + 1) 65 [.int .i64 0, .string ⟨#[]⟩, .int .i64 0, .int .i64 0] := by rw [← hX]; exact k2
  rw [hX] at kb ⊢
  clear hX k1 k2
  have HK := Lib.hid kk2; clear kk2
  have HB := Lib.hid kb; clear kb
  go_cut [10] from 18 to 41 (fun s10 wx => s10 = .bool (frI t) ∧ wx = X)
  case first =>
    have d0 := kk1.cell 0 _ rfl; have d1 := kk1.cell 1 _ rfl; have d2 := kk1.cell 2 _ rfl; have d3 := kk1.cell 3 _ rfl
    clear kk1
    go_wp2
    all_goals go_meet
    all_goals refine ⟨?_, rfl⟩
    all_goals (congr 1)
    all_goals
      rw [Bool.eq_iff_iff]
      simp only [frI, Tok.free, Bool.and_eq_true, Bool.or_eq_true, Bool.not_eq_true', beq_iff_eq, bne_iff_ne, ne_eq, beq_eq_false_iff_ne]
      simp [*]
  case rest =>
    obtain ⟨rfl, rfl⟩ := hcut
    have hsX := HB.out.size
    have ha' : (a : Int) < (s.size : Int) := by omega
    have HL0 := Lib.hid (fun wx => rLetter s[a] wx)
    rw [hlt] at HL0
    have Htk := Lib.hid (tokAt_word (frI t) ha hlt)
    go_wp2_with (go_at_call 67; refine (HL0.out _).mono ?_; rintro e w' ⟨rfl, rfl⟩)
    go_loop [9] (fun x => ∃ k : Nat, a ≤ k ∧ k ≤ s.size ∧ x = .int .i64 k ∧ ((sl s a).take (k - a)).all wordC = true) (fun x => s.size - (intOf x).toNat)
    case atStart => exact ⟨a, Nat.le_refl _, by omega, rfl, by simp⟩
    case round =>
      obtain ⟨k, hak, hk, rfl, hal⟩ := hrel
      have hcase : (k < s.size ∧ headIs wordC (sl s k) = true) ∨ (headIs wordC (sl s k) = false ∧ a < k) := by
        by_cases hks : k < s.size
        · cases hw : headIs wordC (sl s k) with
          | true => exact .inl ⟨hks, rfl⟩
          | false =>
            refine .inr ⟨rfl, ?_⟩
            rcases Nat.lt_or_ge a k with h | h
            · exact h
            · obtain rfl : k = a := by omega
              rw [headIs_at ha] at hw
              simp [wordC, hlt] at hw
        · exact .inr ⟨headIs_end (by omega), by omega⟩
      rcases hcase with ⟨hks, hw⟩ | ⟨hend, hak2⟩
      · have hL := fun wx => rLetter s[k] wx
        have hD := fun wx => rDigit s[k] wx
        have hst : ((sl s a).take (k + 1 - a)).all wordC = true := by
          rw [sl_snoc hak hks, List.all_append, hal]
          rw [headIs_at hks] at hw
          simp [hw]
        rw [headIs_at hks] at hw
        have Hst := Lib.hid hst
        have hw' : letC s[k] = true ∨ (letC s[k] = false ∧ dgC s[k] = true) := by
          unfold wordC at hw
          cases h1 : letC s[k] with
          | true => exact .inl rfl
          | false => rw [h1] at hw; exact .inr ⟨rfl, by simpa using hw⟩
        clear hal hst hw HL0 hlt
        have hksi : (k : Int) < (s.size : Int) := by omega
        rcases hw' with h1 | ⟨h1, h2⟩
        · rw [h1] at hL
          have HL := Lib.hid hL
          clear hL hD h1
          go_wp2_with (go_at_call 67; refine (HL.out _).mono ?_; rintro e w' ⟨rfl, rfl⟩)
          exact ⟨⟨k + 1, by omega, by omega, by go_num, Hst.out⟩, by simp [intOf]; omega⟩
        · rw [h1] at hL
          rw [h2] at hD
          have HL := Lib.hid hL
          have HD := Lib.hid hD
          clear hL hD h1 h2
          go_wp2_with (first
            | (go_at_call 67; refine (HL.out _).mono ?_; rintro e w' ⟨rfl, rfl⟩)
            | (go_at_call 68; refine (HD.out _).mono ?_; rintro e w' ⟨rfl, rfl⟩))
          exact ⟨⟨k + 1, by omega, by omega, by go_num, Hst.out⟩, by simp [intOf]; omega⟩
      · obtain ⟨m, rfl⟩ : ∃ m, k = a + m := ⟨k - a, by omega⟩
        have hm0 : 0 < m := by omega
        rw [show a + m - a = m by omega] at hal
        have hrun : runN wordC (sl s a) = m := runN_eq (by rw [sl_length]; omega) hal (by rw [sl_drop]; exact hend)
        have hx := extract_sl s a m
        have e1 : sl (s.extract a (a + m)) 0 = (sl s a).take m := by rw [hx]; rfl
        have e2 : ((sl s a).take m).length = m := by rw [List.length_take, sl_length]; omega
        have e3 : headIs letC ((sl s a).take m) = true := by
          rw [sl_cons ha]
          cases m with
          | zero => omega
          | succ m => simpa [headIs] using hlt
        have hWd : wordS (sl (s.extract a (a + m)) 0) = decide (m ≤ 24) := by rw [e1, word_take _ e3 hal, e2]
        have htk := Htk.out
        rw [hrun] at htk
        have e4 : (s.extract a (a + m)).size ≤ maxLen := by
          rw [hx]; show ((sl s a).take m).toArray.size ≤ _
          simp only [List.size_toArray, e2]; unfold maxLen; omega
        have hW := fun X => rWord5 (s.extract a (a + m)) X e4
        rw [hWd] at hW
        have HW := Lib.hid hW
        have Hx := Lib.hid hx
        have HTk := Lib.hid htk
        have Hend := Lib.hid hend
        have hle1 : (a : Int) + (m : Int) ≤ (s.size : Int) := by omega
        have hle2 : (a : Int) ≤ (a : Int) + (m : Int) := by omega
        have hcast : ((a + m : Nat) : Int) = (a : Int) + (m : Int) := by omega
        clear hal hend hrun hWd hx htk e1 e2 e3 e4 hW hlt HL0
        have HKd := Lib.hid (Blk.drew HK.out)
        by_cases hks : a + m < s.size
        · have h1 : letC s[a + m] = false ∧ dgC s[a + m] = false := by
            have := Hend.out
            rw [headIs_at hks] at this
            simpa [wordC] using this
          have hL := fun wx => rLetter s[a + m] wx
          have hD := fun wx => rDigit s[a + m] wx
          rw [h1.1] at hL
          rw [h1.2] at hD
          have HL := Lib.hid hL
          have HD := Lib.hid hD
          clear hL hD h1
          have hksi : (a : Int) + (m : Int) < (s.size : Int) := by omega
          go_upto_region 6 with (first
            | (go_at_call 67; refine (HL.out _).mono ?_; rintro e w' ⟨rfl, rfl⟩)
            | (go_at_call 68; refine (HD.out _).mono ?_; rintro e w' ⟨rfl, rfl⟩))
          refine wp_region_held_drew (S := fun _ => True) (by kernel_rfl) trivial (fun hHeld => ?_)
          (refine htk 0 65 ?_ rfl ?_ ?_; rotate_left; (intro w hSw; clear hSw; go_simp); (try with_reducible rfl); simp only [lsz, lss])
          (refine htk 1 66 ?_ rfl ?_ ?_; rotate_left; (intro w hSw; clear hSw; go_simp); (try with_reducible rfl); simp only [lsz, lss])
          (refine htk 2 67 ?_ rfl ?_ ?_; rotate_left; (intro w hSw; clear hSw; go_simp); (try with_reducible rfl); simp only [lsz, lss])
          (refine htk 3 68 (.string (s.extract a (a + m))) rfl ?_ ?_; (intro w hSw; clear hSw; go_simp; first | done | (have e9 : ((a : Int) + (m : Int)).toNat = a + m := (by omega); simp only [e9])); simp only [lsz, lss])
          (refine htk 4 69 ?_ rfl ?_ ?_; rotate_left; (intro w hSw; clear hSw; go_simp); (try with_reducible rfl); simp only [lsz, lss])
          (refine htk 5 70 (.agg #[.int .i64 1, .string (s.extract a (a + m)), .int .i64 0, .int .i64 a]) rfl ?_ ?_; (intro w hSw; clear hSw; go_simp; try omega); simp only [lsz, lss])
          (refine htk 6 71 ?_ rfl ?_ ?_; rotate_left; (intro w hSw; clear hSw; go_simp); (try with_reducible rfl); simp only [lsz, lss])
          (refine htk 7 72 ?_ rfl ?_ ?_; rotate_left; (intro w hSw; clear hSw; go_simp); (try with_reducible rfl); simp only [lsz, lss])
          (refine htk 8 73 ?_ rfl ?_ ?_; rotate_left; (intro w hSw; clear hSw; go_simp); (try with_reducible rfl); simp only [lsz, lss])
          (refine htk 9 74 ?_ rfl ?_ ?_; rotate_left; (intro w hSw; clear hSw; go_simp); (try with_reducible rfl); simp only [lsz, lss])
          (refine htk 10 75 (.string (s.extract a (a + m))) rfl ?_ ?_; (intro w hSw; clear hSw; go_simp; first | done | (have e9 : ((a : Int) + (m : Int)).toNat = a + m := (by omega); simp only [e9])); simp only [lsz, lss])
          (refine hrd 11 rfl (fun K hK => ?_))
          rw [if_pos (by kernel_rfl)]
          go_simp
          refine (HW.out _).mono ?_
          rintro e' Xb ⟨rfl, rfl⟩
          dsimp only
          refine hK.out _ _ trivial (fun hHeld => ?_)
          clear hK K
          (try simp only [Act.put, lsa, lsz, lss])
          refine held_store 12 rfl (by kernel_rfl) (by kernel_rfl) (by kernel_rfl) 65 (.tmp 6) (.tmp 70) (by kernel_rfl) (w.heap.size + 1) [.int .i64 1, .string (s.extract a (a + m)), .int .i64 0, .int .i64 a] _ _ (by kernel_rfl) (by kernel_rfl) HKd.out infoSz4 rfl (tok_all _ _ _ _) trivial (fun hS => ?_)
          (refine htk 13 7 ?_ rfl ?_ ?_; rotate_left; (intro w hSw; clear hSw; go_simp); (try with_reducible rfl); simp only [lsz, lss])
          (refine htk 14 8 ?_ rfl ?_ ?_; rotate_left; (intro w hSw; clear hSw; go_simp); (try with_reducible rfl); simp only [lsz, lss])
          refine wpAnyH_done (by kernel_rfl) ?_ _
          go_wp2
          refine oneEnd 1 (s.extract a (a + m)) 0 a m _ (decide (m ≤ 24)) rfl (Blk.row HKd.out _) rfl rfl rfl (by first | rfl | omega) ?_ (below_setRow (Below.drew HB.out) (by omega) _)
          rw [HTk.out, Hx.out]
          by_cases h : m ≤ 24
          · rw [if_pos h]; exact ⟨decide_eq_true h, rfl, rfl, rfl, rfl, rfl⟩
          · rw [if_neg h]; exact decide_eq_false h
        · have hksi : ¬ (a : Int) + (m : Int) < (s.size : Int) := by omega
          go_upto_region 6 with fail
          refine wp_region_held_drew (S := fun _ => True) (by kernel_rfl) trivial (fun hHeld => ?_)
          (refine htk 0 65 ?_ rfl ?_ ?_; rotate_left; (intro w hSw; clear hSw; go_simp); (try with_reducible rfl); simp only [lsz, lss])
          (refine htk 1 66 ?_ rfl ?_ ?_; rotate_left; (intro w hSw; clear hSw; go_simp); (try with_reducible rfl); simp only [lsz, lss])
          (refine htk 2 67 ?_ rfl ?_ ?_; rotate_left; (intro w hSw; clear hSw; go_simp); (try with_reducible rfl); simp only [lsz, lss])
          (refine htk 3 68 (.string (s.extract a (a + m))) rfl ?_ ?_; (intro w hSw; clear hSw; go_simp; first | done | (have e9 : ((a : Int) + (m : Int)).toNat = a + m := (by omega); simp only [e9])); simp only [lsz, lss])
          (refine htk 4 69 ?_ rfl ?_ ?_; rotate_left; (intro w hSw; clear hSw; go_simp); (try with_reducible rfl); simp only [lsz, lss])
          (refine htk 5 70 (.agg #[.int .i64 1, .string (s.extract a (a + m)), .int .i64 0, .int .i64 a]) rfl ?_ ?_; (intro w hSw; clear hSw; go_simp; try omega); simp only [lsz, lss])
          (refine htk 6 71 ?_ rfl ?_ ?_; rotate_left; (intro w hSw; clear hSw; go_simp); (try with_reducible rfl); simp only [lsz, lss])
          (refine htk 7 72 ?_ rfl ?_ ?_; rotate_left; (intro w hSw; clear hSw; go_simp); (try with_reducible rfl); simp only [lsz, lss])
          (refine htk 8 73 ?_ rfl ?_ ?_; rotate_left; (intro w hSw; clear hSw; go_simp); (try with_reducible rfl); simp only [lsz, lss])
          (refine htk 9 74 ?_ rfl ?_ ?_; rotate_left; (intro w hSw; clear hSw; go_simp); (try with_reducible rfl); simp only [lsz, lss])
          (refine htk 10 75 (.string (s.extract a (a + m))) rfl ?_ ?_; (intro w hSw; clear hSw; go_simp; first | done | (have e9 : ((a : Int) + (m : Int)).toNat = a + m := (by omega); simp only [e9])); simp only [lsz, lss])
          (refine hrd 11 rfl (fun K hK => ?_))
          rw [if_pos (by kernel_rfl)]
          go_simp
          refine (HW.out _).mono ?_
          rintro e' Xb ⟨rfl, rfl⟩
          dsimp only
          refine hK.out _ _ trivial (fun hHeld => ?_)
          clear hK K
          (try simp only [Act.put, lsa, lsz, lss])
          refine held_store 12 rfl (by kernel_rfl) (by kernel_rfl) (by kernel_rfl) 65 (.tmp 6) (.tmp 70) (by kernel_rfl) (w.heap.size + 1) [.int .i64 1, .string (s.extract a (a + m)), .int .i64 0, .int .i64 a] _ _ (by kernel_rfl) (by kernel_rfl) HKd.out infoSz4 rfl (tok_all _ _ _ _) trivial (fun hS => ?_)
          (refine htk 13 7 ?_ rfl ?_ ?_; rotate_left; (intro w hSw; clear hSw; go_simp); (try with_reducible rfl); simp only [lsz, lss])
          (refine htk 14 8 ?_ rfl ?_ ?_; rotate_left; (intro w hSw; clear hSw; go_simp); (try with_reducible rfl); simp only [lsz, lss])
          refine wpAnyH_done (by kernel_rfl) ?_ _
          go_wp2
          refine oneEnd 1 (s.extract a (a + m)) 0 a m _ (decide (m ≤ 24)) rfl (Blk.row HKd.out _) rfl rfl rfl (by first | rfl | omega) ?_ (below_setRow (Below.drew HB.out) (by omega) _)
          rw [HTk.out, Hx.out]
          by_cases h : m ≤ 24
          · rw [if_pos h]; exact ⟨decide_eq_true h, rfl, rfl, rfl, rfl, rfl⟩
          · rw [if_neg h]; exact decide_eq_false h
theorem rOne_text (s : ByteArray) (a : Nat) (t : Tok) (w : World) (hs : s.size ≤ 16384) (ha : a < s.size) (hq : s[a] = 34) :
    Calls Tryz.prog 32 #[.string s, .int .i64 a, .agg #[.int .i64 t.kind, .string ⟨t.text.toArray⟩, .int .i64 t.num, .int .i64 t.pos]] w (OneR s a (frI t) w) := by
  go_enter Tryz.func32, Tryz.ntmps32; (try simp only [List.append_eq, List.cons_append, List.nil_append])
  go_upto_region 2 with fail
  have k1 := two_at w [.int .i64 t.kind, .string ⟨t.text.toArray⟩, .int .i64 t.num, .int .i64 t.pos] [.int .i64 0, .string ⟨#[]⟩, .int .i64 0, .int .i64 0] 65 65
  have k2 := two_at' w (.cells #[.int .i64 t.kind, .string ⟨t.text.toArray⟩, .int .i64 t.num, .int .i64 t.pos] 65) [.int .i64 0, .string ⟨#[]⟩, .int .i64 0, .int .i64 0] 65
  have kb := two_below w (.cells #[.int .i64 t.kind, .string ⟨t.text.toArray⟩, .int .i64 t.num, .int .i64 t.pos] 65) (.cells #[.int .i64 0, .string ⟨#[]⟩, .int .i64 0, .int .i64 0] 65)
  obtain ⟨X, hX⟩ : ∃ X, ((w.alloc (.cells #[.int .i64 t.kind, .string ⟨t.text.toArray⟩, .int .i64 t.num, .int .i64 t.pos] 65)).alloc (.cells #[.int .i64 0, .string ⟨#[]⟩, .int .i64 0, .int .i64 0] 65)) = X := ⟨_, rfl⟩
  have kk1 : Blk X w.heap.size 65 [.int .i64 t.kind, .string ⟨t.text.toArray⟩, .int .i64 t.num, .int .i64 t.pos] := by rw [← hX]; exact k1
  have kk2 : Blk X (w.heap.size + 1) 65 [.int .i64 0, .string ⟨#[]⟩, .int .i64 0, .int .i64 0] := by rw [← hX]; exact k2
  rw [hX] at kb ⊢
  clear hX k1 k2
  have HK := Lib.hid kk2; clear kk2
  have HB := Lib.hid kb; clear kb
  go_cut [10] from 18 to 41 (fun s10 wx => s10 = .bool (frI t) ∧ wx = X)
  case first =>
    have d0 := kk1.cell 0 _ rfl; have d1 := kk1.cell 1 _ rfl; have d2 := kk1.cell 2 _ rfl; have d3 := kk1.cell 3 _ rfl
    clear kk1
    go_wp2
    all_goals go_meet
    all_goals refine ⟨?_, rfl⟩
    all_goals (congr 1)
    all_goals
      rw [Bool.eq_iff_iff]
      simp only [frI, Tok.free, Bool.and_eq_true, Bool.or_eq_true, Bool.not_eq_true', beq_iff_eq, bne_iff_ne, ne_eq, beq_eq_false_iff_ne]
      simp [*]
  case rest =>
    obtain ⟨rfl, rfl⟩ := hcut
    have hsX := HB.out.size
    have ha' : (a : Int) < (s.size : Int) := by omega
    have HL0 := Lib.hid (fun wx => rLetter s[a] wx)
    rw [show letC s[a] = false by rw [hq]; rfl] at HL0
    have HD0 := Lib.hid (fun wx => rDigit s[a] wx)
    rw [show dgC s[a] = false by rw [hq]; rfl] at HD0
    have q1 : ((s[a].toNat : Int) == 34) = true := by rw [hq]; rfl
    have q2 : ((s[a].toNat : Int) == 45) = false := by rw [hq]; rfl
    have htk : tokAt (frI t) (sl s a) = (match textAt (sl s (a + 1)) with
        | some (x, n) => if x.length ≤ 64 then some (⟨3, x, 0, 0⟩, n + 1) else none
        | none => none) := by
      rw [sl_cons ha, hq]
      simp only [tokAt, show letC 34 = false from rfl, Bool.false_eq_true, if_false, beq_self_eq_true, if_true]
      cases textAt (sl s (a + 1)) with
      | none => rfl
      | some x => rfl
    have hT := fun X => rText5 s a X hs ha hq
    unfold txt5 at hT
    have Htk := Lib.hid htk; clear htk
    clear hq
    cases htx : textAt (sl s (a + 1)) with
    | none =>
      rw [htx] at hT Htk
      simp only at hT Htk
      have HT := Lib.hid hT; clear hT htx
      go_wp2_with (first
        | (go_at_call 67; refine (HL0.out _).mono ?_; rintro e w' ⟨rfl, rfl⟩)
        | (go_at_call 68; refine (HD0.out _).mono ?_; rintro e w' ⟨rfl, rfl⟩)
        | (go_at_call 71; refine (HT.out _).mono ?_; rintro e w1 ⟨rfl, hb1⟩; have HK1 := Lib.hid (HK.out.keep hb1); have HB1 := Lib.hid (HB.out.trans (hb1.mono hsX)); clear hb1)
        | (refine wpList_store_row rfl 65 _ _ rfl (w.heap.size + 1) #[.int .i64 3, .string ⟨#[]⟩, .int .i64 0, .int .i64 a] rfl rfl 65 _ HK1.out (by kernel_rfl) rfl (by kernel_rfl) ?_))
      exact oneEnd 3 ⟨#[]⟩ 0 a (-(a : Int)) 0 false rfl (Blk.row HK1.out [.int .i64 3, .string ⟨#[]⟩, .int .i64 0, .int .i64 a]) rfl rfl rfl (by omega) (by rw [Htk.out]; exact rfl) (below_setRow HB1.out (by omega) _)
    | some y =>
      obtain ⟨x, n⟩ := y
      rw [htx] at hT Htk
      simp only at hT Htk
      have HT := Lib.hid hT; clear hT htx
      go_wp2_with (first
        | (go_at_call 67; refine (HL0.out _).mono ?_; rintro e w' ⟨rfl, rfl⟩)
        | (go_at_call 68; refine (HD0.out _).mono ?_; rintro e w' ⟨rfl, rfl⟩)
        | (go_at_call 71; refine (HT.out _).mono ?_; rintro e w1 ⟨rfl, hb1⟩; have HK1 := Lib.hid (HK.out.keep hb1); have HB1 := Lib.hid (HB.out.trans (hb1.mono hsX)); clear hb1)
        | (refine wpList_store_row rfl 65 _ _ rfl (w.heap.size + 1) #[.int .i64 3, .string ⟨x.toArray⟩, .int .i64 0, .int .i64 a] rfl rfl 65 _ HK1.out (by kernel_rfl) rfl (by kernel_rfl) ?_))
      refine oneEnd 3 ⟨x.toArray⟩ 0 a (n + 1) _ (decide ((x.length : Int) ≤ 64)) rfl (Blk.row HK1.out [.int .i64 3, .string ⟨x.toArray⟩, .int .i64 0, .int .i64 a]) rfl rfl rfl (by show ((a + 1 + n : Nat) : Int) = _; omega) ?_ (below_setRow HB1.out (by omega) _)
      rw [Htk.out]
      by_cases h : x.length ≤ 64
      · simp only [if_pos h]; exact ⟨decide_eq_true (by omega), rfl, rfl, rfl, rfl, by simp⟩
      · simp only [if_neg h]; exact decide_eq_false (by omega)
theorem rOne_num (s : ByteArray) (a : Nat) (t : Tok) (w : World) (hs : s.size ≤ 16384) (ha : a < s.size) (hlt : letC s[a] = false) (hq : s[a] ≠ 34) (hcase : dgC s[a] = true ∨ (s[a] = 45 ∧ frI t = true ∧ headIs dgC (sl s (a + 1)) = true)) :
    Calls Tryz.prog 32 #[.string s, .int .i64 a, .agg #[.int .i64 t.kind, .string ⟨t.text.toArray⟩, .int .i64 t.num, .int .i64 t.pos]] w (OneR s a (frI t) w) := by
  go_enter Tryz.func32, Tryz.ntmps32; (try simp only [List.append_eq, List.cons_append, List.nil_append])
  go_upto_region 2 with fail
  have k1 := two_at w [.int .i64 t.kind, .string ⟨t.text.toArray⟩, .int .i64 t.num, .int .i64 t.pos] [.int .i64 0, .string ⟨#[]⟩, .int .i64 0, .int .i64 0] 65 65
  have k2 := two_at' w (.cells #[.int .i64 t.kind, .string ⟨t.text.toArray⟩, .int .i64 t.num, .int .i64 t.pos] 65) [.int .i64 0, .string ⟨#[]⟩, .int .i64 0, .int .i64 0] 65
  have kb := two_below w (.cells #[.int .i64 t.kind, .string ⟨t.text.toArray⟩, .int .i64 t.num, .int .i64 t.pos] 65) (.cells #[.int .i64 0, .string ⟨#[]⟩, .int .i64 0, .int .i64 0] 65)
  obtain ⟨X, hX⟩ : ∃ X, ((w.alloc (.cells #[.int .i64 t.kind, .string ⟨t.text.toArray⟩, .int .i64 t.num, .int .i64 t.pos] 65)).alloc (.cells #[.int .i64 0, .string ⟨#[]⟩, .int .i64 0, .int .i64 0] 65)) = X := ⟨_, rfl⟩
  have kk1 : Blk X w.heap.size 65 [.int .i64 t.kind, .string ⟨t.text.toArray⟩, .int .i64 t.num, .int .i64 t.pos] := by rw [← hX]; exact k1
  have kk2 : Blk X (w.heap.size + 1) 65 [.int .i64 0, .string ⟨#[]⟩, .int .i64 0, .int .i64 0] := by rw [← hX]; exact k2
  rw [hX] at kb ⊢
  clear hX k1 k2
  have HK := Lib.hid kk2; clear kk2
  have HB := Lib.hid kb; clear kb
  go_cut [10] from 18 to 41 (fun s10 wx => s10 = .bool (frI t) ∧ wx = X)
  case first =>
    have d0 := kk1.cell 0 _ rfl; have d1 := kk1.cell 1 _ rfl; have d2 := kk1.cell 2 _ rfl; have d3 := kk1.cell 3 _ rfl
    clear kk1
    go_wp2
    all_goals go_meet
    all_goals refine ⟨?_, rfl⟩
    all_goals (congr 1)
    all_goals
      rw [Bool.eq_iff_iff]
      simp only [frI, Tok.free, Bool.and_eq_true, Bool.or_eq_true, Bool.not_eq_true', beq_iff_eq, bne_iff_ne, ne_eq, beq_eq_false_iff_ne]
      simp [*]
  case rest =>
    obtain ⟨rfl, rfl⟩ := hcut
    have hsX := HB.out.size
    have ha' : (a : Int) < (s.size : Int) := by omega
    have HL0 := Lib.hid (fun wx => rLetter s[a] wx)
    rw [hlt] at HL0
    have htk := tokAt_num (free := frI t) ha hlt hq hcase
    obtain ⟨m0, hm0⟩ : ∃ m0, runN dgC (sl s (a + 1)) = m0 := ⟨_, rfl⟩
    have hnl := runN_le dgC (sl s (a + 1))
    rw [sl_length, hm0] at hnl
    obtain ⟨m, hm⟩ : ∃ m, m0 + 1 = m := ⟨_, rfl⟩
    have hle : a + m ≤ s.size := by omega
    have hE : (s.extract a (a + m)).data.toList = (sl s a).take m := by rw [extract_sl]
    have hEs : (s.extract a (a + m)).size ≤ 16384 := by
      rw [ByteArray.size_extract]; omega
    have hcons : (sl s a).take m = s[a] :: (sl s (a + 1)).take m0 := by rw [sl_cons ha, ← hm, List.take_succ_cons]
    have hdig : ((sl s (a + 1)).take m0).all dgC = true := by rw [← hm0]; exact runN_all _ _
    have hN : ∀ X, Calls Tryz.prog 70 #[.string (s.extract a (a + m))] X (NumR (wholeOk ((sl s a).take m)) (wholeV ((sl s a).take m)) X) := by
      intro X
      rcases hcase with hd | ⟨h45, -, hh⟩
      · exact rNumberP _ _ X hEs hE (by rw [hcons, List.all_cons, hd, hdig]; rfl) (by rw [hcons]; simp)
      · have e2 : (sl s a).take m = 45 :: (sl s (a + 1)).take m0 := by rw [hcons, h45]
        have hne : (sl s (a + 1)).take m0 ≠ [] := by
          rw [← hm0]
          cases hc : sl s (a + 1) with
          | nil => rw [hc] at hh; simp [headIs] at hh
          | cons c r => rw [hc] at hh; simp only [headIs] at hh; simp [runN, hh]
        rw [e2]
        exact rNumberN _ _ X hEs (by rw [hE, e2]) hdig hne
    have htk2 : tokAt (frI t) (sl s a) = if wholeOk ((sl s a).take m) && !headIs letC (sl s (a + m)) then some (⟨2, (sl s a).take m, wholeV ((sl s a).take m), 0⟩, m) else none := by
      rw [htk]; unfold numAt; rw [hm0, hm]
    have hx := extract_sl s a m
    obtain ⟨L, hL⟩ : ∃ L, (sl s a).take m = L := ⟨_, rfl⟩
    rw [hL] at hN htk2 hx
    have HN := Lib.hid hN
    have HTk := Lib.hid htk2
    have Hx := Lib.hid hx
    have HM0 := Lib.hid hm0
    have HM := Lib.hid hm
    have hcast : ((a + m : Nat) : Int) = (a : Int) + (m : Int) := by omega
    have hle1 : (a : Int) + (m : Int) ≤ (s.size : Int) := by omega
    have hle2 : (a : Int) ≤ (a : Int) + (m : Int) := by omega
    have HKd := Lib.hid (Blk.drew HK.out)
    have hm1 : 1 ≤ m := by omega
    have hpre : (dgC s[a] = true) ∨ (dgC s[a] = false ∧ ((s[a].toNat : Int) == 45) = true ∧ frI t = true ∧ ∃ h : a + 1 < s.size, dgC s[a + 1] = true) := by
      rcases hcase with hd | ⟨h45, hf, hh⟩
      · exact .inl hd
      · refine .inr ⟨by rw [h45]; rfl, by rw [h45]; rfl, hf, ?_⟩
        by_cases h1 : a + 1 < s.size
        · exact ⟨h1, by rw [headIs_at h1] at hh; exact hh⟩
        · rw [headIs_end (by omega)] at hh; cases hh
    clear htk hE hEs hcons hdig hN htk2 hx hL hm0 hm hcase hlt hq hnl
    rcases hpre with hd | ⟨hd, h45, hf, h1, h2⟩
    · have hD0 := fun wx => rDigit s[a] wx
      rw [hd] at hD0
      have HD0 := Lib.hid hD0
      clear hD0 hd
      go_upto_region 9 with (first
        | (go_at_call 67; refine (HL0.out _).mono ?_; rintro e w' ⟨rfl, rfl⟩)
        | (go_at_call 68; refine (HD0.out _).mono ?_; rintro e w' ⟨rfl, rfl⟩))
      clear HD0 HL0
      go_wp2_with fail
      go_loop [9] (fun x => ∃ k : Nat, a + 1 ≤ k ∧ k ≤ s.size ∧ x = .int .i64 k ∧ ((sl s (a + 1)).take (k - (a + 1))).all dgC = true) (fun x => s.size - (intOf x).toNat)
      case atStart => exact ⟨a + 1, Nat.le_refl _, by omega, by go_num, by simp⟩
      case round =>
        obtain ⟨k, hak, hk, rfl, hal⟩ := hrel
        by_cases hgo : k < s.size ∧ headIs dgC (sl s k) = true
        · obtain ⟨hks, hw⟩ := hgo
          have hst : ((sl s (a + 1)).take (k + 1 - (a + 1))).all dgC = true := by
            rw [sl_snoc hak hks, List.all_append, hal]
            rw [headIs_at hks] at hw
            simp [hw]
          rw [headIs_at hks] at hw
          have hD := fun wx => rDigit s[k] wx
          rw [hw] at hD
          have HD := Lib.hid hD
          have Hst := Lib.hid hst
          have hksi : (k : Int) < (s.size : Int) := by omega
          clear hD hw hst hal
          go_wp2_with (go_at_call 68; refine (HD.out _).mono ?_; rintro e w' ⟨rfl, rfl⟩)
          exact ⟨⟨k + 1, by omega, by omega, by go_num, Hst.out⟩, by simp [intOf]; omega⟩
        · have hend : headIs dgC (sl s k) = false := by
            by_cases hks : k < s.size
            · cases h : headIs dgC (sl s k) with
              | false => rfl
              | true => exact absurd ⟨hks, h⟩ hgo
            · exact headIs_end (by omega)
          have hrun : runN dgC (sl s (a + 1)) = k - (a + 1) := runN_eq (by rw [sl_length]; omega) hal (by rw [sl_drop, show a + 1 + (k - (a + 1)) = k by omega]; exact hend)
          obtain rfl : k = a + m := by have h1 := HM0.out; have h2 := HM.out; rw [hrun] at h1; omega
          have Hend := Lib.hid hend
          clear hgo hend hrun hal
          by_cases hks : a + m < s.size
          · have hD := fun wx => rDigit s[a + m] wx
            rw [show dgC s[a + m] = false by have := Hend.out; rw [headIs_at hks] at this; exact this] at hD
            have HD := Lib.hid hD
            clear hD
            have hksi : (a : Int) + (m : Int) < (s.size : Int) := by omega
            go_upto_region 13 with (first
              | (go_at_call 68; refine (HD.out _).mono ?_; rintro e w' ⟨rfl, rfl⟩)
              | (go_at_call 70; refine (HN.out _).mono ?_; rintro e w' ⟨⟨x, rfl, hx⟩, rfl⟩))
            cases hok : wholeOk L with
            | false =>
              have Hok := Lib.hid hok
              clear hok hx
              refine wp_region_held_drew (S := fun _ => True) (by kernel_rfl) trivial (fun hHeld => ?_)
              (refine htk 0 125 ?_ rfl ?_ ?_; rotate_left; (intro w hSw; clear hSw; go_simp); (try with_reducible rfl); simp only [lsz, lss])
              (refine htk 1 126 ?_ rfl ?_ ?_; rotate_left; (intro w hSw; clear hSw; go_simp); (try with_reducible rfl); simp only [lsz, lss])
              (refine htk 2 127 ?_ rfl ?_ ?_; rotate_left; (intro w hSw; clear hSw; go_simp); (try with_reducible rfl); simp only [lsz, lss])
              (refine htk 3 128 (.string (s.extract a (a + m))) rfl ?_ ?_; (intro w hSw; clear hSw; go_simp; first | done | (have e9 : ((a : Int) + (m : Int)).toNat = a + m := (by omega); simp only [e9])); simp only [lsz, lss])
              (refine htk 4 129 ?_ rfl ?_ ?_; rotate_left; (intro w hSw; clear hSw; go_simp); (try with_reducible rfl); simp only [lsz, lss])
              (refine htk 5 130 ?_ rfl ?_ ?_; rotate_left; (intro w hSw; clear hSw; go_simp); (try with_reducible rfl); simp only [lsz, lss])
              (refine htk 6 131 (.agg #[.int .i64 2, .string (s.extract a (a + m)), .int .i64 x, .int .i64 a]) rfl ?_ ?_; (intro w hSw; clear hSw; go_simp; try omega); simp only [lsz, lss])
              (refine htk 7 132 ?_ rfl ?_ ?_; rotate_left; (intro w hSw; clear hSw; go_simp); (try with_reducible rfl); simp only [lsz, lss])
              (refine htk 8 133 ?_ rfl ?_ ?_; rotate_left; (intro w hSw; clear hSw; go_simp); (try with_reducible rfl); simp only [lsz, lss])
              (refine htk 9 134 ?_ rfl ?_ ?_; rotate_left; (intro w hSw; clear hSw; go_simp); (try with_reducible rfl); simp only [lsz, lss])
              (refine held_skip 10 135 rfl (by kernel_rfl) (by kernel_rfl) (by kernel_rfl) (by kernel_rfl) (fun _ _ _ h => h) (by kernel_rfl) (by assumption) ?_; simp only [lsz, lss])
              (refine held_skip 11 136 rfl (by kernel_rfl) (by kernel_rfl) (by kernel_rfl) (by kernel_rfl) (fun _ _ _ h => h) (by kernel_rfl) (by assumption) ?_; simp only [lsz, lss])
              (refine held_skip 12 137 rfl (by kernel_rfl) (by kernel_rfl) (by kernel_rfl) (by kernel_rfl) (fun _ _ _ h => h) (by kernel_rfl) (by assumption) ?_; simp only [lsz, lss])
              (refine held_skip 13 138 rfl (by kernel_rfl) (by kernel_rfl) (by kernel_rfl) (by kernel_rfl) (fun _ _ _ h => h) (by kernel_rfl) (by assumption) ?_; simp only [lsz, lss])
              (refine held_skip 14 139 rfl (by kernel_rfl) (by kernel_rfl) (by kernel_rfl) (by kernel_rfl) (fun _ _ _ h => h) (by kernel_rfl) (by assumption) ?_; simp only [lsz, lss])
              (refine held_skip 15 140 rfl (by kernel_rfl) (by kernel_rfl) (by kernel_rfl) (by kernel_rfl) (fun _ _ _ h => h) (by kernel_rfl) (by assumption) ?_; simp only [lsz, lss])
              (refine held_skip 16 141 rfl (by kernel_rfl) (by kernel_rfl) (by kernel_rfl) (by kernel_rfl) (fun _ _ _ h => h) (by kernel_rfl) (by assumption) ?_; simp only [lsz, lss])
              (refine held_skip 17 142 rfl (by kernel_rfl) (by kernel_rfl) (by kernel_rfl) (by kernel_rfl) (fun _ _ _ h => h) (by kernel_rfl) (by assumption) ?_; simp only [lsz, lss])
              (refine held_skip 18 143 rfl (by kernel_rfl) (by kernel_rfl) (by kernel_rfl) (by kernel_rfl) (fun _ _ _ h => h) (by kernel_rfl) (by assumption) ?_; simp only [lsz, lss])
              (refine held_skip 19 144 rfl (by kernel_rfl) (by kernel_rfl) (by kernel_rfl) (by kernel_rfl) (fun _ _ _ h => h) (by kernel_rfl) (by assumption) ?_; simp only [lsz, lss])
              (refine held_skip 20 145 rfl (by kernel_rfl) (by kernel_rfl) (by kernel_rfl) (by kernel_rfl) (fun _ _ _ h => h) (by kernel_rfl) (by assumption) ?_; simp only [lsz, lss])
              (refine htk 21 146 ?_ rfl ?_ ?_; rotate_left; (intro w hSw; clear hSw; go_simp); (try with_reducible rfl); simp only [lsz, lss])
              refine held_store 22 rfl (by kernel_rfl) (by kernel_rfl) (by kernel_rfl) 65 (.tmp 6) (.tmp 131) (by kernel_rfl) (w.heap.size + 1) [.int .i64 2, .string (s.extract a (a + m)), .int .i64 x, .int .i64 a] _ _ (by kernel_rfl) (by kernel_rfl) HKd.out infoSz4 rfl (tok_all _ _ _ _) trivial (fun hS => ?_)
              (refine htk 23 7 ?_ rfl ?_ ?_; rotate_left; (intro w hSw; clear hSw; go_simp); (try with_reducible rfl); simp only [lsz, lss])
              (refine htk 24 8 ?_ rfl ?_ ?_; rotate_left; (intro w hSw; clear hSw; go_simp); (try with_reducible rfl); simp only [lsz, lss])
              refine wpAnyH_done (by kernel_rfl) ?_ _
              go_wp2
              refine oneEnd 2 (s.extract a (a + m)) x a m _ false rfl (Blk.row HKd.out _) rfl rfl rfl (by first | rfl | omega) ?_ (below_setRow (Below.drew HB.out) (by omega) _)
              rw [HTk.out, Hok.out]; exact rfl
            | true =>
              have Hok := Lib.hid hok
              have Hxx := Lib.hid (hx hok)
              clear hok hx
              have hLm := fun X => rLetter s[a + m] X
              obtain ⟨b, hb⟩ : ∃ b, letC s[a + m] = b := ⟨_, rfl⟩
              rw [hb] at hLm
              have HLm := Lib.hid hLm
              have Hb := Lib.hid hb
              clear hLm hb
              have hne : ¬ (a : Int) + (m : Int) = (s.size : Int) := by omega
              have hneb : ((a : Int) + (m : Int) == (s.size : Int)) = false := beq_eq_false_iff_ne.2 hne
              refine wp_region_held_drew (S := fun _ => True) (by kernel_rfl) trivial (fun hHeld => ?_)
              (refine htk 0 125 ?_ rfl ?_ ?_; rotate_left; (intro w hSw; clear hSw; go_simp); (try with_reducible rfl); simp only [lsz, lss])
              (refine htk 1 126 ?_ rfl ?_ ?_; rotate_left; (intro w hSw; clear hSw; go_simp); (try with_reducible rfl); simp only [lsz, lss])
              (refine htk 2 127 ?_ rfl ?_ ?_; rotate_left; (intro w hSw; clear hSw; go_simp); (try with_reducible rfl); simp only [lsz, lss])
              (refine htk 3 128 (.string (s.extract a (a + m))) rfl ?_ ?_; (intro w hSw; clear hSw; go_simp; first | done | (have e9 : ((a : Int) + (m : Int)).toNat = a + m := (by omega); simp only [e9])); simp only [lsz, lss])
              (refine htk 4 129 ?_ rfl ?_ ?_; rotate_left; (intro w hSw; clear hSw; go_simp); (try with_reducible rfl); simp only [lsz, lss])
              (refine htk 5 130 ?_ rfl ?_ ?_; rotate_left; (intro w hSw; clear hSw; go_simp); (try with_reducible rfl); simp only [lsz, lss])
              (refine htk 6 131 (.agg #[.int .i64 2, .string (s.extract a (a + m)), .int .i64 x, .int .i64 a]) rfl ?_ ?_; (intro w hSw; clear hSw; go_simp; try omega); simp only [lsz, lss])
              (refine htk 7 132 ?_ rfl ?_ ?_; rotate_left; (intro w hSw; clear hSw; go_simp); (try with_reducible rfl); simp only [lsz, lss])
              (refine htk 8 133 ?_ rfl ?_ ?_; rotate_left; (intro w hSw; clear hSw; go_simp); (try with_reducible rfl); simp only [lsz, lss])
              (refine htk 9 134 ?_ rfl ?_ ?_; rotate_left; (intro w hSw; clear hSw; go_simp); (try with_reducible rfl); simp only [lsz, lss])
              (refine htk 10 135 ?_ rfl ?_ ?_; rotate_left; (intro w hSw; clear hSw; go_simp); (try with_reducible rfl); simp only [lsz, lss])
              (refine htk 11 136 ?_ rfl ?_ ?_; rotate_left; (intro w hSw; clear hSw; go_simp); (try with_reducible rfl); simp only [lsz, lss])
              (refine htk 12 137 ?_ rfl ?_ ?_; rotate_left; (intro w hSw; clear hSw; go_simp); (try with_reducible rfl); simp only [lsz, lss])
              (refine htk 13 138 (.bool false) rfl ?_ ?_; (intro w hSw; clear hSw; go_simp; try omega); simp only [lsz, lss])
              (refine htk 14 139 ?_ rfl ?_ ?_; rotate_left; (intro w hSw; clear hSw; go_simp); (try with_reducible rfl); simp only [lsz, lss])
              (refine htk 15 140 ?_ rfl ?_ ?_; rotate_left; (intro w hSw; clear hSw; go_simp); (try with_reducible rfl); simp only [lsz, lss])
              (refine htk 16 141 ?_ rfl ?_ ?_; rotate_left; (intro w hSw; clear hSw; go_simp); (try with_reducible rfl); simp only [lsz, lss])
              (refine htk 17 142 (.int .u8 (s[a + m].toNat : Int)) rfl ?_ ?_; (intro w hSw; clear hSw; go_simp; first | done | (have e9 : ((a : Int) + (m : Int)).toNat = a + m := (by omega); simp only [e9])); simp only [lsz, lss])
              (refine hrd 18 rfl (fun K hK => ?_))
              rw [if_pos (by kernel_rfl)]
              go_simp
              refine (HLm.out _).mono ?_
              rintro e' Xb ⟨rfl, rfl⟩
              dsimp only
              refine hK.out _ _ trivial (fun hHeld => ?_)
              clear hK K
              (try simp only [Act.put, lsa, lsz, lss])
              (refine htk 19 144 ?_ rfl ?_ ?_; rotate_left; (intro w hSw; clear hSw; go_simp); (try with_reducible rfl); simp only [lsz, lss])
              (refine htk 20 145 ?_ rfl ?_ ?_; rotate_left; (intro w hSw; clear hSw; go_simp); (try with_reducible rfl); simp only [lsz, lss])
              (refine htk 21 146 ?_ rfl ?_ ?_; rotate_left; (intro w hSw; clear hSw; go_simp); (try with_reducible rfl); simp only [lsz, lss])
              refine held_store 22 rfl (by kernel_rfl) (by kernel_rfl) (by kernel_rfl) 65 (.tmp 6) (.tmp 131) (by kernel_rfl) (w.heap.size + 1) [.int .i64 2, .string (s.extract a (a + m)), .int .i64 x, .int .i64 a] _ _ (by kernel_rfl) (by kernel_rfl) HKd.out infoSz4 rfl (tok_all _ _ _ _) trivial (fun hS => ?_)
              (refine htk 23 7 ?_ rfl ?_ ?_; rotate_left; (intro w hSw; clear hSw; go_simp); (try with_reducible rfl); simp only [lsz, lss])
              (refine htk 24 8 ?_ rfl ?_ ?_; rotate_left; (intro w hSw; clear hSw; go_simp); (try with_reducible rfl); simp only [lsz, lss])
              refine wpAnyH_done (by kernel_rfl) ?_ _
              go_wp2
              refine oneEnd 2 (s.extract a (a + m)) x a m _ (!b) rfl (Blk.row HKd.out _) rfl rfl rfl (by first | rfl | omega) ?_ (below_setRow (Below.drew HB.out) (by omega) _)
              rw [HTk.out, Hok.out, Hx.out, headIs_at hks, Hb.out]
              cases b with
              | true => exact rfl
              | false => exact ⟨rfl, rfl, rfl, Hxx.out, rfl, rfl⟩
          · have Hsz := Lib.hid (show a + m = s.size by omega)
            have hksi : ¬ (a : Int) + (m : Int) < (s.size : Int) := by have := Hsz.out; omega
            clear hks
            go_upto_region 13 with (go_at_call 70; refine (HN.out _).mono ?_; rintro e w' ⟨⟨x, rfl, hx⟩, rfl⟩)
            have hxe : (a : Int) + (m : Int) = (s.size : Int) := by have := Hsz.out; omega
            have hneb : ((a : Int) + (m : Int) == (s.size : Int)) = true := by rw [hxe]; simp
            have Hxe := Lib.hid hxe
            clear hxe
            cases hok : wholeOk L with
            | false =>
              have Hok := Lib.hid hok
              clear hok hx
              refine wp_region_held_drew (S := fun _ => True) (by kernel_rfl) trivial (fun hHeld => ?_)
              (refine htk 0 125 ?_ rfl ?_ ?_; rotate_left; (intro w hSw; clear hSw; go_simp); (try with_reducible rfl); simp only [lsz, lss])
              (refine htk 1 126 ?_ rfl ?_ ?_; rotate_left; (intro w hSw; clear hSw; go_simp); (try with_reducible rfl); simp only [lsz, lss])
              (refine htk 2 127 ?_ rfl ?_ ?_; rotate_left; (intro w hSw; clear hSw; go_simp); (try with_reducible rfl); simp only [lsz, lss])
              (refine htk 3 128 (.string (s.extract a (a + m))) rfl ?_ ?_; (intro w hSw; clear hSw; go_simp; first | done | (have e9 : ((a : Int) + (m : Int)).toNat = a + m := (by omega); simp only [e9])); simp only [lsz, lss])
              (refine htk 4 129 ?_ rfl ?_ ?_; rotate_left; (intro w hSw; clear hSw; go_simp); (try with_reducible rfl); simp only [lsz, lss])
              (refine htk 5 130 ?_ rfl ?_ ?_; rotate_left; (intro w hSw; clear hSw; go_simp); (try with_reducible rfl); simp only [lsz, lss])
              (refine htk 6 131 (.agg #[.int .i64 2, .string (s.extract a (a + m)), .int .i64 x, .int .i64 a]) rfl ?_ ?_; (intro w hSw; clear hSw; go_simp; try omega); simp only [lsz, lss])
              (refine htk 7 132 ?_ rfl ?_ ?_; rotate_left; (intro w hSw; clear hSw; go_simp); (try with_reducible rfl); simp only [lsz, lss])
              (refine htk 8 133 ?_ rfl ?_ ?_; rotate_left; (intro w hSw; clear hSw; go_simp); (try with_reducible rfl); simp only [lsz, lss])
              (refine htk 9 134 ?_ rfl ?_ ?_; rotate_left; (intro w hSw; clear hSw; go_simp); (try with_reducible rfl); simp only [lsz, lss])
              (refine held_skip 10 135 rfl (by kernel_rfl) (by kernel_rfl) (by kernel_rfl) (by kernel_rfl) (fun _ _ _ h => h) (by kernel_rfl) (by assumption) ?_; simp only [lsz, lss])
              (refine held_skip 11 136 rfl (by kernel_rfl) (by kernel_rfl) (by kernel_rfl) (by kernel_rfl) (fun _ _ _ h => h) (by kernel_rfl) (by assumption) ?_; simp only [lsz, lss])
              (refine held_skip 12 137 rfl (by kernel_rfl) (by kernel_rfl) (by kernel_rfl) (by kernel_rfl) (fun _ _ _ h => h) (by kernel_rfl) (by assumption) ?_; simp only [lsz, lss])
              (refine held_skip 13 138 rfl (by kernel_rfl) (by kernel_rfl) (by kernel_rfl) (by kernel_rfl) (fun _ _ _ h => h) (by kernel_rfl) (by assumption) ?_; simp only [lsz, lss])
              (refine held_skip 14 139 rfl (by kernel_rfl) (by kernel_rfl) (by kernel_rfl) (by kernel_rfl) (fun _ _ _ h => h) (by kernel_rfl) (by assumption) ?_; simp only [lsz, lss])
              (refine held_skip 15 140 rfl (by kernel_rfl) (by kernel_rfl) (by kernel_rfl) (by kernel_rfl) (fun _ _ _ h => h) (by kernel_rfl) (by assumption) ?_; simp only [lsz, lss])
              (refine held_skip 16 141 rfl (by kernel_rfl) (by kernel_rfl) (by kernel_rfl) (by kernel_rfl) (fun _ _ _ h => h) (by kernel_rfl) (by assumption) ?_; simp only [lsz, lss])
              (refine held_skip 17 142 rfl (by kernel_rfl) (by kernel_rfl) (by kernel_rfl) (by kernel_rfl) (fun _ _ _ h => h) (by kernel_rfl) (by assumption) ?_; simp only [lsz, lss])
              (refine held_skip 18 143 rfl (by kernel_rfl) (by kernel_rfl) (by kernel_rfl) (by kernel_rfl) (fun _ _ _ h => h) (by kernel_rfl) (by assumption) ?_; simp only [lsz, lss])
              (refine held_skip 19 144 rfl (by kernel_rfl) (by kernel_rfl) (by kernel_rfl) (by kernel_rfl) (fun _ _ _ h => h) (by kernel_rfl) (by assumption) ?_; simp only [lsz, lss])
              (refine held_skip 20 145 rfl (by kernel_rfl) (by kernel_rfl) (by kernel_rfl) (by kernel_rfl) (fun _ _ _ h => h) (by kernel_rfl) (by assumption) ?_; simp only [lsz, lss])
              (refine htk 21 146 ?_ rfl ?_ ?_; rotate_left; (intro w hSw; clear hSw; go_simp); (try with_reducible rfl); simp only [lsz, lss])
              refine held_store 22 rfl (by kernel_rfl) (by kernel_rfl) (by kernel_rfl) 65 (.tmp 6) (.tmp 131) (by kernel_rfl) (w.heap.size + 1) [.int .i64 2, .string (s.extract a (a + m)), .int .i64 x, .int .i64 a] _ _ (by kernel_rfl) (by kernel_rfl) HKd.out infoSz4 rfl (tok_all _ _ _ _) trivial (fun hS => ?_)
              (refine htk 23 7 ?_ rfl ?_ ?_; rotate_left; (intro w hSw; clear hSw; go_simp); (try with_reducible rfl); simp only [lsz, lss])
              (refine htk 24 8 ?_ rfl ?_ ?_; rotate_left; (intro w hSw; clear hSw; go_simp); (try with_reducible rfl); simp only [lsz, lss])
              refine wpAnyH_done (by kernel_rfl) ?_ _
              go_wp2
              refine oneEnd 2 (s.extract a (a + m)) x a m _ false rfl (Blk.row HKd.out _) rfl rfl rfl (by first | rfl | omega) ?_ (below_setRow (Below.drew HB.out) (by omega) _)
              rw [HTk.out, Hok.out]; exact rfl
            | true =>
              have Hok := Lib.hid hok
              have Hxx := Lib.hid (hx hok)
              clear hok hx
              refine wp_region_held_drew (S := fun _ => True) (by kernel_rfl) trivial (fun hHeld => ?_)
              (refine htk 0 125 ?_ rfl ?_ ?_; rotate_left; (intro w hSw; clear hSw; go_simp); (try with_reducible rfl); simp only [lsz, lss])
              (refine htk 1 126 ?_ rfl ?_ ?_; rotate_left; (intro w hSw; clear hSw; go_simp); (try with_reducible rfl); simp only [lsz, lss])
              (refine htk 2 127 ?_ rfl ?_ ?_; rotate_left; (intro w hSw; clear hSw; go_simp); (try with_reducible rfl); simp only [lsz, lss])
              (refine htk 3 128 (.string (s.extract a (a + m))) rfl ?_ ?_; (intro w hSw; clear hSw; go_simp; first | done | (have e9 : ((a : Int) + (m : Int)).toNat = a + m := (by omega); simp only [e9])); simp only [lsz, lss])
              (refine htk 4 129 ?_ rfl ?_ ?_; rotate_left; (intro w hSw; clear hSw; go_simp); (try with_reducible rfl); simp only [lsz, lss])
              (refine htk 5 130 ?_ rfl ?_ ?_; rotate_left; (intro w hSw; clear hSw; go_simp); (try with_reducible rfl); simp only [lsz, lss])
              (refine htk 6 131 (.agg #[.int .i64 2, .string (s.extract a (a + m)), .int .i64 x, .int .i64 a]) rfl ?_ ?_; (intro w hSw; clear hSw; go_simp; try omega); simp only [lsz, lss])
              (refine htk 7 132 ?_ rfl ?_ ?_; rotate_left; (intro w hSw; clear hSw; go_simp); (try with_reducible rfl); simp only [lsz, lss])
              (refine htk 8 133 ?_ rfl ?_ ?_; rotate_left; (intro w hSw; clear hSw; go_simp); (try with_reducible rfl); simp only [lsz, lss])
              (refine htk 9 134 ?_ rfl ?_ ?_; rotate_left; (intro w hSw; clear hSw; go_simp); (try with_reducible rfl); simp only [lsz, lss])
              (refine htk 10 135 ?_ rfl ?_ ?_; rotate_left; (intro w hSw; clear hSw; go_simp); (try with_reducible rfl); simp only [lsz, lss])
              (refine htk 11 136 ?_ rfl ?_ ?_; rotate_left; (intro w hSw; clear hSw; go_simp); (try with_reducible rfl); simp only [lsz, lss])
              (refine htk 12 137 ?_ rfl ?_ ?_; rotate_left; (intro w hSw; clear hSw; go_simp); (try with_reducible rfl); simp only [lsz, lss])
              (refine htk 13 138 (.bool true) rfl ?_ ?_; (intro w hSw; clear hSw; go_simp; try exact Hxe.out); simp only [lsz, lss])
              (refine htk 14 139 ?_ rfl ?_ ?_; rotate_left; (intro w hSw; clear hSw; go_simp); (try with_reducible rfl); simp only [lsz, lss])
              (refine held_skip 15 140 rfl (by kernel_rfl) (by kernel_rfl) (by kernel_rfl) (by kernel_rfl) (fun _ _ _ h => h) (by kernel_rfl) (by assumption) ?_; simp only [lsz, lss])
              (refine held_skip 16 141 rfl (by kernel_rfl) (by kernel_rfl) (by kernel_rfl) (by kernel_rfl) (fun _ _ _ h => h) (by kernel_rfl) (by assumption) ?_; simp only [lsz, lss])
              (refine held_skip 17 142 rfl (by kernel_rfl) (by kernel_rfl) (by kernel_rfl) (by kernel_rfl) (fun _ _ _ h => h) (by kernel_rfl) (by assumption) ?_; simp only [lsz, lss])
              (refine held_skip 18 143 rfl (by kernel_rfl) (by kernel_rfl) (by kernel_rfl) (by kernel_rfl) (fun _ _ _ h => h) (by kernel_rfl) (by assumption) ?_; simp only [lsz, lss])
              (refine held_skip 19 144 rfl (by kernel_rfl) (by kernel_rfl) (by kernel_rfl) (by kernel_rfl) (fun _ _ _ h => h) (by kernel_rfl) (by assumption) ?_; simp only [lsz, lss])
              (refine htk 20 145 ?_ rfl ?_ ?_; rotate_left; (intro w hSw; clear hSw; go_simp); (try with_reducible rfl); simp only [lsz, lss])
              (refine htk 21 146 ?_ rfl ?_ ?_; rotate_left; (intro w hSw; clear hSw; go_simp); (try with_reducible rfl); simp only [lsz, lss])
              refine held_store 22 rfl (by kernel_rfl) (by kernel_rfl) (by kernel_rfl) 65 (.tmp 6) (.tmp 131) (by kernel_rfl) (w.heap.size + 1) [.int .i64 2, .string (s.extract a (a + m)), .int .i64 x, .int .i64 a] _ _ (by kernel_rfl) (by kernel_rfl) HKd.out infoSz4 rfl (tok_all _ _ _ _) trivial (fun hS => ?_)
              (refine htk 23 7 ?_ rfl ?_ ?_; rotate_left; (intro w hSw; clear hSw; go_simp); (try with_reducible rfl); simp only [lsz, lss])
              (refine htk 24 8 ?_ rfl ?_ ?_; rotate_left; (intro w hSw; clear hSw; go_simp); (try with_reducible rfl); simp only [lsz, lss])
              refine wpAnyH_done (by kernel_rfl) ?_ _
              go_wp2
              refine oneEnd 2 (s.extract a (a + m)) x a m _ true rfl (Blk.row HKd.out _) rfl rfl rfl (by first | rfl | omega) ?_ (below_setRow (Below.drew HB.out) (by omega) _)
              rw [HTk.out, Hok.out, Hx.out, headIs_end (by have := Hsz.out; omega)]
              exact ⟨rfl, rfl, rfl, Hxx.out, rfl, rfl⟩
    · have hD0 := fun wx => rDigit s[a] wx
      rw [hd] at hD0
      have HD0 := Lib.hid hD0
      have hD1 := fun wx => rDigit s[a + 1] wx
      rw [h2] at hD1
      have HD1 := Lib.hid hD1
      clear hD0 hd hD1 h2
      have h1i : (a : Int) + 1 < (s.size : Int) := by omega
      have tk1 : True := trivial
      go_upto_region 9 with (first
        | (go_at_call 67; refine (HL0.out _).mono ?_; rintro e w' ⟨rfl, rfl⟩)
        | (go_at_call 68; have _t := tk1; clear tk1; refine (HD0.out _).mono ?_; rintro e w' ⟨rfl, rfl⟩; have tk2 : True := trivial)
        | (go_at_call 68; have _t := tk2; clear tk2; refine (HD1.out _).mono ?_; rintro e w' ⟨rfl, rfl⟩))
      clear HD0 HL0 HD1
      go_wp2_with fail
      go_loop [9] (fun x => ∃ k : Nat, a + 1 ≤ k ∧ k ≤ s.size ∧ x = .int .i64 k ∧ ((sl s (a + 1)).take (k - (a + 1))).all dgC = true) (fun x => s.size - (intOf x).toNat)
      case atStart => exact ⟨a + 1, Nat.le_refl _, by omega, by go_num, by simp⟩
      case round =>
        obtain ⟨k, hak, hk, rfl, hal⟩ := hrel
        by_cases hgo : k < s.size ∧ headIs dgC (sl s k) = true
        · obtain ⟨hks, hw⟩ := hgo
          have hst : ((sl s (a + 1)).take (k + 1 - (a + 1))).all dgC = true := by
            rw [sl_snoc hak hks, List.all_append, hal]
            rw [headIs_at hks] at hw
            simp [hw]
          rw [headIs_at hks] at hw
          have hD := fun wx => rDigit s[k] wx
          rw [hw] at hD
          have HD := Lib.hid hD
          have Hst := Lib.hid hst
          have hksi : (k : Int) < (s.size : Int) := by omega
          clear hD hw hst hal
          go_wp2_with (go_at_call 68; refine (HD.out _).mono ?_; rintro e w' ⟨rfl, rfl⟩)
          exact ⟨⟨k + 1, by omega, by omega, by go_num, Hst.out⟩, by simp [intOf]; omega⟩
        · have hend : headIs dgC (sl s k) = false := by
            by_cases hks : k < s.size
            · cases h : headIs dgC (sl s k) with
              | false => rfl
              | true => exact absurd ⟨hks, h⟩ hgo
            · exact headIs_end (by omega)
          have hrun : runN dgC (sl s (a + 1)) = k - (a + 1) := runN_eq (by rw [sl_length]; omega) hal (by rw [sl_drop, show a + 1 + (k - (a + 1)) = k by omega]; exact hend)
          obtain rfl : k = a + m := by have h1 := HM0.out; have h2 := HM.out; rw [hrun] at h1; omega
          have Hend := Lib.hid hend
          clear hgo hend hrun hal
          by_cases hks : a + m < s.size
          · have hD := fun wx => rDigit s[a + m] wx
            rw [show dgC s[a + m] = false by have := Hend.out; rw [headIs_at hks] at this; exact this] at hD
            have HD := Lib.hid hD
            clear hD
            have hksi : (a : Int) + (m : Int) < (s.size : Int) := by omega
            go_upto_region 13 with (first
              | (go_at_call 68; refine (HD.out _).mono ?_; rintro e w' ⟨rfl, rfl⟩)
              | (go_at_call 70; refine (HN.out _).mono ?_; rintro e w' ⟨⟨x, rfl, hx⟩, rfl⟩))
            cases hok : wholeOk L with
            | false =>
              have Hok := Lib.hid hok
              clear hok hx
              refine wp_region_held_drew (S := fun _ => True) (by kernel_rfl) trivial (fun hHeld => ?_)
              (refine htk 0 125 ?_ rfl ?_ ?_; rotate_left; (intro w hSw; clear hSw; go_simp); (try with_reducible rfl); simp only [lsz, lss])
              (refine htk 1 126 ?_ rfl ?_ ?_; rotate_left; (intro w hSw; clear hSw; go_simp); (try with_reducible rfl); simp only [lsz, lss])
              (refine htk 2 127 ?_ rfl ?_ ?_; rotate_left; (intro w hSw; clear hSw; go_simp); (try with_reducible rfl); simp only [lsz, lss])
              (refine htk 3 128 (.string (s.extract a (a + m))) rfl ?_ ?_; (intro w hSw; clear hSw; go_simp; first | done | (have e9 : ((a : Int) + (m : Int)).toNat = a + m := (by omega); simp only [e9])); simp only [lsz, lss])
              (refine htk 4 129 ?_ rfl ?_ ?_; rotate_left; (intro w hSw; clear hSw; go_simp); (try with_reducible rfl); simp only [lsz, lss])
              (refine htk 5 130 ?_ rfl ?_ ?_; rotate_left; (intro w hSw; clear hSw; go_simp); (try with_reducible rfl); simp only [lsz, lss])
              (refine htk 6 131 (.agg #[.int .i64 2, .string (s.extract a (a + m)), .int .i64 x, .int .i64 a]) rfl ?_ ?_; (intro w hSw; clear hSw; go_simp; try omega); simp only [lsz, lss])
              (refine htk 7 132 ?_ rfl ?_ ?_; rotate_left; (intro w hSw; clear hSw; go_simp); (try with_reducible rfl); simp only [lsz, lss])
              (refine htk 8 133 ?_ rfl ?_ ?_; rotate_left; (intro w hSw; clear hSw; go_simp); (try with_reducible rfl); simp only [lsz, lss])
              (refine htk 9 134 ?_ rfl ?_ ?_; rotate_left; (intro w hSw; clear hSw; go_simp); (try with_reducible rfl); simp only [lsz, lss])
              (refine held_skip 10 135 rfl (by kernel_rfl) (by kernel_rfl) (by kernel_rfl) (by kernel_rfl) (fun _ _ _ h => h) (by kernel_rfl) (by assumption) ?_; simp only [lsz, lss])
              (refine held_skip 11 136 rfl (by kernel_rfl) (by kernel_rfl) (by kernel_rfl) (by kernel_rfl) (fun _ _ _ h => h) (by kernel_rfl) (by assumption) ?_; simp only [lsz, lss])
              (refine held_skip 12 137 rfl (by kernel_rfl) (by kernel_rfl) (by kernel_rfl) (by kernel_rfl) (fun _ _ _ h => h) (by kernel_rfl) (by assumption) ?_; simp only [lsz, lss])
              (refine held_skip 13 138 rfl (by kernel_rfl) (by kernel_rfl) (by kernel_rfl) (by kernel_rfl) (fun _ _ _ h => h) (by kernel_rfl) (by assumption) ?_; simp only [lsz, lss])
              (refine held_skip 14 139 rfl (by kernel_rfl) (by kernel_rfl) (by kernel_rfl) (by kernel_rfl) (fun _ _ _ h => h) (by kernel_rfl) (by assumption) ?_; simp only [lsz, lss])
              (refine held_skip 15 140 rfl (by kernel_rfl) (by kernel_rfl) (by kernel_rfl) (by kernel_rfl) (fun _ _ _ h => h) (by kernel_rfl) (by assumption) ?_; simp only [lsz, lss])
              (refine held_skip 16 141 rfl (by kernel_rfl) (by kernel_rfl) (by kernel_rfl) (by kernel_rfl) (fun _ _ _ h => h) (by kernel_rfl) (by assumption) ?_; simp only [lsz, lss])
              (refine held_skip 17 142 rfl (by kernel_rfl) (by kernel_rfl) (by kernel_rfl) (by kernel_rfl) (fun _ _ _ h => h) (by kernel_rfl) (by assumption) ?_; simp only [lsz, lss])
              (refine held_skip 18 143 rfl (by kernel_rfl) (by kernel_rfl) (by kernel_rfl) (by kernel_rfl) (fun _ _ _ h => h) (by kernel_rfl) (by assumption) ?_; simp only [lsz, lss])
              (refine held_skip 19 144 rfl (by kernel_rfl) (by kernel_rfl) (by kernel_rfl) (by kernel_rfl) (fun _ _ _ h => h) (by kernel_rfl) (by assumption) ?_; simp only [lsz, lss])
              (refine held_skip 20 145 rfl (by kernel_rfl) (by kernel_rfl) (by kernel_rfl) (by kernel_rfl) (fun _ _ _ h => h) (by kernel_rfl) (by assumption) ?_; simp only [lsz, lss])
              (refine htk 21 146 ?_ rfl ?_ ?_; rotate_left; (intro w hSw; clear hSw; go_simp); (try with_reducible rfl); simp only [lsz, lss])
              refine held_store 22 rfl (by kernel_rfl) (by kernel_rfl) (by kernel_rfl) 65 (.tmp 6) (.tmp 131) (by kernel_rfl) (w.heap.size + 1) [.int .i64 2, .string (s.extract a (a + m)), .int .i64 x, .int .i64 a] _ _ (by kernel_rfl) (by kernel_rfl) HKd.out infoSz4 rfl (tok_all _ _ _ _) trivial (fun hS => ?_)
              (refine htk 23 7 ?_ rfl ?_ ?_; rotate_left; (intro w hSw; clear hSw; go_simp); (try with_reducible rfl); simp only [lsz, lss])
              (refine htk 24 8 ?_ rfl ?_ ?_; rotate_left; (intro w hSw; clear hSw; go_simp); (try with_reducible rfl); simp only [lsz, lss])
              refine wpAnyH_done (by kernel_rfl) ?_ _
              go_wp2
              refine oneEnd 2 (s.extract a (a + m)) x a m _ false rfl (Blk.row HKd.out _) rfl rfl rfl (by first | rfl | omega) ?_ (below_setRow (Below.drew HB.out) (by omega) _)
              rw [HTk.out, Hok.out]; exact rfl
            | true =>
              have Hok := Lib.hid hok
              have Hxx := Lib.hid (hx hok)
              clear hok hx
              have hLm := fun X => rLetter s[a + m] X
              obtain ⟨b, hb⟩ : ∃ b, letC s[a + m] = b := ⟨_, rfl⟩
              rw [hb] at hLm
              have HLm := Lib.hid hLm
              have Hb := Lib.hid hb
              clear hLm hb
              have hne : ¬ (a : Int) + (m : Int) = (s.size : Int) := by omega
              have hneb : ((a : Int) + (m : Int) == (s.size : Int)) = false := beq_eq_false_iff_ne.2 hne
              refine wp_region_held_drew (S := fun _ => True) (by kernel_rfl) trivial (fun hHeld => ?_)
              (refine htk 0 125 ?_ rfl ?_ ?_; rotate_left; (intro w hSw; clear hSw; go_simp); (try with_reducible rfl); simp only [lsz, lss])
              (refine htk 1 126 ?_ rfl ?_ ?_; rotate_left; (intro w hSw; clear hSw; go_simp); (try with_reducible rfl); simp only [lsz, lss])
              (refine htk 2 127 ?_ rfl ?_ ?_; rotate_left; (intro w hSw; clear hSw; go_simp); (try with_reducible rfl); simp only [lsz, lss])
              (refine htk 3 128 (.string (s.extract a (a + m))) rfl ?_ ?_; (intro w hSw; clear hSw; go_simp; first | done | (have e9 : ((a : Int) + (m : Int)).toNat = a + m := (by omega); simp only [e9])); simp only [lsz, lss])
              (refine htk 4 129 ?_ rfl ?_ ?_; rotate_left; (intro w hSw; clear hSw; go_simp); (try with_reducible rfl); simp only [lsz, lss])
              (refine htk 5 130 ?_ rfl ?_ ?_; rotate_left; (intro w hSw; clear hSw; go_simp); (try with_reducible rfl); simp only [lsz, lss])
              (refine htk 6 131 (.agg #[.int .i64 2, .string (s.extract a (a + m)), .int .i64 x, .int .i64 a]) rfl ?_ ?_; (intro w hSw; clear hSw; go_simp; try omega); simp only [lsz, lss])
              (refine htk 7 132 ?_ rfl ?_ ?_; rotate_left; (intro w hSw; clear hSw; go_simp); (try with_reducible rfl); simp only [lsz, lss])
              (refine htk 8 133 ?_ rfl ?_ ?_; rotate_left; (intro w hSw; clear hSw; go_simp); (try with_reducible rfl); simp only [lsz, lss])
              (refine htk 9 134 ?_ rfl ?_ ?_; rotate_left; (intro w hSw; clear hSw; go_simp); (try with_reducible rfl); simp only [lsz, lss])
              (refine htk 10 135 ?_ rfl ?_ ?_; rotate_left; (intro w hSw; clear hSw; go_simp); (try with_reducible rfl); simp only [lsz, lss])
              (refine htk 11 136 ?_ rfl ?_ ?_; rotate_left; (intro w hSw; clear hSw; go_simp); (try with_reducible rfl); simp only [lsz, lss])
              (refine htk 12 137 ?_ rfl ?_ ?_; rotate_left; (intro w hSw; clear hSw; go_simp); (try with_reducible rfl); simp only [lsz, lss])
              (refine htk 13 138 (.bool false) rfl ?_ ?_; (intro w hSw; clear hSw; go_simp; try omega); simp only [lsz, lss])
              (refine htk 14 139 ?_ rfl ?_ ?_; rotate_left; (intro w hSw; clear hSw; go_simp); (try with_reducible rfl); simp only [lsz, lss])
              (refine htk 15 140 ?_ rfl ?_ ?_; rotate_left; (intro w hSw; clear hSw; go_simp); (try with_reducible rfl); simp only [lsz, lss])
              (refine htk 16 141 ?_ rfl ?_ ?_; rotate_left; (intro w hSw; clear hSw; go_simp); (try with_reducible rfl); simp only [lsz, lss])
              (refine htk 17 142 (.int .u8 (s[a + m].toNat : Int)) rfl ?_ ?_; (intro w hSw; clear hSw; go_simp; first | done | (have e9 : ((a : Int) + (m : Int)).toNat = a + m := (by omega); simp only [e9])); simp only [lsz, lss])
              (refine hrd 18 rfl (fun K hK => ?_))
              rw [if_pos (by kernel_rfl)]
              go_simp
              refine (HLm.out _).mono ?_
              rintro e' Xb ⟨rfl, rfl⟩
              dsimp only
              refine hK.out _ _ trivial (fun hHeld => ?_)
              clear hK K
              (try simp only [Act.put, lsa, lsz, lss])
              (refine htk 19 144 ?_ rfl ?_ ?_; rotate_left; (intro w hSw; clear hSw; go_simp); (try with_reducible rfl); simp only [lsz, lss])
              (refine htk 20 145 ?_ rfl ?_ ?_; rotate_left; (intro w hSw; clear hSw; go_simp); (try with_reducible rfl); simp only [lsz, lss])
              (refine htk 21 146 ?_ rfl ?_ ?_; rotate_left; (intro w hSw; clear hSw; go_simp); (try with_reducible rfl); simp only [lsz, lss])
              refine held_store 22 rfl (by kernel_rfl) (by kernel_rfl) (by kernel_rfl) 65 (.tmp 6) (.tmp 131) (by kernel_rfl) (w.heap.size + 1) [.int .i64 2, .string (s.extract a (a + m)), .int .i64 x, .int .i64 a] _ _ (by kernel_rfl) (by kernel_rfl) HKd.out infoSz4 rfl (tok_all _ _ _ _) trivial (fun hS => ?_)
              (refine htk 23 7 ?_ rfl ?_ ?_; rotate_left; (intro w hSw; clear hSw; go_simp); (try with_reducible rfl); simp only [lsz, lss])
              (refine htk 24 8 ?_ rfl ?_ ?_; rotate_left; (intro w hSw; clear hSw; go_simp); (try with_reducible rfl); simp only [lsz, lss])
              refine wpAnyH_done (by kernel_rfl) ?_ _
              go_wp2
              refine oneEnd 2 (s.extract a (a + m)) x a m _ (!b) rfl (Blk.row HKd.out _) rfl rfl rfl (by first | rfl | omega) ?_ (below_setRow (Below.drew HB.out) (by omega) _)
              rw [HTk.out, Hok.out, Hx.out, headIs_at hks, Hb.out]
              cases b with
              | true => exact rfl
              | false => exact ⟨rfl, rfl, rfl, Hxx.out, rfl, rfl⟩
          · have Hsz := Lib.hid (show a + m = s.size by omega)
            have hksi : ¬ (a : Int) + (m : Int) < (s.size : Int) := by have := Hsz.out; omega
            clear hks
            go_upto_region 13 with (go_at_call 70; refine (HN.out _).mono ?_; rintro e w' ⟨⟨x, rfl, hx⟩, rfl⟩)
            have hxe : (a : Int) + (m : Int) = (s.size : Int) := by have := Hsz.out; omega
            have hneb : ((a : Int) + (m : Int) == (s.size : Int)) = true := by rw [hxe]; simp
            have Hxe := Lib.hid hxe
            clear hxe
            cases hok : wholeOk L with
            | false =>
              have Hok := Lib.hid hok
              clear hok hx
              refine wp_region_held_drew (S := fun _ => True) (by kernel_rfl) trivial (fun hHeld => ?_)
              (refine htk 0 125 ?_ rfl ?_ ?_; rotate_left; (intro w hSw; clear hSw; go_simp); (try with_reducible rfl); simp only [lsz, lss])
              (refine htk 1 126 ?_ rfl ?_ ?_; rotate_left; (intro w hSw; clear hSw; go_simp); (try with_reducible rfl); simp only [lsz, lss])
              (refine htk 2 127 ?_ rfl ?_ ?_; rotate_left; (intro w hSw; clear hSw; go_simp); (try with_reducible rfl); simp only [lsz, lss])
              (refine htk 3 128 (.string (s.extract a (a + m))) rfl ?_ ?_; (intro w hSw; clear hSw; go_simp; first | done | (have e9 : ((a : Int) + (m : Int)).toNat = a + m := (by omega); simp only [e9])); simp only [lsz, lss])
              (refine htk 4 129 ?_ rfl ?_ ?_; rotate_left; (intro w hSw; clear hSw; go_simp); (try with_reducible rfl); simp only [lsz, lss])
              (refine htk 5 130 ?_ rfl ?_ ?_; rotate_left; (intro w hSw; clear hSw; go_simp); (try with_reducible rfl); simp only [lsz, lss])
              (refine htk 6 131 (.agg #[.int .i64 2, .string (s.extract a (a + m)), .int .i64 x, .int .i64 a]) rfl ?_ ?_; (intro w hSw; clear hSw; go_simp; try omega); simp only [lsz, lss])
              (refine htk 7 132 ?_ rfl ?_ ?_; rotate_left; (intro w hSw; clear hSw; go_simp); (try with_reducible rfl); simp only [lsz, lss])
              (refine htk 8 133 ?_ rfl ?_ ?_; rotate_left; (intro w hSw; clear hSw; go_simp); (try with_reducible rfl); simp only [lsz, lss])
              (refine htk 9 134 ?_ rfl ?_ ?_; rotate_left; (intro w hSw; clear hSw; go_simp); (try with_reducible rfl); simp only [lsz, lss])
              (refine held_skip 10 135 rfl (by kernel_rfl) (by kernel_rfl) (by kernel_rfl) (by kernel_rfl) (fun _ _ _ h => h) (by kernel_rfl) (by assumption) ?_; simp only [lsz, lss])
              (refine held_skip 11 136 rfl (by kernel_rfl) (by kernel_rfl) (by kernel_rfl) (by kernel_rfl) (fun _ _ _ h => h) (by kernel_rfl) (by assumption) ?_; simp only [lsz, lss])
              (refine held_skip 12 137 rfl (by kernel_rfl) (by kernel_rfl) (by kernel_rfl) (by kernel_rfl) (fun _ _ _ h => h) (by kernel_rfl) (by assumption) ?_; simp only [lsz, lss])
              (refine held_skip 13 138 rfl (by kernel_rfl) (by kernel_rfl) (by kernel_rfl) (by kernel_rfl) (fun _ _ _ h => h) (by kernel_rfl) (by assumption) ?_; simp only [lsz, lss])
              (refine held_skip 14 139 rfl (by kernel_rfl) (by kernel_rfl) (by kernel_rfl) (by kernel_rfl) (fun _ _ _ h => h) (by kernel_rfl) (by assumption) ?_; simp only [lsz, lss])
              (refine held_skip 15 140 rfl (by kernel_rfl) (by kernel_rfl) (by kernel_rfl) (by kernel_rfl) (fun _ _ _ h => h) (by kernel_rfl) (by assumption) ?_; simp only [lsz, lss])
              (refine held_skip 16 141 rfl (by kernel_rfl) (by kernel_rfl) (by kernel_rfl) (by kernel_rfl) (fun _ _ _ h => h) (by kernel_rfl) (by assumption) ?_; simp only [lsz, lss])
              (refine held_skip 17 142 rfl (by kernel_rfl) (by kernel_rfl) (by kernel_rfl) (by kernel_rfl) (fun _ _ _ h => h) (by kernel_rfl) (by assumption) ?_; simp only [lsz, lss])
              (refine held_skip 18 143 rfl (by kernel_rfl) (by kernel_rfl) (by kernel_rfl) (by kernel_rfl) (fun _ _ _ h => h) (by kernel_rfl) (by assumption) ?_; simp only [lsz, lss])
              (refine held_skip 19 144 rfl (by kernel_rfl) (by kernel_rfl) (by kernel_rfl) (by kernel_rfl) (fun _ _ _ h => h) (by kernel_rfl) (by assumption) ?_; simp only [lsz, lss])
              (refine held_skip 20 145 rfl (by kernel_rfl) (by kernel_rfl) (by kernel_rfl) (by kernel_rfl) (fun _ _ _ h => h) (by kernel_rfl) (by assumption) ?_; simp only [lsz, lss])
              (refine htk 21 146 ?_ rfl ?_ ?_; rotate_left; (intro w hSw; clear hSw; go_simp); (try with_reducible rfl); simp only [lsz, lss])
              refine held_store 22 rfl (by kernel_rfl) (by kernel_rfl) (by kernel_rfl) 65 (.tmp 6) (.tmp 131) (by kernel_rfl) (w.heap.size + 1) [.int .i64 2, .string (s.extract a (a + m)), .int .i64 x, .int .i64 a] _ _ (by kernel_rfl) (by kernel_rfl) HKd.out infoSz4 rfl (tok_all _ _ _ _) trivial (fun hS => ?_)
              (refine htk 23 7 ?_ rfl ?_ ?_; rotate_left; (intro w hSw; clear hSw; go_simp); (try with_reducible rfl); simp only [lsz, lss])
              (refine htk 24 8 ?_ rfl ?_ ?_; rotate_left; (intro w hSw; clear hSw; go_simp); (try with_reducible rfl); simp only [lsz, lss])
              refine wpAnyH_done (by kernel_rfl) ?_ _
              go_wp2
              refine oneEnd 2 (s.extract a (a + m)) x a m _ false rfl (Blk.row HKd.out _) rfl rfl rfl (by first | rfl | omega) ?_ (below_setRow (Below.drew HB.out) (by omega) _)
              rw [HTk.out, Hok.out]; exact rfl
            | true =>
              have Hok := Lib.hid hok
              have Hxx := Lib.hid (hx hok)
              clear hok hx
              refine wp_region_held_drew (S := fun _ => True) (by kernel_rfl) trivial (fun hHeld => ?_)
              (refine htk 0 125 ?_ rfl ?_ ?_; rotate_left; (intro w hSw; clear hSw; go_simp); (try with_reducible rfl); simp only [lsz, lss])
              (refine htk 1 126 ?_ rfl ?_ ?_; rotate_left; (intro w hSw; clear hSw; go_simp); (try with_reducible rfl); simp only [lsz, lss])
              (refine htk 2 127 ?_ rfl ?_ ?_; rotate_left; (intro w hSw; clear hSw; go_simp); (try with_reducible rfl); simp only [lsz, lss])
              (refine htk 3 128 (.string (s.extract a (a + m))) rfl ?_ ?_; (intro w hSw; clear hSw; go_simp; first | done | (have e9 : ((a : Int) + (m : Int)).toNat = a + m := (by omega); simp only [e9])); simp only [lsz, lss])
              (refine htk 4 129 ?_ rfl ?_ ?_; rotate_left; (intro w hSw; clear hSw; go_simp); (try with_reducible rfl); simp only [lsz, lss])
              (refine htk 5 130 ?_ rfl ?_ ?_; rotate_left; (intro w hSw; clear hSw; go_simp); (try with_reducible rfl); simp only [lsz, lss])
              (refine htk 6 131 (.agg #[.int .i64 2, .string (s.extract a (a + m)), .int .i64 x, .int .i64 a]) rfl ?_ ?_; (intro w hSw; clear hSw; go_simp; try omega); simp only [lsz, lss])
              (refine htk 7 132 ?_ rfl ?_ ?_; rotate_left; (intro w hSw; clear hSw; go_simp); (try with_reducible rfl); simp only [lsz, lss])
              (refine htk 8 133 ?_ rfl ?_ ?_; rotate_left; (intro w hSw; clear hSw; go_simp); (try with_reducible rfl); simp only [lsz, lss])
              (refine htk 9 134 ?_ rfl ?_ ?_; rotate_left; (intro w hSw; clear hSw; go_simp); (try with_reducible rfl); simp only [lsz, lss])
              (refine htk 10 135 ?_ rfl ?_ ?_; rotate_left; (intro w hSw; clear hSw; go_simp); (try with_reducible rfl); simp only [lsz, lss])
              (refine htk 11 136 ?_ rfl ?_ ?_; rotate_left; (intro w hSw; clear hSw; go_simp); (try with_reducible rfl); simp only [lsz, lss])
              (refine htk 12 137 ?_ rfl ?_ ?_; rotate_left; (intro w hSw; clear hSw; go_simp); (try with_reducible rfl); simp only [lsz, lss])
              (refine htk 13 138 (.bool true) rfl ?_ ?_; (intro w hSw; clear hSw; go_simp; try exact Hxe.out); simp only [lsz, lss])
              (refine htk 14 139 ?_ rfl ?_ ?_; rotate_left; (intro w hSw; clear hSw; go_simp); (try with_reducible rfl); simp only [lsz, lss])
              (refine held_skip 15 140 rfl (by kernel_rfl) (by kernel_rfl) (by kernel_rfl) (by kernel_rfl) (fun _ _ _ h => h) (by kernel_rfl) (by assumption) ?_; simp only [lsz, lss])
              (refine held_skip 16 141 rfl (by kernel_rfl) (by kernel_rfl) (by kernel_rfl) (by kernel_rfl) (fun _ _ _ h => h) (by kernel_rfl) (by assumption) ?_; simp only [lsz, lss])
              (refine held_skip 17 142 rfl (by kernel_rfl) (by kernel_rfl) (by kernel_rfl) (by kernel_rfl) (fun _ _ _ h => h) (by kernel_rfl) (by assumption) ?_; simp only [lsz, lss])
              (refine held_skip 18 143 rfl (by kernel_rfl) (by kernel_rfl) (by kernel_rfl) (by kernel_rfl) (fun _ _ _ h => h) (by kernel_rfl) (by assumption) ?_; simp only [lsz, lss])
              (refine held_skip 19 144 rfl (by kernel_rfl) (by kernel_rfl) (by kernel_rfl) (by kernel_rfl) (fun _ _ _ h => h) (by kernel_rfl) (by assumption) ?_; simp only [lsz, lss])
              (refine htk 20 145 ?_ rfl ?_ ?_; rotate_left; (intro w hSw; clear hSw; go_simp); (try with_reducible rfl); simp only [lsz, lss])
              (refine htk 21 146 ?_ rfl ?_ ?_; rotate_left; (intro w hSw; clear hSw; go_simp); (try with_reducible rfl); simp only [lsz, lss])
              refine held_store 22 rfl (by kernel_rfl) (by kernel_rfl) (by kernel_rfl) 65 (.tmp 6) (.tmp 131) (by kernel_rfl) (w.heap.size + 1) [.int .i64 2, .string (s.extract a (a + m)), .int .i64 x, .int .i64 a] _ _ (by kernel_rfl) (by kernel_rfl) HKd.out infoSz4 rfl (tok_all _ _ _ _) trivial (fun hS => ?_)
              (refine htk 23 7 ?_ rfl ?_ ?_; rotate_left; (intro w hSw; clear hSw; go_simp); (try with_reducible rfl); simp only [lsz, lss])
              (refine htk 24 8 ?_ rfl ?_ ?_; rotate_left; (intro w hSw; clear hSw; go_simp); (try with_reducible rfl); simp only [lsz, lss])
              refine wpAnyH_done (by kernel_rfl) ?_ _
              go_wp2
              refine oneEnd 2 (s.extract a (a + m)) x a m _ true rfl (Blk.row HKd.out _) rfl rfl rfl (by first | rfl | omega) ?_ (below_setRow (Below.drew HB.out) (by omega) _)
              rw [HTk.out, Hok.out, Hx.out, headIs_end (by have := Hsz.out; omega)]
              exact ⟨rfl, rfl, rfl, Hxx.out, rfl, rfl⟩
end Go.Proofs.YtpmbamfpmmdhcaaGreat
