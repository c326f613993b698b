/- lex.whole: the number that digits tell. -/
import Derived.Test.YtgjeomcflapmpaaDoorLx2
import Derived.Laws.Externs
namespace Go.Proofs.YtgjeomcflapmpaaDoor
open Go.Shelf
open Go.RowKit
set_option linter.unusedSimpArgs false
set_option linter.unusedVariables false

theorem add64i (x y : Int) (hx : 0 ≤ x) (hy : 0 ≤ y) (w : World) : (callFunc 54 #[.int .u64 x, .int .u64 y, .int .u64 0]).run Tryd.prog w =
    .ok (.value (.tuple #[.int .u64 ((x + y) % 18446744073709551616), .int .u64 ((x + y) / 18446744073709551616)])) w := by
  rw [run_callFunc_extern Tryd.func54 (by kernel_rfl) (by kernel_rfl) (by kernel_rfl) (e := add64Entry) (by kernel_rfl), run_add64 x y 0 hx hy (by omega) (by omega)]
  simp only [Result.andThen, Int.add_zero]

def WholeR (neg : Bool) (l : List UInt8) (w : World) (e : Ending) (w' : World) : Prop :=
  ∃ x : Int, e = .returned (.tuple #[.int .i64 x, .bool (wokD neg l)]) ∧ (wokD neg l = true → x = if neg then -(decV l : Int) else decV l) ∧ w = w'
theorem wholeR_mk {neg : Bool} {l : List UInt8} {w : World} {e : Ending} {x : Int} {b : Bool} (he : e = .returned (.tuple #[.int .i64 x, .bool b])) (hb : b = wokD neg l) (hx : b = true → x = if neg then -(decV l : Int) else decV l) : WholeR neg l w e w :=
  ⟨x, by rw [he, hb], fun h => hx (hb.trans h), rfl⟩
set_option maxRecDepth 100000 in
set_option maxHeartbeats 4000000 in
theorem lWhole_neg (s D : ByteArray) (w : World) (hs : s.size ≤ maxLen) (hD : D.size ≤ maxLen) (h0 : 0 < D.size)
    (Ht : Hid (∀ wx : World, Calls Tryd.prog 52 #[.string s, .string ⟨#[45]⟩] wx fun e w' => e = .returned (.string D) ∧ w' = wx))
    (hne : (D.toList == s.toList) = false) (Hdig : Hid (∀ k (h : k < D.size), dgC D[k] = true)) (hne0 : (D.toList == []) = false) (hz : ((D[0].toNat : Int) == 48) = false) (HZ : Hid (headIs (· == 48) D.data.toList = false)) : Calls Tryd.prog 41 #[.string s] w (WholeR true D.data.toList w) := by
    unfold maxLen at hs hD
    go_enter Tryd.func41, Tryd.ntmps41; (try simp only [List.append_eq, List.cons_append, List.nil_append])
    go_wp2_with (go_at_call 52; refine (Ht.out _).mono ?_; rintro e w' ⟨rfl, rfl⟩)
    go_loop [33, 6] (fun i n => ∃ k : Nat, k ≤ D.size ∧ i = .int .i64 k ∧ decV (D.data.toList.take k) < 18446744073709551616 ∧ n = .int .u64 (decV (D.data.toList.take k) : Nat)) (fun i _ => D.size - (intOf i).toNat)
    case atStart => exact ⟨0, Nat.zero_le _, rfl, by simp [decV], by simp [decV]⟩
    case round =>
      obtain ⟨k, hk, rfl, hn, rfl⟩ := hrel
      by_cases hlt : k < D.size
      · have hd := Hdig.out k hlt
        rw [dgC_iff] at hd
        have hd' : 48 ≤ (D[k].toNat : Int) ∧ (D[k].toNat : Int) ≤ 57 := by simpa using hd
        obtain ⟨hd1, hd2⟩ := hd'
        clear hd
        have hsn : decV (D.data.toList.take (k + 1)) = decV (D.data.toList.take k) * 10 + (D[k].toNat - 48) := by
          rw [List.take_succ_eq_append_getElem (by simpa using hlt), decV_snoc]; rfl
        have Hle := Lib.hid (decV_take D.data.toList (k + 1))
        have Hsn := Lib.hid hsn; clear hsn
        generalize hN : decV (D.data.toList.take k) = N at Hsn hn ⊢
        clear hN
        have hmul := fun wx => Tryd.bits_Mul64 N 10 (by omega) (by omega) wx
        obtain ⟨H, hH⟩ : ∃ H, N * 10 / 18446744073709551616 = H := ⟨_, rfl⟩
        obtain ⟨L, hL⟩ : ∃ L, N * 10 % 18446744073709551616 = L := ⟨_, rfl⟩
        rw [hH, hL] at hmul
        have Hm := Lib.hid hmul; clear hmul
        have hH9 : H ≤ 9 := by omega
        have hL9 : L < 18446744073709551616 := by omega
        have hNL : N * 10 = H * 18446744073709551616 + L := by omega
        have HNL := Lib.hid hNL; clear hNL hH hL
        have hadd := fun wx => add64i (L : Int) ((D[k].toNat : Int) - 48) (by omega) (by omega) wx
        obtain ⟨S, hS⟩ : ∃ S, ((L : Int) + ((D[k].toNat : Int) - 48)) % 18446744073709551616 = S := ⟨_, rfl⟩
        obtain ⟨C, hC⟩ : ∃ C, ((L : Int) + ((D[k].toNat : Int) - 48)) / 18446744073709551616 = C := ⟨_, rfl⟩
        rw [hS, hC] at hadd
        have hS0 : 0 ≤ S := by omega
        have hS1 : S < 18446744073709551616 := by omega
        have hC0 : 0 ≤ C := by omega
        have hC1 : C ≤ 1 := by omega
        have HSC : Hid ((L : Int) + ((D[k].toNat : Int) - 48) = C * 18446744073709551616 + S) := by show _ = _; omega
        clear hS hC
        by_cases hbig : (H : Int) + C = 0
        · have hb0 : ((H : Int) + C != 0) = false := by simp [hbig]
          have Hbig := Lib.hid hbig; clear hbig
          go_wp2_with (first
            | (go_at_call 53; refine (Hm.out _).mono ?_; rintro e w' ⟨rfl, rfl⟩)
            | (simp only [hadd]))
          go_round
          case rel =>
            have e1 := Hsn.out
            have e2 := HNL.out
            have e3 := HSC.out
            have e4 := Hbig.out
            refine ⟨k + 1, by omega, by go_num, by rw [e1]; omega, ?_⟩
            rw [e1]
            have : S = ((N * 10 + (D[k].toNat - 48) : Nat) : Int) := by omega
            rw [this]
          case measure => simp [intOf]; omega
        · have hb0 : ((H : Int) + C != 0) = true := by simp [hbig]
          have Hbig := Lib.hid hbig; clear hbig
          go_wp2_with (first
            | (go_at_call 53; refine (Hm.out _).mono ?_; rintro e w' ⟨rfl, rfl⟩)
            | (simp only [hadd]))
          go_ret2
          have e1 := Hsn.out
          have e2 := HNL.out
          have e3 := HSC.out
          have e4 := Hbig.out
          have e5 := Hle.out
          rw [e1] at e5
          have hw : wokD true D.data.toList = false := wokD_big (by omega)
          exact wholeR_mk (x := 0) (b := false) rfl hw.symm (fun h => Bool.noConfusion h)
      · have hk' : k = D.size := by omega
        have e0 : D.data.toList.take k = D.data.toList := List.take_of_length_le (by simp; omega)
        rw [e0] at hn ⊢
        have hwk : wokD true D.data.toList = decide (decV D.data.toList ≤ 9223372036854775808) := wokD_neg HZ.out
        have Hwk := Lib.hid hwk; clear hwk
        clear e0 hk'
        have Hnn : Hid (decV D.data.toList = decV D.data.toList) := rfl
        obtain ⟨N, hN⟩ : ∃ N, decV D.data.toList = N := ⟨_, rfl⟩
        have HN := Lib.hid hN
        rw [hN] at hn ⊢
        clear hN
        go_wp2
        go_ret2
        refine wholeR_mk rfl ?_ ?_
        · rw [Hwk.out, HN.out, decide_eq_decide]; omega
        · intro h
          simp only [decide_eq_true_eq] at h
          rw [HN.out]
          simp only [Bool.false_eq_true, if_true, if_false]
          exact wrapNeg N (by omega)

set_option maxRecDepth 100000 in
set_option maxHeartbeats 4000000 in
theorem lWhole_pos (s D : ByteArray) (w : World) (hs : s.size ≤ maxLen) (hD : D.size ≤ maxLen) (h0 : 0 < D.size)
    (Ht : Hid (∀ wx : World, Calls Tryd.prog 52 #[.string s, .string ⟨#[45]⟩] wx fun e w' => e = .returned (.string D) ∧ w' = wx))
    (hne : (D.toList == s.toList) = true) (Hdig : Hid (∀ k (h : k < D.size), dgC D[k] = true)) (hne0 : (D.toList == []) = false) (hz : ((D[0].toNat : Int) == 48) = false) (HZ : Hid (headIs (· == 48) D.data.toList = false ∨ D.data.toList.length ≤ 1)) : Calls Tryd.prog 41 #[.string s] w (WholeR false D.data.toList w) := by
    unfold maxLen at hs hD
    go_enter Tryd.func41, Tryd.ntmps41; (try simp only [List.append_eq, List.cons_append, List.nil_append])
    go_wp2_with (go_at_call 52; refine (Ht.out _).mono ?_; rintro e w' ⟨rfl, rfl⟩)
    go_loop [33, 6] (fun i n => ∃ k : Nat, k ≤ D.size ∧ i = .int .i64 k ∧ decV (D.data.toList.take k) < 18446744073709551616 ∧ n = .int .u64 (decV (D.data.toList.take k) : Nat)) (fun i _ => D.size - (intOf i).toNat)
    case atStart => exact ⟨0, Nat.zero_le _, rfl, by simp [decV], by simp [decV]⟩
    case round =>
      obtain ⟨k, hk, rfl, hn, rfl⟩ := hrel
      by_cases hlt : k < D.size
      · have hd := Hdig.out k hlt
        rw [dgC_iff] at hd
        have hd' : 48 ≤ (D[k].toNat : Int) ∧ (D[k].toNat : Int) ≤ 57 := by simpa using hd
        obtain ⟨hd1, hd2⟩ := hd'
        clear hd
        have hsn : decV (D.data.toList.take (k + 1)) = decV (D.data.toList.take k) * 10 + (D[k].toNat - 48) := by
          rw [List.take_succ_eq_append_getElem (by simpa using hlt), decV_snoc]; rfl
        have Hle := Lib.hid (decV_take D.data.toList (k + 1))
        have Hsn := Lib.hid hsn; clear hsn
        generalize hN : decV (D.data.toList.take k) = N at Hsn hn ⊢
        clear hN
        have hmul := fun wx => Tryd.bits_Mul64 N 10 (by omega) (by omega) wx
        obtain ⟨H, hH⟩ : ∃ H, N * 10 / 18446744073709551616 = H := ⟨_, rfl⟩
        obtain ⟨L, hL⟩ : ∃ L, N * 10 % 18446744073709551616 = L := ⟨_, rfl⟩
        rw [hH, hL] at hmul
        have Hm := Lib.hid hmul; clear hmul
        have hH9 : H ≤ 9 := by omega
        have hL9 : L < 18446744073709551616 := by omega
        have hNL : N * 10 = H * 18446744073709551616 + L := by omega
        have HNL := Lib.hid hNL; clear hNL hH hL
        have hadd := fun wx => add64i (L : Int) ((D[k].toNat : Int) - 48) (by omega) (by omega) wx
        obtain ⟨S, hS⟩ : ∃ S, ((L : Int) + ((D[k].toNat : Int) - 48)) % 18446744073709551616 = S := ⟨_, rfl⟩
        obtain ⟨C, hC⟩ : ∃ C, ((L : Int) + ((D[k].toNat : Int) - 48)) / 18446744073709551616 = C := ⟨_, rfl⟩
        rw [hS, hC] at hadd
        have hS0 : 0 ≤ S := by omega
        have hS1 : S < 18446744073709551616 := by omega
        have hC0 : 0 ≤ C := by omega
        have hC1 : C ≤ 1 := by omega
        have HSC : Hid ((L : Int) + ((D[k].toNat : Int) - 48) = C * 18446744073709551616 + S) := by show _ = _; omega
        clear hS hC
        by_cases hbig : (H : Int) + C = 0
        · have hb0 : ((H : Int) + C != 0) = false := by simp [hbig]
          have Hbig := Lib.hid hbig; clear hbig
          go_wp2_with (first
            | (go_at_call 53; refine (Hm.out _).mono ?_; rintro e w' ⟨rfl, rfl⟩)
            | (simp only [hadd]))
          go_round
          case rel =>
            have e1 := Hsn.out
            have e2 := HNL.out
            have e3 := HSC.out
            have e4 := Hbig.out
            refine ⟨k + 1, by omega, by go_num, by rw [e1]; omega, ?_⟩
            rw [e1]
            have : S = ((N * 10 + (D[k].toNat - 48) : Nat) : Int) := by omega
            rw [this]
          case measure => simp [intOf]; omega
        · have hb0 : ((H : Int) + C != 0) = true := by simp [hbig]
          have Hbig := Lib.hid hbig; clear hbig
          go_wp2_with (first
            | (go_at_call 53; refine (Hm.out _).mono ?_; rintro e w' ⟨rfl, rfl⟩)
            | (simp only [hadd]))
          go_ret2
          have e1 := Hsn.out
          have e2 := HNL.out
          have e3 := HSC.out
          have e4 := Hbig.out
          have e5 := Hle.out
          rw [e1] at e5
          have hw : wokD false D.data.toList = false := wokD_big (by omega)
          exact wholeR_mk (x := 0) (b := false) rfl hw.symm (fun h => Bool.noConfusion h)
      · have hk' : k = D.size := by omega
        have e0 : D.data.toList.take k = D.data.toList := List.take_of_length_le (by simp; omega)
        rw [e0] at hn ⊢
        have hwk : wokD false D.data.toList = decide (decV D.data.toList < 9223372036854775808) := wokD_pos HZ.out
        have Hwk := Lib.hid hwk; clear hwk
        clear e0 hk'
        have Hnn : Hid (decV D.data.toList = decV D.data.toList) := rfl
        obtain ⟨N, hN⟩ : ∃ N, decV D.data.toList = N := ⟨_, rfl⟩
        have HN := Lib.hid hN
        rw [hN] at hn ⊢
        clear hN
        go_wp2
        go_ret2
        refine wholeR_mk rfl ?_ ?_
        · rw [Hwk.out, HN.out, decide_eq_decide]; omega
        · intro h
          simp only [decide_eq_true_eq] at h
          rw [HN.out]
          simp only [Bool.false_eq_true, if_true, if_false]
          exact wrapPos N (by omega)

set_option maxRecDepth 100000 in
set_option maxHeartbeats 4000000 in
theorem lWhole_one (s D : ByteArray) (w : World) (hs : s.size ≤ maxLen) (hD : D.size ≤ maxLen) (h0 : 0 < D.size)
    (Ht : Hid (∀ wx : World, Calls Tryd.prog 52 #[.string s, .string ⟨#[45]⟩] wx fun e w' => e = .returned (.string D) ∧ w' = wx))
    (hne : (D.toList == s.toList) = true) (Hdig : Hid (∀ k (h : k < D.size), dgC D[k] = true)) (hne0 : (D.toList == []) = false) (hz : ((D[0].toNat : Int) == 48) = true) (h1 : (D.size : Int) ≤ 1) (HZ : Hid (headIs (· == 48) D.data.toList = false ∨ D.data.toList.length ≤ 1)) : Calls Tryd.prog 41 #[.string s] w (WholeR false D.data.toList w) := by
    unfold maxLen at hs hD
    go_enter Tryd.func41, Tryd.ntmps41; (try simp only [List.append_eq, List.cons_append, List.nil_append])
    go_wp2_with (go_at_call 52; refine (Ht.out _).mono ?_; rintro e w' ⟨rfl, rfl⟩)
    go_loop [33, 6] (fun i n => ∃ k : Nat, k ≤ D.size ∧ i = .int .i64 k ∧ decV (D.data.toList.take k) < 18446744073709551616 ∧ n = .int .u64 (decV (D.data.toList.take k) : Nat)) (fun i _ => D.size - (intOf i).toNat)
    case atStart => exact ⟨0, Nat.zero_le _, rfl, by simp [decV], by simp [decV]⟩
    case round =>
      obtain ⟨k, hk, rfl, hn, rfl⟩ := hrel
      by_cases hlt : k < D.size
      · have hd := Hdig.out k hlt
        rw [dgC_iff] at hd
        have hd' : 48 ≤ (D[k].toNat : Int) ∧ (D[k].toNat : Int) ≤ 57 := by simpa using hd
        obtain ⟨hd1, hd2⟩ := hd'
        clear hd
        have hsn : decV (D.data.toList.take (k + 1)) = decV (D.data.toList.take k) * 10 + (D[k].toNat - 48) := by
          rw [List.take_succ_eq_append_getElem (by simpa using hlt), decV_snoc]; rfl
        have Hle := Lib.hid (decV_take D.data.toList (k + 1))
        have Hsn := Lib.hid hsn; clear hsn
        generalize hN : decV (D.data.toList.take k) = N at Hsn hn ⊢
        clear hN
        have hmul := fun wx => Tryd.bits_Mul64 N 10 (by omega) (by omega) wx
        obtain ⟨H, hH⟩ : ∃ H, N * 10 / 18446744073709551616 = H := ⟨_, rfl⟩
        obtain ⟨L, hL⟩ : ∃ L, N * 10 % 18446744073709551616 = L := ⟨_, rfl⟩
        rw [hH, hL] at hmul
        have Hm := Lib.hid hmul; clear hmul
        have hH9 : H ≤ 9 := by omega
        have hL9 : L < 18446744073709551616 := by omega
        have hNL : N * 10 = H * 18446744073709551616 + L := by omega
        have HNL := Lib.hid hNL; clear hNL hH hL
        have hadd := fun wx => add64i (L : Int) ((D[k].toNat : Int) - 48) (by omega) (by omega) wx
        obtain ⟨S, hS⟩ : ∃ S, ((L : Int) + ((D[k].toNat : Int) - 48)) % 18446744073709551616 = S := ⟨_, rfl⟩
        obtain ⟨C, hC⟩ : ∃ C, ((L : Int) + ((D[k].toNat : Int) - 48)) / 18446744073709551616 = C := ⟨_, rfl⟩
        rw [hS, hC] at hadd
        have hS0 : 0 ≤ S := by omega
        have hS1 : S < 18446744073709551616 := by omega
        have hC0 : 0 ≤ C := by omega
        have hC1 : C ≤ 1 := by omega
        have HSC : Hid ((L : Int) + ((D[k].toNat : Int) - 48) = C * 18446744073709551616 + S) := by show _ = _; omega
        clear hS hC
        by_cases hbig : (H : Int) + C = 0
        · have hb0 : ((H : Int) + C != 0) = false := by simp [hbig]
          have Hbig := Lib.hid hbig; clear hbig
          go_wp2_with (first
            | (go_at_call 53; refine (Hm.out _).mono ?_; rintro e w' ⟨rfl, rfl⟩)
            | (simp only [hadd]))
          go_round
          case rel =>
            have e1 := Hsn.out
            have e2 := HNL.out
            have e3 := HSC.out
            have e4 := Hbig.out
            refine ⟨k + 1, by omega, by go_num, by rw [e1]; omega, ?_⟩
            rw [e1]
            have : S = ((N * 10 + (D[k].toNat - 48) : Nat) : Int) := by omega
            rw [this]
          case measure => simp [intOf]; omega
        · have hb0 : ((H : Int) + C != 0) = true := by simp [hbig]
          have Hbig := Lib.hid hbig; clear hbig
          go_wp2_with (first
            | (go_at_call 53; refine (Hm.out _).mono ?_; rintro e w' ⟨rfl, rfl⟩)
            | (simp only [hadd]))
          go_ret2
          have e1 := Hsn.out
          have e2 := HNL.out
          have e3 := HSC.out
          have e4 := Hbig.out
          have e5 := Hle.out
          rw [e1] at e5
          have hw : wokD false D.data.toList = false := wokD_big (by omega)
          exact wholeR_mk (x := 0) (b := false) rfl hw.symm (fun h => Bool.noConfusion h)
      · have hk' : k = D.size := by omega
        have e0 : D.data.toList.take k = D.data.toList := List.take_of_length_le (by simp; omega)
        rw [e0] at hn ⊢
        have hwk : wokD false D.data.toList = decide (decV D.data.toList < 9223372036854775808) := wokD_pos HZ.out
        have Hwk := Lib.hid hwk; clear hwk
        clear e0 hk'
        have Hnn : Hid (decV D.data.toList = decV D.data.toList) := rfl
        obtain ⟨N, hN⟩ : ∃ N, decV D.data.toList = N := ⟨_, rfl⟩
        have HN := Lib.hid hN
        rw [hN] at hn ⊢
        clear hN
        go_wp2
        go_ret2
        refine wholeR_mk rfl ?_ ?_
        · rw [Hwk.out, HN.out, decide_eq_decide]; omega
        · intro h
          simp only [decide_eq_true_eq] at h
          rw [HN.out]
          simp only [Bool.false_eq_true, if_true, if_false]
          exact wrapPos N (by omega)

set_option maxRecDepth 100000 in
theorem lWhole_zero (s D : ByteArray) (w : World) (hs : s.size ≤ maxLen) (hD : D.size ≤ maxLen) (h0 : 0 < D.size)
    (Ht : Hid (∀ wx : World, Calls Tryd.prog 52 #[.string s, .string ⟨#[45]⟩] wx fun e w' => e = .returned (.string D) ∧ w' = wx))
    (hne : (D.toList == s.toList) = true) (hne0 : (D.toList == []) = false) (hz : ((D[0].toNat : Int) == 48) = true) (h1 : 1 < (D.size : Int)) (Hw : Hid (wokD false D.data.toList = false)) : Calls Tryd.prog 41 #[.string s] w (WholeR false D.data.toList w) := by
    unfold maxLen at hs hD
    go_enter Tryd.func41, Tryd.ntmps41; (try simp only [List.append_eq, List.cons_append, List.nil_append])
    go_wp2_with (go_at_call 52; refine (Ht.out _).mono ?_; rintro e w' ⟨rfl, rfl⟩)
    go_ret2
    exact wholeR_mk (x := 0) (b := false) rfl Hw.out.symm (fun h => Bool.noConfusion h)
set_option maxRecDepth 100000 in
theorem lWhole_minus (s D : ByteArray) (w : World) (hs : s.size ≤ maxLen) (hD : D.size ≤ maxLen) (h0 : 0 < D.size)
    (Ht : Hid (∀ wx : World, Calls Tryd.prog 52 #[.string s, .string ⟨#[45]⟩] wx fun e w' => e = .returned (.string D) ∧ w' = wx))
    (hne : (D.toList == s.toList) = false) (hne0 : (D.toList == []) = false) (hz : ((D[0].toNat : Int) == 48) = true) (Hw : Hid (wokD true D.data.toList = false)) : Calls Tryd.prog 41 #[.string s] w (WholeR true D.data.toList w) := by
    unfold maxLen at hs hD
    go_enter Tryd.func41, Tryd.ntmps41; (try simp only [List.append_eq, List.cons_append, List.nil_append])
    go_wp2_with (go_at_call 52; refine (Ht.out _).mono ?_; rintro e w' ⟨rfl, rfl⟩)
    all_goals go_ret2
    all_goals exact wholeR_mk (x := 0) (b := false) rfl Hw.out.symm (fun h => Bool.noConfusion h)

/-- Of a text of digits behind a - or none. -/
theorem lWhole (s : ByteArray) (neg : Bool) (dl : List UInt8) (w : World) (hs : s.size ≤ maxLen) (hl : s.data.toList = if neg then 45 :: dl else dl) (h0 : dl ≠ []) (hdig : dl.all dgC = true) :
    Calls Tryd.prog 41 #[.string s] w (WholeR neg dl w) := by
  have hsz : s.size = s.data.toList.length := by simp
  have htr : Lib.trimPrefix s.data.toList [45] = dl := by
    rw [hl]
    cases neg
    · match dl, h0, hdig with
      | c :: r, _, hd =>
        simp only [List.all_cons, Bool.and_eq_true] at hd
        have : (45 == c) = false := by
          rw [Bool.eq_false_iff]; intro e; simp only [beq_iff_eq] at e; rw [← e] at hd; exact absurd hd.1 (by decide)
        simp [Lib.trimPrefix, Lib.hasPrefix, List.isPrefixOf, this]
    · simp [Lib.trimPrefix, Lib.hasPrefix]
  have Ht : Hid (∀ wx : World, Calls Tryd.prog 52 #[.string s, .string ⟨#[45]⟩] wx fun e w' => e = .returned (.string ⟨dl.toArray⟩) ∧ w' = wx) := fun wx => by
    have := Tryd.strings_TrimPrefix s ⟨#[45]⟩ wx
    rw [htr] at this
    exact this
  have hD : (⟨dl.toArray⟩ : ByteArray).size = dl.length := rfl
  have hlen : dl.length ≤ s.size := by rw [hsz, hl]; cases neg <;> simp
  have hpos : 0 < dl.length := List.length_pos_iff.2 h0
  have Hdig : Hid (∀ k (h : k < (⟨dl.toArray⟩ : ByteArray).size), dgC (⟨dl.toArray⟩ : ByteArray)[k] = true) := fun k h => List.all_eq_true.1 hdig _ (List.getElem_mem (by exact h))
  have hne0 : ((⟨dl.toArray⟩ : ByteArray).toList == []) = false := by
    rw [ByteArray.toList_eq]; show (dl == []) = false; simpa using h0
  have hne : ((⟨dl.toArray⟩ : ByteArray).toList == s.toList) = !neg := by
    rw [ByteArray.toList_eq, ByteArray.toList_eq, hl]
    cases neg
    · simp
    · show (dl == 45 :: dl) = false
      rw [Bool.eq_false_iff]; intro e
      simp only [beq_iff_eq] at e
      have := congrArg List.length e
      simp at this
  have hh : headIs (· == 48) dl = ((⟨dl.toArray⟩ : ByteArray)[0]'(by rw [hD]; exact hpos) == 48) := headIs_at (p := (· == 48)) (s := ⟨dl.toArray⟩) (k := 0) hpos
  have hc : ((((⟨dl.toArray⟩ : ByteArray)[0]'(by rw [hD]; exact hpos)).toNat : Int) == 48) = headIs (· == 48) dl := by
    rw [hh, Bool.eq_iff_iff]
    simp only [beq_iff_eq]
    have := u8_eq_iff ((⟨dl.toArray⟩ : ByteArray)[0]'(by rw [hD]; exact hpos)) 48 (by omega)
    rw [show UInt8.ofNat 48 = 48 from rfl] at this
    exact this.symm
  cases hz : headIs (· == 48) dl with
  | false =>
    rw [hz] at hc
    cases neg
    · exact lWhole_pos s ⟨dl.toArray⟩ w hs (by rw [hD]; omega) (by rw [hD]; exact hpos) Ht hne Hdig hne0 hc (.inl hz)
    · exact lWhole_neg s ⟨dl.toArray⟩ w hs (by rw [hD]; omega) (by rw [hD]; exact hpos) Ht hne Hdig hne0 hc hz
  | true =>
    rw [hz] at hc
    cases neg
    · by_cases h1 : dl.length ≤ 1
      · exact lWhole_one s ⟨dl.toArray⟩ w hs (by rw [hD]; omega) (by rw [hD]; exact hpos) Ht hne Hdig hne0 hc (by rw [hD]; omega) (.inr h1)
      · exact lWhole_zero s ⟨dl.toArray⟩ w hs (by rw [hD]; omega) (by rw [hD]; exact hpos) Ht hne hne0 hc (by rw [hD]; omega) (Lib.hid (wokD_zero (l := dl) hz (.inr (by omega))))
    · exact lWhole_minus s ⟨dl.toArray⟩ w hs (by rw [hD]; omega) (by rw [hD]; exact hpos) Ht hne hne0 hc (Lib.hid (wokD_zero (l := dl) hz (.inl rfl)))

end Go.Proofs.YtgjeomcflapmpaaDoor
