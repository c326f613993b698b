/- lex.whole: the number that digits tell. -/
import Derived.Test.YtpmbamfpmmdhcaaGreatK26
import Derived.Laws.Externs
set_option maxRecDepth 100000
set_option maxHeartbeats 16000000
namespace Go.Proofs.YtpmbamfpmmdhcaaGreat
open Go.Shelf
open Go.RowKit
set_option linter.unusedSimpArgs false
set_option linter.unusedVariables false
theorem add64i (x y : Int) (hx : 0 ≤ x) (hy : 0 ≤ y) (w : World) : (callFunc 116 #[.int .u64 x,.int .u64 y,.int .u64 0]).run Tryz.prog w =
    .ok (.value (.tuple #[.int .u64 ((x + y) % 18446744073709551616),.int .u64 ((x + y) / 18446744073709551616)])) w := by
  rw [run_callFunc_extern Tryz.func116 (by kernel_rfl) (by kernel_rfl) (by kernel_rfl) (e := add64Entry) (by kernel_rfl),run_add64 x y 0 hx hy (by omega) (by omega)]
  simp only [Result.andThen,Int.add_zero]
def WholeR (neg : Bool) (l : List UInt8) (w : World) (e : Ending) (w' : World) : Prop :=
  ∃ x : Int,e = .returned (.tuple #[.int .i64 x,.bool (wokD neg l)]) ∧ (wokD neg l = true → x = if neg then -(decV l : Int) else decV l) ∧ w = w'
theorem wholeR_mk {neg : Bool} {l : List UInt8} {w : World} {e : Ending} {x : Int} {b : Bool} (he : e = .returned (.tuple #[.int .i64 x,.bool b])) (hb : b = wokD neg l) (hx : b = true → x = if neg then -(decV l : Int) else decV l) : WholeR neg l w e w :=
  ⟨x,by rw [he,hb],fun h => hx (hb.trans h),rfl⟩
theorem lWhole_neg (s D : ByteArray) (w : World) (hs : s.size ≤ maxLen) (hD : D.size ≤ maxLen) (h0 : 0 < D.size)
    (Ht : Hid (∀ wx : World,Calls Tryz.prog 114 #[.string s,.string ⟨#[45]⟩] wx fun e w' => e = .returned (.string D) ∧ w' = wx))
    (hne : (D.toList == s.toList) = false) (Hdig : Hid (∀ k (h : k < D.size),dgC D[k] = true)) (hne0 : (D.toList == []) = false) (hz : ((D[0].toNat : Int) == 48) = false) (HZ : Hid (headIs (· == 48) D.data.toList = false)) : Calls Tryz.prog 105 #[.string s] w (WholeR true D.data.toList w) := by
    unfold maxLen at hs hD
    go_enter Tryz.func105,Tryz.ntmps105;(try simp only [List.append_eq,List.cons_append,List.nil_append])
    go_wp2_with (go_at_call 114;refine (Ht.out _).mono ?_;rintro e w' ⟨rfl,rfl⟩)
    go_loop [33,6] (fun i n => ∃ k : Nat,k ≤ D.size ∧ i = .int .i64 k ∧ decV (D.data.toList.take k) < 18446744073709551616 ∧ n = .int .u64 (decV (D.data.toList.take k) : Nat)) (fun i _ => D.size - (intOf i).toNat)
    case atStart => exact ⟨0,Nat.zero_le _,rfl,by simp [decV],by simp [decV]⟩
    case round =>
      obtain ⟨k,hk,rfl,hn,rfl⟩ := hrel
      by_cases hlt : k < D.size
      · have hd := Hdig.out k hlt
        rw [dgC_iff] at hd;have hd' : 48 ≤ (D[k].toNat : Int) ∧ (D[k].toNat : Int) ≤ 57 := by simpa using hd
        obtain ⟨hd1,hd2⟩ := hd';clear hd;have hsn : decV (D.data.toList.take (k + 1)) = decV (D.data.toList.take k) * 10 + (D[k].toNat - 48) := by
          rw [List.take_succ_eq_append_getElem (by simpa using hlt),decV_snoc];rfl
        have Hle := Lib.hid (decV_take D.data.toList (k + 1));have Hsn := Lib.hid hsn;clear hsn;generalize hN : decV (D.data.toList.take k) = N at Hsn hn ⊢;clear hN;have hmul := fun wx => Tryz.bits_Mul64 N 10 (by omega) (by omega) wx
        obtain ⟨H,hH⟩ : ∃ H,N * 10 / 18446744073709551616 = H := ⟨_,rfl⟩;obtain ⟨L,hL⟩ : ∃ L,N * 10 % 18446744073709551616 = L := ⟨_,rfl⟩;rw [hH,hL] at hmul;have Hm := Lib.hid hmul;clear hmul;have hH9 : H ≤ 9 := by omega
        have hL9 : L < 18446744073709551616 := by omega
        have hNL : N * 10 = H * 18446744073709551616 + L := by omega
        have HNL := Lib.hid hNL;clear hNL hH hL;have hadd := fun wx => add64i (L : Int) ((D[k].toNat : Int) - 48) (by omega) (by omega) wx
        obtain ⟨S,hS⟩ : ∃ S,((L : Int) + ((D[k].toNat : Int) - 48)) % 18446744073709551616 = S := ⟨_,rfl⟩;obtain ⟨C,hC⟩ : ∃ C,((L : Int) + ((D[k].toNat : Int) - 48)) / 18446744073709551616 = C := ⟨_,rfl⟩;rw [hS,hC] at hadd;have hS0 : 0 ≤ S := by omega
        have hS1 : S < 18446744073709551616 := by omega
        have hC0 : 0 ≤ C := by omega
        have hC1 : C ≤ 1 := by omega
        have HSC : Hid ((L : Int) + ((D[k].toNat : Int) - 48) = C * 18446744073709551616 + S) := by show _ = _;omega
        clear hS hC
        by_cases hbig : (H : Int) + C = 0
        · have hb0 : ((H : Int) + C != 0) = false := by simp [hbig]
          have Hbig := Lib.hid hbig;clear hbig
          go_wp2_with (first
            | (go_at_call 115;refine (Hm.out _).mono ?_;rintro e w' ⟨rfl,rfl⟩)
            | (simp only [hadd]))
          go_round
          case rel =>
            have e1 := Hsn.out;have e2 := HNL.out;have e3 := HSC.out;have e4 := Hbig.out;refine ⟨k + 1,by omega,by go_num,by rw [e1];omega,?_⟩;rw [e1];have : S = ((N * 10 + (D[k].toNat - 48) : Nat) : Int) := by omega
            rw [this]
          case measure => simp [intOf];omega
        · have hb0 : ((H : Int) + C != 0) = true := by simp [hbig]
          have Hbig := Lib.hid hbig;clear hbig
          go_wp2_with (first
            | (go_at_call 115;refine (Hm.out _).mono ?_;rintro e w' ⟨rfl,rfl⟩)
            | (simp only [hadd]))
          go_ret2
          have e1 := Hsn.out;have e2 := HNL.out;have e3 := HSC.out;have e4 := Hbig.out;have e5 := Hle.out;rw [e1] at e5;have hw : wokD true D.data.toList = false := wokD_big (by omega);exact wholeR_mk (x := 0) (b := false) rfl hw.symm (fun h => Bool.noConfusion h)
      · have hk' : k = D.size := by omega
        have e0 : D.data.toList.take k = D.data.toList := List.take_of_length_le (by simp;omega);rw [e0] at hn ⊢;have hwk : wokD true D.data.toList = decide (decV D.data.toList ≤ 9223372036854775808) := wokD_neg HZ.out;have Hwk := Lib.hid hwk;clear hwk;clear e0 hk';have Hnn : Hid (decV D.data.toList = decV D.data.toList) := rfl;obtain ⟨N,hN⟩ : ∃ N,decV D.data.toList = N := ⟨_,rfl⟩;have HN := Lib.hid hN;rw [hN] at hn ⊢;clear hN;go_wp2
        go_ret2
        refine wholeR_mk rfl ?_ ?_
        · rw [Hwk.out,HN.out,decide_eq_decide];omega
        · intro h
          simp only [decide_eq_true_eq] at h;rw [HN.out];simp only [Bool.false_eq_true,if_true,if_false];exact wrapNeg N (by omega)
theorem lWhole_pos (s D : ByteArray) (w : World) (hs : s.size ≤ maxLen) (hD : D.size ≤ maxLen) (h0 : 0 < D.size)
    (Ht : Hid (∀ wx : World,Calls Tryz.prog 114 #[.string s,.string ⟨#[45]⟩] wx fun e w' => e = .returned (.string D) ∧ w' = wx))
    (hne : (D.toList == s.toList) = true) (Hdig : Hid (∀ k (h : k < D.size),dgC D[k] = true)) (hne0 : (D.toList == []) = false) (hz : ((D[0].toNat : Int) == 48) = false) (HZ : Hid (headIs (· == 48) D.data.toList = false ∨ D.data.toList.length ≤ 1)) : Calls Tryz.prog 105 #[.string s] w (WholeR false D.data.toList w) := by
    unfold maxLen at hs hD
    go_enter Tryz.func105,Tryz.ntmps105;(try simp only [List.append_eq,List.cons_append,List.nil_append])
    go_wp2_with (go_at_call 114;refine (Ht.out _).mono ?_;rintro e w' ⟨rfl,rfl⟩)
    go_loop [33,6] (fun i n => ∃ k : Nat,k ≤ D.size ∧ i = .int .i64 k ∧ decV (D.data.toList.take k) < 18446744073709551616 ∧ n = .int .u64 (decV (D.data.toList.take k) : Nat)) (fun i _ => D.size - (intOf i).toNat)
    case atStart => exact ⟨0,Nat.zero_le _,rfl,by simp [decV],by simp [decV]⟩
    case round =>
      obtain ⟨k,hk,rfl,hn,rfl⟩ := hrel
      by_cases hlt : k < D.size
      · have hd := Hdig.out k hlt
        rw [dgC_iff] at hd;have hd' : 48 ≤ (D[k].toNat : Int) ∧ (D[k].toNat : Int) ≤ 57 := by simpa using hd
        obtain ⟨hd1,hd2⟩ := hd';clear hd;have hsn : decV (D.data.toList.take (k + 1)) = decV (D.data.toList.take k) * 10 + (D[k].toNat - 48) := by
          rw [List.take_succ_eq_append_getElem (by simpa using hlt),decV_snoc];rfl
        have Hle := Lib.hid (decV_take D.data.toList (k + 1));have Hsn := Lib.hid hsn;clear hsn;generalize hN : decV (D.data.toList.take k) = N at Hsn hn ⊢;clear hN;have hmul := fun wx => Tryz.bits_Mul64 N 10 (by omega) (by omega) wx
        obtain ⟨H,hH⟩ : ∃ H,N * 10 / 18446744073709551616 = H := ⟨_,rfl⟩;obtain ⟨L,hL⟩ : ∃ L,N * 10 % 18446744073709551616 = L := ⟨_,rfl⟩;rw [hH,hL] at hmul;have Hm := Lib.hid hmul;clear hmul;have hH9 : H ≤ 9 := by omega
        have hL9 : L < 18446744073709551616 := by omega
        have hNL : N * 10 = H * 18446744073709551616 + L := by omega
        have HNL := Lib.hid hNL;clear hNL hH hL;have hadd := fun wx => add64i (L : Int) ((D[k].toNat : Int) - 48) (by omega) (by omega) wx
        obtain ⟨S,hS⟩ : ∃ S,((L : Int) + ((D[k].toNat : Int) - 48)) % 18446744073709551616 = S := ⟨_,rfl⟩;obtain ⟨C,hC⟩ : ∃ C,((L : Int) + ((D[k].toNat : Int) - 48)) / 18446744073709551616 = C := ⟨_,rfl⟩;rw [hS,hC] at hadd;have hS0 : 0 ≤ S := by omega
        have hS1 : S < 18446744073709551616 := by omega
        have hC0 : 0 ≤ C := by omega
        have hC1 : C ≤ 1 := by omega
        have HSC : Hid ((L : Int) + ((D[k].toNat : Int) - 48) = C * 18446744073709551616 + S) := by show _ = _;omega
        clear hS hC
        by_cases hbig : (H : Int) + C = 0
        · have hb0 : ((H : Int) + C != 0) = false := by simp [hbig]
          have Hbig := Lib.hid hbig;clear hbig
          go_wp2_with (first
            | (go_at_call 115;refine (Hm.out _).mono ?_;rintro e w' ⟨rfl,rfl⟩)
            | (simp only [hadd]))
          go_round
          case rel =>
            have e1 := Hsn.out;have e2 := HNL.out;have e3 := HSC.out;have e4 := Hbig.out;refine ⟨k + 1,by omega,by go_num,by rw [e1];omega,?_⟩;rw [e1];have : S = ((N * 10 + (D[k].toNat - 48) : Nat) : Int) := by omega
            rw [this]
          case measure => simp [intOf];omega
        · have hb0 : ((H : Int) + C != 0) = true := by simp [hbig]
          have Hbig := Lib.hid hbig;clear hbig
          go_wp2_with (first
            | (go_at_call 115;refine (Hm.out _).mono ?_;rintro e w' ⟨rfl,rfl⟩)
            | (simp only [hadd]))
          go_ret2
          have e1 := Hsn.out;have e2 := HNL.out;have e3 := HSC.out;have e4 := Hbig.out;have e5 := Hle.out;rw [e1] at e5;have hw : wokD false D.data.toList = false := wokD_big (by omega);exact wholeR_mk (x := 0) (b := false) rfl hw.symm (fun h => Bool.noConfusion h)
      · have hk' : k = D.size := by omega
        have e0 : D.data.toList.take k = D.data.toList := List.take_of_length_le (by simp;omega);rw [e0] at hn ⊢;have hwk : wokD false D.data.toList = decide (decV D.data.toList < 9223372036854775808) := wokD_pos HZ.out;have Hwk := Lib.hid hwk;clear hwk;clear e0 hk';have Hnn : Hid (decV D.data.toList = decV D.data.toList) := rfl;obtain ⟨N,hN⟩ : ∃ N,decV D.data.toList = N := ⟨_,rfl⟩;have HN := Lib.hid hN;rw [hN] at hn ⊢;clear hN;go_wp2
        go_ret2
        refine wholeR_mk rfl ?_ ?_
        · rw [Hwk.out,HN.out,decide_eq_decide];omega
        · intro h
          simp only [decide_eq_true_eq] at h;rw [HN.out];simp only [Bool.false_eq_true,if_true,if_false];exact wrapPos N (by omega)
theorem lWhole_one (s D : ByteArray) (w : World) (hs : s.size ≤ maxLen) (hD : D.size ≤ maxLen) (h0 : 0 < D.size)
    (Ht : Hid (∀ wx : World,Calls Tryz.prog 114 #[.string s,.string ⟨#[45]⟩] wx fun e w' => e = .returned (.string D) ∧ w' = wx))
    (hne : (D.toList == s.toList) = true) (Hdig : Hid (∀ k (h : k < D.size),dgC D[k] = true)) (hne0 : (D.toList == []) = false) (hz : ((D[0].toNat : Int) == 48) = true) (h1 : (D.size : Int) ≤ 1) (HZ : Hid (headIs (· == 48) D.data.toList = false ∨ D.data.toList.length ≤ 1)) : Calls Tryz.prog 105 #[.string s] w (WholeR false D.data.toList w) := by
    unfold maxLen at hs hD
    go_enter Tryz.func105,Tryz.ntmps105;(try simp only [List.append_eq,List.cons_append,List.nil_append])
    go_wp2_with (go_at_call 114;refine (Ht.out _).mono ?_;rintro e w' ⟨rfl,rfl⟩)
    go_loop [33,6] (fun i n => ∃ k : Nat,k ≤ D.size ∧ i = .int .i64 k ∧ decV (D.data.toList.take k) < 18446744073709551616 ∧ n = .int .u64 (decV (D.data.toList.take k) : Nat)) (fun i _ => D.size - (intOf i).toNat)
    case atStart => exact ⟨0,Nat.zero_le _,rfl,by simp [decV],by simp [decV]⟩
    case round =>
      obtain ⟨k,hk,rfl,hn,rfl⟩ := hrel
      by_cases hlt : k < D.size
      · have hd := Hdig.out k hlt
        rw [dgC_iff] at hd;have hd' : 48 ≤ (D[k].toNat : Int) ∧ (D[k].toNat : Int) ≤ 57 := by simpa using hd
        obtain ⟨hd1,hd2⟩ := hd';clear hd;have hsn : decV (D.data.toList.take (k + 1)) = decV (D.data.toList.take k) * 10 + (D[k].toNat - 48) := by
          rw [List.take_succ_eq_append_getElem (by simpa using hlt),decV_snoc];rfl
        have Hle := Lib.hid (decV_take D.data.toList (k + 1));have Hsn := Lib.hid hsn;clear hsn;generalize hN : decV (D.data.toList.take k) = N at Hsn hn ⊢;clear hN;have hmul := fun wx => Tryz.bits_Mul64 N 10 (by omega) (by omega) wx
        obtain ⟨H,hH⟩ : ∃ H,N * 10 / 18446744073709551616 = H := ⟨_,rfl⟩;obtain ⟨L,hL⟩ : ∃ L,N * 10 % 18446744073709551616 = L := ⟨_,rfl⟩;rw [hH,hL] at hmul;have Hm := Lib.hid hmul;clear hmul;have hH9 : H ≤ 9 := by omega
        have hL9 : L < 18446744073709551616 := by omega
        have hNL : N * 10 = H * 18446744073709551616 + L := by omega
        have HNL := Lib.hid hNL;clear hNL hH hL;have hadd := fun wx => add64i (L : Int) ((D[k].toNat : Int) - 48) (by omega) (by omega) wx
        obtain ⟨S,hS⟩ : ∃ S,((L : Int) + ((D[k].toNat : Int) - 48)) % 18446744073709551616 = S := ⟨_,rfl⟩;obtain ⟨C,hC⟩ : ∃ C,((L : Int) + ((D[k].toNat : Int) - 48)) / 18446744073709551616 = C := ⟨_,rfl⟩;rw [hS,hC] at hadd;have hS0 : 0 ≤ S := by omega
        have hS1 : S < 18446744073709551616 := by omega
        have hC0 : 0 ≤ C := by omega
        have hC1 : C ≤ 1 := by omega
        have HSC : Hid ((L : Int) + ((D[k].toNat : Int) - 48) = C * 18446744073709551616 + S) := by show _ = _;omega
        clear hS hC
        by_cases hbig : (H : Int) + C = 0
        · have hb0 : ((H : Int) + C != 0) = false := by simp [hbig]
          have Hbig := Lib.hid hbig;clear hbig
          go_wp2_with (first
            | (go_at_call 115;refine (Hm.out _).mono ?_;rintro e w' ⟨rfl,rfl⟩)
            | (simp only [hadd]))
          go_round
          case rel =>
            have e1 := Hsn.out;have e2 := HNL.out;have e3 := HSC.out;have e4 := Hbig.out;refine ⟨k + 1,by omega,by go_num,by rw [e1];omega,?_⟩;rw [e1];have : S = ((N * 10 + (D[k].toNat - 48) : Nat) : Int) := by omega
            rw [this]
          case measure => simp [intOf];omega
        · have hb0 : ((H : Int) + C != 0) = true := by simp [hbig]
          have Hbig := Lib.hid hbig;clear hbig
          go_wp2_with (first
            | (go_at_call 115;refine (Hm.out _).mono ?_;rintro e w' ⟨rfl,rfl⟩)
            | (simp only [hadd]))
          go_ret2
          have e1 := Hsn.out;have e2 := HNL.out;have e3 := HSC.out;have e4 := Hbig.out;have e5 := Hle.out;rw [e1] at e5;have hw : wokD false D.data.toList = false := wokD_big (by omega);exact wholeR_mk (x := 0) (b := false) rfl hw.symm (fun h => Bool.noConfusion h)
      · have hk' : k = D.size := by omega
        have e0 : D.data.toList.take k = D.data.toList := List.take_of_length_le (by simp;omega);rw [e0] at hn ⊢;have hwk : wokD false D.data.toList = decide (decV D.data.toList < 9223372036854775808) := wokD_pos HZ.out;have Hwk := Lib.hid hwk;clear hwk;clear e0 hk';have Hnn : Hid (decV D.data.toList = decV D.data.toList) := rfl;obtain ⟨N,hN⟩ : ∃ N,decV D.data.toList = N := ⟨_,rfl⟩;have HN := Lib.hid hN;rw [hN] at hn ⊢;clear hN;go_wp2
        go_ret2
        refine wholeR_mk rfl ?_ ?_
        · rw [Hwk.out,HN.out,decide_eq_decide];omega
        · intro h
          simp only [decide_eq_true_eq] at h;rw [HN.out];simp only [Bool.false_eq_true,if_true,if_false];exact wrapPos N (by omega)
theorem lWhole_zero (s D : ByteArray) (w : World) (hs : s.size ≤ maxLen) (hD : D.size ≤ maxLen) (h0 : 0 < D.size)
    (Ht : Hid (∀ wx : World,Calls Tryz.prog 114 #[.string s,.string ⟨#[45]⟩] wx fun e w' => e = .returned (.string D) ∧ w' = wx))
    (hne : (D.toList == s.toList) = true) (hne0 : (D.toList == []) = false) (hz : ((D[0].toNat : Int) == 48) = true) (h1 : 1 < (D.size : Int)) (Hw : Hid (wokD false D.data.toList = false)) : Calls Tryz.prog 105 #[.string s] w (WholeR false D.data.toList w) := by
    unfold maxLen at hs hD
    go_enter Tryz.func105,Tryz.ntmps105;(try simp only [List.append_eq,List.cons_append,List.nil_append])
    go_wp2_with (go_at_call 114;refine (Ht.out _).mono ?_;rintro e w' ⟨rfl,rfl⟩)
    go_ret2
    exact wholeR_mk (x := 0) (b := false) rfl Hw.out.symm (fun h => Bool.noConfusion h)
theorem lWhole_minus (s D : ByteArray) (w : World) (hs : s.size ≤ maxLen) (hD : D.size ≤ maxLen) (h0 : 0 < D.size)
    (Ht : Hid (∀ wx : World,Calls Tryz.prog 114 #[.string s,.string ⟨#[45]⟩] wx fun e w' => e = .returned (.string D) ∧ w' = wx))
    (hne : (D.toList == s.toList) = false) (hne0 : (D.toList == []) = false) (hz : ((D[0].toNat : Int) == 48) = true) (Hw : Hid (wokD true D.data.toList = false)) : Calls Tryz.prog 105 #[.string s] w (WholeR true D.data.toList w) := by
    unfold maxLen at hs hD
    go_enter Tryz.func105,Tryz.ntmps105;(try simp only [List.append_eq,List.cons_append,List.nil_append])
    go_wp2_with (go_at_call 114;refine (Ht.out _).mono ?_;rintro e w' ⟨rfl,rfl⟩)
    all_goals go_ret2
    all_goals exact wholeR_mk (x := 0) (b := false) rfl Hw.out.symm (fun h => Bool.noConfusion h)
theorem lWhole (s : ByteArray) (neg : Bool) (dl : List UInt8) (w : World) (hs : s.size ≤ maxLen) (hl : s.data.toList = if neg then 45 :: dl else dl) (h0 : dl ≠ []) (hdig : dl.all dgC = true) :
    Calls Tryz.prog 105 #[.string s] w (WholeR neg dl w) := by
  have hsz : s.size = s.data.toList.length := by simp
  have htr : Lib.trimPrefix s.data.toList [45] = dl := by
    rw [hl];cases neg
    · match dl,h0,hdig with
      | c :: r,_,hd =>
        simp only [List.all_cons,Bool.and_eq_true] at hd;have : (45 == c) = false := by
          rw [Bool.eq_false_iff];intro e;simp only [beq_iff_eq] at e;rw [← e] at hd;exact absurd hd.1 (by decide)
        simp [Lib.trimPrefix,Lib.hasPrefix,List.isPrefixOf,this]
    · simp [Lib.trimPrefix,Lib.hasPrefix]
  have Ht : Hid (∀ wx : World,Calls Tryz.prog 114 #[.string s,.string ⟨#[45]⟩] wx fun e w' => e = .returned (.string ⟨dl.toArray⟩) ∧ w' = wx) := fun wx => by
    have := Tryz.strings_TrimPrefix s ⟨#[45]⟩ wx;rw [htr] at this;exact this
  have hD : (⟨dl.toArray⟩ : ByteArray).size = dl.length := rfl
  have hlen : dl.length ≤ s.size := by rw [hsz,hl];cases neg <;> simp
  have hpos : 0 < dl.length := List.length_pos_iff.2 h0
  have Hdig : Hid (∀ k (h : k < (⟨dl.toArray⟩ : ByteArray).size),dgC (⟨dl.toArray⟩ : ByteArray)[k] = true) := fun k h => List.all_eq_true.1 hdig _ (List.getElem_mem (by exact h))
  have hne0 : ((⟨dl.toArray⟩ : ByteArray).toList == []) = false := by
    rw [ByteArray.toList_eq];show (dl == []) = false;simpa using h0
  have hne : ((⟨dl.toArray⟩ : ByteArray).toList == s.toList) = !neg := by
    rw [ByteArray.toList_eq,ByteArray.toList_eq,hl];cases neg
    · simp
    · show (dl == 45 :: dl) = false
      rw [Bool.eq_false_iff];intro e;simp only [beq_iff_eq] at e;have := congrArg List.length e
      simp at this
  have hh : headIs (· == 48) dl = ((⟨dl.toArray⟩ : ByteArray)[0]'(by rw [hD];exact hpos) == 48) := headIs_at (p := (· == 48)) (s := ⟨dl.toArray⟩) (k := 0) hpos
  have hc : ((((⟨dl.toArray⟩ : ByteArray)[0]'(by rw [hD];exact hpos)).toNat : Int) == 48) = headIs (· == 48) dl := by
    rw [hh,Bool.eq_iff_iff];simp only [beq_iff_eq];have := u8_eq_iff ((⟨dl.toArray⟩ : ByteArray)[0]'(by rw [hD];exact hpos)) 48 (by omega);rw [show UInt8.ofNat 48 = 48 from rfl] at this;exact this.symm
  cases hz : headIs (· == 48) dl with
  | false =>
    rw [hz] at hc;cases neg
    · exact lWhole_pos s ⟨dl.toArray⟩ w hs (by rw [hD];omega) (by rw [hD];exact hpos) Ht hne Hdig hne0 hc (.inl hz)
    · exact lWhole_neg s ⟨dl.toArray⟩ w hs (by rw [hD];omega) (by rw [hD];exact hpos) Ht hne Hdig hne0 hc hz
  | true =>
    rw [hz] at hc;cases neg
    · by_cases h1 : dl.length ≤ 1
      · exact lWhole_one s ⟨dl.toArray⟩ w hs (by rw [hD];omega) (by rw [hD];exact hpos) Ht hne Hdig hne0 hc (by rw [hD];omega) (.inr h1)
      · exact lWhole_zero s ⟨dl.toArray⟩ w hs (by rw [hD];omega) (by rw [hD];exact hpos) Ht hne hne0 hc (by rw [hD];omega) (Lib.hid (wokD_zero (l := dl) hz (.inr (by omega))))
    · exact lWhole_minus s ⟨dl.toArray⟩ w hs (by rw [hD];omega) (by rw [hD];exact hpos) Ht hne hne0 hc (Lib.hid (wokD_zero (l := dl) hz (.inl rfl)))
end Go.Proofs.YtpmbamfpmmdhcaaGreat
namespace Go.Proofs.YtpmbamfpmmdhcaaGreat
open Go.Shelf
open Go.RowKit
set_option linter.unusedSimpArgs false
set_option linter.unusedVariables false
theorem halfYes (c : UInt8) (h : hexC c = true) (w : World) : Calls Tryz.prog 113 #[.int .u8 c.toNat] w fun e w' => e = .returned (.tuple #[.int .u8 (hexV c : Nat),.bool true]) ∧ w = w' :=
  (lHalf c w).mono fun e w' ⟨x,he,hx,hw⟩ => ⟨by rw [he,hx h,h],hw⟩
theorem halfNo (c : UInt8) (h : hexC c = false) (w : World) : Calls Tryz.prog 113 #[.int .u8 c.toNat] w fun e w' => ∃ x : Int,e = .returned (.tuple #[.int .u8 x,.bool false]) ∧ w = w' :=
  (lHalf c w).mono fun e w' ⟨x,he,hx,hw⟩ => ⟨x,by rw [he,h],hw⟩
theorem lText (s : ByteArray) (a : Nat) (w : World) (hs : s.size ≤ 16384) (ha : a < s.size) :
    Calls Tryz.prog 102 #[.string s,.int .i64 a] w fun e w' => e = .returned (textV (textR (sl s (a + 1)))) ∧ Below w.heap.size w w' := by
  obtain ⟨i0,hi,hz0,hz1,hz2⟩ := info_parts infoB
  go_enter Tryz.func102,Tryz.ntmps102;(try simp only [List.append_eq,List.cons_append,List.nil_append])
  go_wp2
  go_step3
  go_wp2
  go_step3
  go_wp2
  go_loopw [7,8] (fun v i wr => ∃ (k : Nat) (l : List UInt8),a + 1 ≤ k ∧ k ≤ s.size ∧ i = .int .i64 k ∧ l.length ≤ k ∧ OwnB w.heap.size wr v l ∧ TxtI s a k l ∧ Below w.heap.size w wr) (fun _ i _ => s.size - (intOf i).toNat)
  case atStart => exact ⟨a + 1,[],by omega,by omega,by go_num,by simp,World.ownsRow_nil _ _ _ _,by unfold TxtI;simp,Below.refl _ _⟩
  case round =>
    obtain ⟨k,l,hak,hk,rfl,hlk,hown,hr,hb⟩ := hrel;have Hr := Lib.hid hr;clear hr;have Hb := Lib.hid hb;clear hb;obtain ⟨A,cap,rfl⟩ := ownB_slice hown;have Hown := Lib.hid hown;clear hown;have HL : l.length + 1 ≤ maxLen ∧ (l.length + 1) * 1 ≤ 140737488355328 := by unfold maxLen;omega
    by_cases hlt : k < s.size
    · by_cases c34 : s[k] = 34
      · have q1 : ((s[k].toNat : Int) == 34) = true := by rw [c34];rfl
        have Hq := Lib.hid (txt_quote Hr.out hlt hak c34);clear c34
        by_cases h64 : l.length ≤ 64
        · have hcv := ownB_convert Hown.out
          go_wp2
          try rw [Exit.noGoto_ret]
          go_ret3
          refine ⟨?_,Hb.out⟩;rw [Hq.out,if_pos h64]
          show Ending.returned (.tuple #[.string ⟨l.toArray⟩,.int .i64 ((k : Int) + 1 - (a : Int)),.bool true]) = .returned (.tuple #[.string ⟨l.toArray⟩,.int .i64 ((k + 1 - a : Nat) : Int),.bool true])
          rw [show ((k + 1 - a : Nat) : Int) = (k : Int) + 1 - (a : Int) by omega]
        · have h64' : 64 < l.length := by omega
          clear h64;go_wp2
          try rw [Exit.noGoto_ret]
          go_ret3
          refine ⟨?_,Hb.out⟩;rw [Hq.out,if_neg (by omega)];rfl
      · have q1 : ((s[k].toNat : Int) == 34) = false := u8ne (n := 34) (by omega) c34
        by_cases cbad : (s[k].toNat : Int) < 32 ∨ 126 < (s[k].toNat : Int)
        · have Hq := Lib.hid (txt_none Hr.out (by rw [sl_cons hlt];exact textAt_bad _ c34 (by simp only [UInt8.lt_iff_toNat_lt];simp;omega)))
          clear c34;rcases cbad with h | h
          all_goals go_wp2
          all_goals (try rw [Exit.noGoto_ret])
          all_goals go_ret3
          all_goals
            refine ⟨?_,Hb.out⟩;rw [Hq.out];rfl
        · have cb1 : 32 ≤ (s[k].toNat : Int) := by omega
          have cb2 : (s[k].toNat : Int) ≤ 126 := by omega
          clear cbad;have cb3 : decide (126 < (s[k].toNat : Int)) = false := decide_eq_false (by omega);have cb4 : decide ((s[k].toNat : Int) < 32) = false := decide_eq_false (by omega);have cb5 : ¬ s[k].toNat < 32 := by omega
          by_cases c92 : s[k] = 92
          · have q2 : ((s[k].toNat : Int) != 92) = false := by rw [c92];rfl
            by_cases h1 : k + 1 < s.size
            · have e1 : sl s k = 92 :: s[k + 1] :: sl s (k + 2) := by rw [sl_cons hlt,sl_cons h1,c92]
              have hi1 : (k : Int) + 1 < s.size := by omega
              by_cases hd : s[k + 1] = 92 ∨ s[k + 1] = 34
              · have Hst := Lib.hid (txt_step (n := 2) (c := s[k + 1]) Hr.out hak (by rw [e1];exact textAt_esc _ hd))
                rcases hd with hd | hd
                · have q3 : ((s[k + 1].toNat : Int) == 92) = true := by rw [hd];rfl
                  clear c34 c92 e1 hd
                  go_wp2_with (at_builtin;refine wpList_append_own_at _ rfl _ _ 45 rfl w.heap.size 5 i0 _ 1 1 Tryz.underlying45 hi hz0 hz1 hz2 rfl (by decide) _ l.length (bc l) rfl (Hown.out.alloc _) ⟨wr.heap.size,0,none⟩ 1 1 [.int .u8 (s[k + 1].toNat : Int)] rfl rfl (one_new _ _ _) (one_u8 _) HL.1 HL.2 (Nat.le_trans Hb.out.size (by simp)) ?_;intro v1 w1 hown1 hgr1 _ _)
                  refine ⟨⟨k + 2,l ++ [s[k + 1]],by omega,by omega,by go_num,by simp;omega,by unfold OwnB;rw [bc_snoc,List.length_append];exact hown1,Hst.out,below_app (Hb.out.alloc Hb.out.size _) (Hown.out.alloc _) hgr1 (Nat.le_refl _) (Nat.le_trans Hb.out.size (by simp))⟩,by simp [intOf];omega⟩
                · have q3 : ((s[k + 1].toNat : Int) == 92) = false := by rw [hd];rfl
                  have q4 : ((s[k + 1].toNat : Int) == 34) = true := by rw [hd];rfl
                  clear c34 c92 e1 hd
                  go_wp2_with (at_builtin;refine wpList_append_own_at _ rfl _ _ 45 rfl w.heap.size 5 i0 _ 1 1 Tryz.underlying45 hi hz0 hz1 hz2 rfl (by decide) _ l.length (bc l) rfl (Hown.out.alloc _) ⟨wr.heap.size,0,none⟩ 1 1 [.int .u8 (s[k + 1].toNat : Int)] rfl rfl (one_new _ _ _) (one_u8 _) HL.1 HL.2 (Nat.le_trans Hb.out.size (by simp)) ?_;intro v1 w1 hown1 hgr1 _ _)
                  refine ⟨⟨k + 2,l ++ [s[k + 1]],by omega,by omega,by go_num,by simp;omega,by unfold OwnB;rw [bc_snoc,List.length_append];exact hown1,Hst.out,below_app (Hb.out.alloc Hb.out.size _) (Hown.out.alloc _) hgr1 (Nat.le_refl _) (Nat.le_trans Hb.out.size (by simp))⟩,by simp [intOf];omega⟩
              · have q3 : ((s[k + 1].toNat : Int) == 92) = false := u8ne (n := 92) (by omega) (fun e => hd (.inl e))
                have q4 : ((s[k + 1].toNat : Int) == 34) = false := u8ne (n := 34) (by omega) (fun e => hd (.inr e));have hhd : headIs (fun d => d == 92 || d == 34) (sl s (k + 1)) = false := by rw [headIs_at h1];simp;exact ⟨fun e => hd (.inl e),fun e => hd (.inr e)⟩
                by_cases h3 : k + 3 < s.size
                · have e3 : sl s (k + 1) = s[k + 1] :: s[k + 2] :: s[k + 3] :: sl s (k + 4) := by rw [sl_cons h1,sl_cons (by omega : k + 1 + 1 < s.size),sl_cons (by omega : k + 1 + 1 + 1 < s.size)]
                  have hi3 : ¬ (s.size : Int) ≤ (k : Int) + 3 := by omega
                  have g4 : decide ((s.size : Int) ≤ (k : Int) + 3) = false := decide_eq_false hi3
                  by_cases hx : s[k + 1] = 120
                  · have q5 : ((s[k + 1].toNat : Int) != 120) = false := by rw [hx];rfl
                    have HA := Lib.hid (halfYes s[k + 2]);have HB := Lib.hid (halfYes s[k + 3]);have HA' := Lib.hid (halfNo s[k + 2]);have HB' := Lib.hid (halfNo s[k + 3]);cases ha : hexC s[k + 2] with
                    | false =>
                      have Hq := Lib.hid (txt_none Hr.out (by
                        rw [sl_cons hlt,c92];refine textAt_no hhd (fun a b r' e => ?_);rw [e3,hx] at e;simp only [List.cons.injEq,true_and] at e;obtain ⟨rfl,rfl,-⟩ := e;exact .inl ha))
                      have HA2 := Lib.hid (HA'.out ha);have HB2 := Lib.hid (fun wx => lHalf s[k + 3] wx);clear HA HB HA' HB' c34 c92 hd e1 hhd e3 hx ha;have tk1 : True := trivial
                      go_wp2_with (first
                        | (go_at_call 113;have _t := tk1;clear tk1;refine (HA2.out _).mono ?_;rintro e w' ⟨x,rfl,rfl⟩;have tk2 : True := trivial)
                        | (go_at_call 113;have _t := tk2;clear tk2;refine (HB2.out _).mono ?_;rintro e w' ⟨y,rfl,-,rfl⟩))
                      try rw [Exit.noGoto_ret]
                      go_ret3
                      refine ⟨?_,Hb.out⟩;rw [Hq.out];rfl
                    | true =>
                      cases hb' : hexC s[k + 3] with
                      | false =>
                        have Hq := Lib.hid (txt_none Hr.out (by
                          rw [sl_cons hlt,c92];refine textAt_no hhd (fun a b r' e => ?_);rw [e3,hx] at e;simp only [List.cons.injEq,true_and] at e;obtain ⟨rfl,rfl,-⟩ := e;exact .inr hb'))
                        have HA2 := Lib.hid (HA.out ha);have HB2 := Lib.hid (HB'.out hb');clear HA HB HA' HB' c34 c92 hd e1 hhd e3 hx ha hb';have tk1 : True := trivial
                        go_wp2_with (first
                          | (go_at_call 113;have _t := tk1;clear tk1;refine (HA2.out _).mono ?_;rintro e w' ⟨rfl,rfl⟩;have tk2 : True := trivial)
                          | (go_at_call 113;have _t := tk2;clear tk2;refine (HB2.out _).mono ?_;rintro e w' ⟨y,rfl,rfl⟩))
                        try rw [Exit.noGoto_ret]
                        go_ret3
                        refine ⟨?_,Hb.out⟩;rw [Hq.out];rfl
                      | true =>
                        have Hst := Lib.hid (txt_step (n := 4) (c := UInt8.ofNat (16 * hexV s[k + 2] + hexV s[k + 3])) Hr.out hak (by rw [sl_cons hlt,c92,e3,hx];exact textAt_hex _ ha hb'));have HA2 := Lib.hid (HA.out ha);have HB2 := Lib.hid (HB.out hb');have hle1 := hexV_le ha;have hle2 := hexV_le hb';have hor := hexOr hle1 hle2;obtain ⟨V,hV⟩ : ∃ V : Int,((UInt8.ofNat (16 * hexV s[k + 2] + hexV s[k + 3])).toNat : Int) = V := ⟨_,rfl⟩;rw [hV] at hor;have HV := Lib.hid hV;generalize hexV s[k + 2] = A2 at hor HA2 HV Hst;generalize hexV s[k + 3] = B2 at hor HB2 HV Hst;clear hV hle1 hle2 HA HB HA' HB' ha hb' c34 c92 hd e1 hhd e3 hx;have tk1 : True := trivial
                        go_wp2_with (first
                          | (go_at_call 113;have _t := tk1;clear tk1;refine (HA2.out _).mono ?_;rintro e w' ⟨rfl,rfl⟩;have tk2 : True := trivial)
                          | (go_at_call 113;have _t := tk2;clear tk2;refine (HB2.out _).mono ?_;rintro e w' ⟨rfl,rfl⟩)
                          | (at_builtin;refine wpList_append_own_at _ rfl _ _ 45 rfl w.heap.size 5 i0 _ 1 1 Tryz.underlying45 hi hz0 hz1 hz2 rfl (by decide) _ l.length (bc l) rfl (Hown.out.alloc _) ⟨wr.heap.size,0,none⟩ 1 1 [.int .u8 V] rfl rfl (one_new _ _ _) (one_u8 _) HL.1 HL.2 (Nat.le_trans Hb.out.size (by simp)) ?_;intro v1 w1 hown1 hgr1 _ _))
                        rw [← HV.out] at hown1;refine ⟨⟨k + 4,l ++ [UInt8.ofNat (16 * A2 + B2)],by omega,by omega,by go_num,by simp;omega,by unfold OwnB;rw [bc_snoc,List.length_append];exact hown1,Hst.out,below_app (Hb.out.alloc Hb.out.size _) (Hown.out.alloc _) hgr1 (Nat.le_refl _) (Nat.le_trans Hb.out.size (by simp))⟩,by simp [intOf];omega⟩
                  · have q5 : ((s[k + 1].toNat : Int) != 120) = true := by
                      have := u8ne (n := 120) (by omega) hx;simp only [bne,Bool.not_eq_true'];exact this
                    have Hq := Lib.hid (txt_none Hr.out (by rw [sl_cons hlt,c92];refine textAt_no hhd (fun a b r' e => ?_);rw [e3] at e;injection e with e _;exact absurd e hx));clear c34 c92 hd e1 hhd e3 hx;go_wp2
                    try rw [Exit.noGoto_ret]
                    go_ret3
                    refine ⟨?_,Hb.out⟩;rw [Hq.out];rfl
                · have g3 : (s.size : Int) ≤ (k : Int) + 3 := by omega
                  have g4 : decide ((s.size : Int) ≤ (k : Int) + 3) = true := decide_eq_true g3;have Hq := Lib.hid (txt_none Hr.out (by
                    rw [sl_cons hlt,c92];refine textAt_no hhd (fun a b r' e => ?_);have := congrArg List.length e;rw [sl_length] at this
                    simp at this
                    omega))
                  clear c34 c92 hd e1 hhd;go_wp2
                  try rw [Exit.noGoto_ret]
                  go_ret3
                  refine ⟨?_,Hb.out⟩;rw [Hq.out];rfl
            · have Hq := Lib.hid (txt_none Hr.out (by rw [sl_cons hlt,c92,sl_end (by omega)];rfl))
              clear c34 c92;have g1 : ¬ ((k : Int) + 1 < (s.size : Int)) := by omega
              have g3 : (s.size : Int) ≤ (k : Int) + 3 := by omega
              have g4 : decide ((s.size : Int) ≤ (k : Int) + 3) = true := decide_eq_true g3;go_wp2
              try rw [Exit.noGoto_ret]
              go_ret3
              refine ⟨?_,Hb.out⟩;rw [Hq.out];rfl
          · have q2 : ((s[k].toNat : Int) != 92) = true := by
              have := u8ne (n := 92) (by omega) c92;simp only [bne,Bool.not_eq_true'];exact this
            have Hst := Lib.hid (txt_step (n := 1) (c := s[k]) Hr.out hak (by rw [sl_cons hlt];exact textAt_plain _ c34 (by simp only [UInt8.le_iff_toNat_le];simp;omega) (by simp only [UInt8.le_iff_toNat_le];simp;omega) c92));clear c34 c92
            go_wp2_with (at_builtin;refine wpList_append_own_at _ rfl _ _ 45 rfl w.heap.size 5 i0 _ 1 1 Tryz.underlying45 hi hz0 hz1 hz2 rfl (by decide) _ l.length (bc l) rfl (Hown.out.alloc _) ⟨wr.heap.size,0,none⟩ 1 1 [.int .u8 (s[k].toNat : Int)] rfl rfl (one_new _ _ _) (one_u8 _) HL.1 HL.2 (Nat.le_trans Hb.out.size (by simp)) ?_;intro v1 w1 hown1 hgr1 _ _)
            refine ⟨⟨k + 1,l ++ [s[k]],by omega,by omega,by go_num,by simp;omega,by unfold OwnB;rw [bc_snoc,List.length_append];exact hown1,Hst.out,below_app (Hb.out.alloc Hb.out.size _) (Hown.out.alloc _) hgr1 (Nat.le_refl _) (Nat.le_trans Hb.out.size (by simp))⟩,by simp [intOf];omega⟩
    · go_wp2
      try rw [Exit.noGoto_ret]
      go_ret3
      refine ⟨?_,Hb.out⟩;rw [txt_end Hr.out (by omega)];rfl
end Go.Proofs.YtpmbamfpmmdhcaaGreat
