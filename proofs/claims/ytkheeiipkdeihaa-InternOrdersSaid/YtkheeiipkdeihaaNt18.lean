/- The law InternOrders: the walk. -/
import Derived.Test.YtkheeiipkdeihaaNt17
namespace Go.Proofs.Ytkheeiipkdeihaa
open Go.RowKit
set_option linter.unusedSimpArgs false
set_option linter.unusedVariables false
open Go.Maps

set_option maxRecDepth 100000 in
set_option maxHeartbeats 16000000 in
theorem internOrders12 {n : Nat} {W : World} {v : Value} {l : List Sr} (hn : n ≤ W.heap.size) (hl : IsSers n W v l) :
    Calls Try.prog 3 #[v] W fun e w' => e = .returned (.bool true) ∧ Below W.heap.size W w' := by
  obtain ⟨p, cap, rfl, h2⟩ := hl.open
  have HL := Lib.hid hl; have HN := Lib.hid hn
  unfold maxLen at h2
  obtain ⟨N, hN⟩ : ∃ z, l.length = z := ⟨_, rfl⟩
  have HLI := Lib.hid (fun (X : World) (hX : Below W.heap.size W X) => light12 (Nat.le_trans hn hX.size) (hl.mono (hX.mono hn) (Nat.le_refl _)))
  rw [hN] at HL h2 HLI ⊢
  have HNL := Lib.hid hN
  clear hl hN hn
  go_enter Try.func3, Try.ntmps3; (try simp only [List.append_eq, List.cons_append, List.nil_append])
  go_wp2_with fail
  refine (lives12 W).mono ?_
  rintro e w1 ⟨rfl, hb1⟩
  have HW1 := Lib.hid hb1
  clear hb1
  go_wp2_with fail
  refine (HLI.out w1 HW1.out).mono ?_
  rintro e w2 ⟨⟨r, rfl, hr⟩, hw2⟩
  subst hw2
  obtain ⟨w1, rfl⟩ : ∃ z, z = w2 := ⟨_, rfl⟩
  cases r with
  | false =>
    go_wp2
    go_ret
    exact ⟨rfl, HW1.out⟩
  | true =>
  have h80 := hr rfl
  clear hr HLI
  go_wp2_with fail
  refine (tNew w1).mono ?_
  rintro e w3 ⟨rfl, hT, hb, hs⟩
  have hbs := HW1.out.size
  have hT3 : TabB W.heap.size (fun k => k = w3.heap.size) w3 (w1.heap.size + 3) [] 0 := ⟨_, hT, fun k hk => ⟨by omega, by omega⟩⟩
  have hW3 := HW1.out.trans (hb.mono HW1.out.size)
  have hbm : Below w3.heap.size w3 (w3.alloc (.map #[] 0)) := (Below.refl _ _).alloc (Nat.le_refl _) _
  have hT4 := hT3.keep hbm
  have hK4 := KnM.made w3
  have hW4 := hW3.trans (hbm.mono hW3.size)
  obtain ⟨g, hg⟩ : ∃ z, w1.heap.size + 3 = z := ⟨_, rfl⟩
  rw [hg] at hT4 ⊢
  obtain ⟨hk, hhk⟩ : ∃ z, w3.heap.size = z := ⟨_, rfl⟩
  have HHK := Lib.hid hhk
  have hkb : W.heap.size ≤ hk := by omega
  rw [hhk] at hT4 hK4
  have HT := Lib.hid hT4; have HK := Lib.hid hK4; have HW := Lib.hid hW4
  clear hT hb hs hbs hT3 hW3 hbm hT4 hK4 hW4 hg hhk HW1
  have hmm := @run_makeMap Try.prog
  go_upto_region 9 with fail
  obtain ⟨Y, hY⟩ : ∃ z, w3.alloc (.map #[] 0) = z := ⟨_, rfl⟩
  rw [hY] at HT HK HW ⊢
  rw [show (Value.map (some w3.heap.size)) = .map (some hk) by rw [HHK.out]]
  clear hY hmm HHK
  go_loopw [5, 6] (Loop12 W hk g N) (fun _ j _ => N - (intOf j).toNat)
  case atStart => exact ⟨0, [], 0, Nat.zero_le _, rfl, rfl, HT.out, HK.out, Nat.le_refl _, Nat.le_refl _, HW.out⟩
  case round =>
    clear HT HK HW
    obtain ⟨k, T, c, hkN, rfl, rfl, hT, hK, hTl, hc, hW⟩ := hrel
    obtain ⟨X, rfl⟩ : ∃ z, z = wr := ⟨_, rfl⟩
    have HT := Lib.hid hT; have HK := Lib.hid hK; have HW := Lib.hid hW; have HTL := Lib.hid hTl; have HC := Lib.hid hc
    obtain ⟨C, hC⟩ : ∃ z, (idsOf cpuB T).length = z := ⟨_, rfl⟩
    rw [hC]
    have HCL := Lib.hid hC
    have hC80 : (C : Int) ≤ 80 := by have := idsOf_len cpuB T; omega
    clear hT hK hW hTl hc hC
    by_cases hlt : k < N
    · have hki : (k : Int) < (N : Int) := by omega
      obtain ⟨s, hs⟩ : ∃ s, l[k]? = some s := ⟨_, List.getElem?_eq_getElem (by have := HNL.out; omega)⟩
      obtain ⟨b1, o1, q, cq, rfl, hb1, d0, d1, hLs, hz⟩ := (HL.out.mono (HW.out.mono HN.out) (Nat.le_refl _)).get hs
      have hbw : b1 < X.heap.size := by have := HW.out.size; have := HN.out; omega
      have HLs := Lib.hid hLs; have HZ := Lib.hid hz
      obtain ⟨m, hm⟩ : ∃ z, s.metric = z := ⟨_, rfl⟩
      obtain ⟨M, hM⟩ : ∃ z, s.labs.length = z := ⟨_, rfl⟩
      rw [hm] at d0; rw [hM] at d1
      have HM := Lib.hid hm; have HLL := Lib.hid hM
      have HNX := Lib.hid (Nat.le_trans HN.out HW.out.size)
      clear hLs hz hs hm hM
      have D0 := Lib.hid d0; have D1 := Lib.hid d1
      go_wp2_with fail
      have hP := tPutB (s := s) (n := n) (p := q) (cp := cq) HT.out HW.out.size (fun x hx => by rw [hx]; exact HK.out.lt) HNX.out HLs.out HZ.out (by have := HTL.out; omega) (by have := HC.out; omega)
      rw [HM.out, HLL.out] at hP
      refine hP.mono ?_
      clear hP
      rintro e w4 ⟨num, err, rfl, hnum, hT4, hb4, hq4⟩
      have HT4 := Lib.hid hT4
      have HK4 := Lib.hid (HK.out.turn (hq4 hk rfl))
      have HW4 := Lib.hid (HW.out.trans hb4)
      have d0 := (hb4.cell (p := ⟨b1, o1 + k * 2, none⟩) (Nat.lt_of_lt_of_le hb1 HN.out)).trans D0.out
      have d1 := (hb4.cell (p := ⟨b1, o1 + k * 2 + 1, none⟩) (Nat.lt_of_lt_of_le hb1 HN.out)).trans D1.out
      have hbw : b1 < w4.heap.size := by have := hb4.size; omega
      have HLs4 := Lib.hid (HLs.out.mono (hb4.mono HN.out) (Nat.le_refl _))
      have HNX4 := Lib.hid (Nat.le_trans HNX.out hb4.size)
      clear hT4 hb4 hq4 HT HK HW HNX HLs
      obtain ⟨ck, hck⟩ : ∃ z, okS s = z := ⟨_, rfl⟩
      have HOK := Lib.hid hck
      rw [hck] at hnum
      clear hck
      by_cases h0 : ck = 0
      case neg =>
        have hx' : (ck != 0) = true := by simp [h0]
        have HZ0 := Lib.hid h0
        obtain ⟨rfl, rfl⟩ : num = 0 ∧ err = ck := by
          rcases hnum with ⟨-, h1, h2⟩ | ⟨h1, -⟩
          · exact ⟨h1, h2⟩
          · exact absurd h1 h0
        have hT5 := HT4.out
        rw [putS_bad (by rw [HOK.out]; exact HZ0.out)] at hT5
        have HT5 := Lib.hid hT5
        clear h0 hnum hT5
        go_wp2
        exact ⟨⟨k + 1, T, c + 30, by omega, by go_num, by rw [HCL.out], HT5.out, HK4.out.mono (by omega), by have := HTL.out; omega, by have := HC.out; omega, HW4.out⟩, by simp [intOf]; omega⟩
      subst h0
      obtain ⟨herr, hnm⟩ : err = 0 ∧ num = idS (putS T s) s := by
        rcases hnum with ⟨h1, -⟩ | ⟨-, h1, h2⟩
        · exact absurd rfl h1
        · exact ⟨h1, h2⟩
      subst herr
      clear hnum
      obtain ⟨j, hj1, hj2⟩ := idS_old (T := T) HOK.out
      rw [hj1] at hnm
      have HJ1 := Lib.hid hj1; have HJ2 := Lib.hid hj2
      have hjl := (List.getElem?_eq_some_iff.1 hj2).1
      have hpl := putS_len T s
      have hj80 : (j : Int) ≤ 100 := by have := HTL.out; omega
      subst hnm
      obtain ⟨KB, hKB⟩ : ∃ z, keyB s = z := ⟨_, rfl⟩
      have HKB := Lib.hid hKB
      clear hj1 hj2 hjl hpl hKB
      go_wp2_with fail
      have hP : Calls Try.prog 9 #[.agg #[.string m, .slice q M cq]] w4 fun e w' => e = .returned (.string KB) ∧ Below w4.heap.size w4 w' := by
        have h := rKey4 HNX4.out HLs4.out HOK.out
        rw [HM.out, HLL.out] at h
        rw [← HKB.out]
        exact h
      refine hP.mono ?_
      clear hP
      rintro e w5 ⟨rfl, hb5⟩
      have hwb := HW4.out.size
      have HW5 := Lib.hid (HW4.out.trans (hb5.mono hwb))
      have HT5 := Lib.hid (HT4.out.keep hb5)
      have HK5 := Lib.hid (HK4.out.keep hb5)
      have HLs5 := Lib.hid (HLs4.out.mono (hb5.mono HNX4.out) (Nat.le_refl _))
      have HNX5 := Lib.hid (Nat.le_trans HNX4.out hb5.size)
      have D05 := Lib.hid ((hb5.cell (p := ⟨b1, o1 + k * 2, none⟩) hbw).trans d0)
      have D15 := Lib.hid ((hb5.cell (p := ⟨b1, o1 + k * 2 + 1, none⟩) hbw).trans d1)
      have hbw5 : b1 < w5.heap.size := by have := hb5.size; omega
      clear hb5 d0 d1 hbw hwb HW4 HT4 HK4 HLs4 HNX4 D0 D1
      have hlk := HK5.out.by.look1 HOK.out w5 rfl
      rw [HKB.out] at hlk
      cases hj : idxS s T with
      | some i0 =>
        have hid : idS T s = (i0 : Int) + 1 := by unfold idS; rw [hj]
        have hi0 := idxS_lt hj
        have hi80 : (i0 : Int) ≤ 100 := by have := HTL.out; omega
        have hne : ((i0 : Int) + 1 == 0) = false := by simp; omega
        have hpo := putS_old HOK.out hj
        rw [hid] at hlk
        have HT6 := HT5
        have HL6 := Lib.hid (show (putS T s).length ≤ k + 1 by rw [hpo]; have := HTL.out; omega)
        have HC6 := Lib.hid (show ((idsOf cpuB (putS T s)).length : Int) = (C : Int) by rw [hpo, HCL.out])
        have HK6 := Lib.hid (show KnM w5 hk (k + 1) (putS T s) by rw [hpo]; exact HK5.out.mono (Nat.le_succ k))
        clear hid hi0 hpo hj HT5 HK5
        go_upto_region 20 with fail
        have D06 := D05; have D16 := D15; have HW6 := HW5; have HLs6 := HLs5; have HNX6 := HNX5; have hbw6 := hbw5
        obtain ⟨w6, rfl⟩ : ∃ z, z = w5 := ⟨_, rfl⟩
        clear D05 D15 HW5 HLs5 HNX5 hlk hne hi80 hbw5
        go_wp2_with fail
        refine (show Calls Try.prog 10 #[.pointer (some ⟨g, 0, none⟩), .int .i64 ((j : Int) + 1)] w6 (SerP w6 s) from by obtain ⟨Fr, h1, -⟩ := HT6.out; exact tSeries h1 (by have := HL6.out; omega) HJ2.out (ok_small HOK.out) (okS_fit HOK.out).few).mono ?_
        rintro e w7 ⟨p7, c7, he7, hown7, hb7⟩
        rw [HM.out, HLL.out] at he7
        rw [HLL.out] at hown7
        subst he7
        have hwb := HW6.out.size
        have HW7 := Lib.hid (HW6.out.trans (hb7.mono hwb))
        have HT7 := Lib.hid (HT6.out.keep hb7)
        have HK7 := Lib.hid (HK6.out.keep hb7)
        have HLs7 := Lib.hid (HLs6.out.mono (hb7.mono HNX6.out) (Nat.le_refl _))
        have HNX7 := Lib.hid (Nat.le_trans HNX6.out hb7.size)
        have D07 := Lib.hid ((hb7.cell (p := ⟨b1, o1 + k * 2, none⟩) hbw6).trans D06.out)
        have D17 := Lib.hid ((hb7.cell (p := ⟨b1, o1 + k * 2 + 1, none⟩) hbw6).trans D16.out)
        have hbw7 : b1 < w7.heap.size := by have := hb7.size; omega
        have HO7 := Lib.hid (OwnL.labs (m := w7.heap.size) hown7 (Nat.le_refl _) (ok_small HOK.out))
        clear hb7 hown7 hwb D06 D16 HW6 HT6 HK6 HLs6 HNX6 hbw6
        go_upto_region 21 with fail
        have kS := Blk.new w7 [.string m, .slice p7 M c7] 33
        have hba : Below w7.heap.size w7 (w7.alloc (.cells #[.string m, .slice p7 M c7] 33)) := (Below.refl _ _).alloc (Nat.le_refl _) _
        obtain ⟨B8, hB8⟩ : ∃ z, w7.heap.size = z := ⟨_, rfl⟩
        obtain ⟨w8, hw8⟩ : ∃ z, w7.alloc (.cells #[.string m, .slice p7 M c7] 33) = z := ⟨_, rfl⟩
        rw [show w7.alloc (.cells ([.string m, .slice p7 M c7] : List Value).toArray 33) = w8 from hw8] at kS
        rw [hw8] at hba ⊢
        have HW8 := Lib.hid (HW7.out.trans (hba.mono HW7.out.size))
        have HT8 := Lib.hid (HT7.out.keep hba)
        have HK8 := Lib.hid (HK7.out.keep hba)
        have HLs8 := Lib.hid (HLs7.out.mono (hba.mono HNX7.out) (Nat.le_refl _))
        have HNX8 := Lib.hid (Nat.le_trans HNX7.out hba.size)
        have D08 := Lib.hid ((hba.cell (p := ⟨b1, o1 + k * 2, none⟩) hbw7).trans D07.out)
        have D18 := Lib.hid ((hba.cell (p := ⟨b1, o1 + k * 2 + 1, none⟩) hbw7).trans D17.out)
        have hbw8 : b1 < w8.heap.size := by have := hba.size; omega
        have HO8 := Lib.hid (HO7.out.mono hba hba.size)
        rw [show (Value.pointer (some ⟨w7.heap.size, 0, none⟩)) = .pointer (some ⟨B8, 0, none⟩) by rw [hB8]]
        rw [hB8] at kS
        have E0 := Lib.hid (kS.cell 0 _ rfl); have E1 := Lib.hid (kS.cell 1 _ rfl); have hel := kS.lt
        have hlk8 := HK8.out.by.look1 HOK.out
        rw [HKB.out, HJ1.out] at hlk8
        have HLK8 := Lib.hid hlk8
        have hkl := HK8.out.lt
        obtain ⟨L6, hL6⟩ : ∃ z, (putS T s).length = z := ⟨_, rfl⟩
        have HL6E := Lib.hid hL6
        have hlen8 := fun (X : World) (hX : Below w8.heap.size w8 X) => (HK8.out.keep hX).len
        rw [hL6] at hlen8
        have HLEN8 := Lib.hid hlen8
        have hL680 : (L6 : Int) ≤ 100 := by have := HL6.out; omega
        clear kS hba hB8 hw8 hlk8 hL6 hlen8 HT7 HK7 HW7 HLs7 HNX7 D07 D17 hbw7 HO7
        refine wp_region_held_drew (S := fun w => Below w8.heap.size w8 w) (by kernel_rfl) (Below.drew (Below.refl _ _)) (fun hHeld => ?_)
        have HS := Lib.hid (Below.drew (Below.refl w8.heap.size w8))
        clear hHeld
        have hSS := HS.out
        obtain ⟨X2, hX2⟩ : ∃ z, w8.drew = z := ⟨_, rfl⟩
        rw [hX2] at HS hSS ⊢
        clear hX2
        (refine held_take 0 68 (.int .i64 ((j : Int) + 1)) rfl rfl (by kernel_rfl) (by kernel_rfl) (by kernel_rfl) (fun _ _ _ h => h) (by kernel_rfl) ?_ (by assumption) ?_; (intro w hSw; clear hSw; first | rfl | go_simp); (try simp only [List.set_cons_zero, List.set_cons_succ]))
        (refine held_take 1 69 (.map (some hk)) rfl rfl (by kernel_rfl) (by kernel_rfl) (by kernel_rfl) (fun _ _ _ h => h) (by kernel_rfl) ?_ (by assumption) ?_; (intro w hSw; clear hSw; first | rfl | go_simp); (try simp only [List.set_cons_zero, List.set_cons_succ]))
        (refine held_take 2 70 (.string KB) rfl rfl (by kernel_rfl) (by kernel_rfl) (by kernel_rfl) (fun _ _ _ h => h) (by kernel_rfl) ?_ (by assumption) ?_; (intro w hSw; clear hSw; first | rfl | go_simp); (try simp only [List.set_cons_zero, List.set_cons_succ]))
        (refine held_take 3 71 (.int .i64 ((j : Int) + 1)) rfl rfl (by kernel_rfl) (by kernel_rfl) (by kernel_rfl) (fun _ _ _ h => h) (by kernel_rfl) ?_ (by assumption) ?_; (intro w hSw; have f1 := HLK8.out w (hSw.block _ hkl); clear hSw; first | rfl | go_simp); (try simp only [List.set_cons_zero, List.set_cons_succ]))
        (refine held_take 4 72 (.bool false) rfl rfl (by kernel_rfl) (by kernel_rfl) (by kernel_rfl) (fun _ _ _ h => h) (by kernel_rfl) ?_ (by assumption) ?_; (intro w hSw; clear hSw; first | rfl | go_simp); (try simp only [List.set_cons_zero, List.set_cons_succ]))
        (refine held_take 5 73 (.bool false) rfl rfl (by kernel_rfl) (by kernel_rfl) (by kernel_rfl) (fun _ _ _ h => h) (by kernel_rfl) ?_ (by assumption) ?_; (intro w hSw; clear hSw; first | rfl | go_simp); (try simp only [List.set_cons_zero, List.set_cons_succ]))
        (refine held_take 6 74 (.bool true) rfl rfl (by kernel_rfl) (by kernel_rfl) (by kernel_rfl) (fun _ _ _ h => h) (by kernel_rfl) ?_ (by assumption) ?_; (intro w hSw; clear hSw; first | rfl | go_simp); (try simp only [List.set_cons_zero, List.set_cons_succ]))
        (refine held_take 7 75 (.bool false) rfl rfl (by kernel_rfl) (by kernel_rfl) (by kernel_rfl) (fun _ _ _ h => h) (by kernel_rfl) ?_ (by assumption) ?_; (intro w hSw; clear hSw; first | rfl | go_simp); (try simp only [List.set_cons_zero, List.set_cons_succ]))
        (refine held_take 8 76 (.bool false) rfl rfl (by kernel_rfl) (by kernel_rfl) (by kernel_rfl) (fun _ _ _ h => h) (by kernel_rfl) ?_ (by assumption) ?_; (intro w hSw; clear hSw; first | rfl | go_simp); (try simp only [List.set_cons_zero, List.set_cons_succ]))
        (refine held_take 9 77 (.bool false) rfl rfl (by kernel_rfl) (by kernel_rfl) (by kernel_rfl) (fun _ _ _ h => h) (by kernel_rfl) ?_ (by assumption) ?_; (intro w hSw; clear hSw; first | rfl | go_simp); (try simp only [List.set_cons_zero, List.set_cons_succ]))
        (refine held_take 10 78 (.agg #[.string m, .slice p7 M c7]) rfl rfl (by kernel_rfl) (by kernel_rfl) (by kernel_rfl) (fun _ _ _ h => h) (by kernel_rfl) ?_ (by assumption) ?_; (intro w hSw; have f1 := (hSw.cell (p := ⟨B8, 0, none⟩) hel).trans E0.out; have f2 := (hSw.cell (p := ⟨B8, 1, none⟩) hel).trans E1.out; clear hSw; first | rfl | go_simp); (try simp only [List.set_cons_zero, List.set_cons_succ]))
        (refine held_take 11 79 (.slice (some ⟨b1, o1, none⟩) N cap) rfl rfl (by kernel_rfl) (by kernel_rfl) (by kernel_rfl) (fun _ _ _ h => h) (by kernel_rfl) ?_ (by assumption) ?_; (intro w hSw; clear hSw; first | rfl | go_simp); (try simp only [List.set_cons_zero, List.set_cons_succ]))
        (refine held_take 12 80 (.int .i64 (k : Int)) rfl rfl (by kernel_rfl) (by kernel_rfl) (by kernel_rfl) (fun _ _ _ h => h) (by kernel_rfl) ?_ (by assumption) ?_; (intro w hSw; clear hSw; first | rfl | go_simp); (try simp only [List.set_cons_zero, List.set_cons_succ]))
        (refine held_take 13 81 (.pointer (some ⟨b1, o1 + k * 2, none⟩)) rfl rfl (by kernel_rfl) (by kernel_rfl) (by kernel_rfl) (fun _ _ _ h => h) (by kernel_rfl) ?_ (by assumption) ?_; (intro w hSw; clear hSw; first | rfl | go_simp); (try simp only [List.set_cons_zero, List.set_cons_succ]))
        (refine held_take 14 82 (.agg #[.string m, .slice q M cq]) rfl rfl (by kernel_rfl) (by kernel_rfl) (by kernel_rfl) (fun _ _ _ h => h) (by kernel_rfl) ?_ (by assumption) ?_; (intro w hSw; have f1 := (hSw.cell (p := ⟨b1, o1 + k * 2, none⟩) hbw8).trans D08.out; have f2 := (hSw.cell (p := ⟨b1, o1 + k * 2 + 1, none⟩) hbw8).trans D18.out; clear hSw; first | rfl | go_simp); (try simp only [List.set_cons_zero, List.set_cons_succ]))
        refine wpAnyH_ready (rs := [15]) (by kernel_rfl) (by simp) (.cons rfl (fun K hK => ?_) .nil)
        rw [if_pos (by kernel_rfl)]
        go_simp
        have hP : Calls Try.prog 11 #[.agg #[.string m, .slice p7 M c7], .agg #[.string m, .slice q M cq]] X2 fun e w' => e = .returned (.bool true) ∧ Below X2.heap.size X2 w' := by
          have h := kSeries (a := s) (b := s) (n := X2.heap.size) (Nat.le_refl _) (p := p7) (c := c7) (q := q) (d := cq) (by rw [HLL.out]; exact (HO8.out.mono HS.out HS.out.size)) (HLs8.out.mono (HS.out.mono HNX8.out) (Nat.le_trans HNX8.out HS.out.size))
          rw [HM.out, HLL.out] at h
          exact h.mono (fun e w' h1 => ⟨by rw [h1.1]; simp, h1.2⟩)
        refine hP.mono ?_
        clear hP
        rintro e w9 ⟨rfl, hb9⟩
        have HS := Lib.hid (HS.out.trans (hb9.mono HS.out.size))
        clear hb9 hSS
        have hSS := HS.out
        refine hK.out _ _ HS.out (fun hHeld => ?_)
        clear hK K hHeld
        (try simp only [Act.put, List.setIfInBounds_toArray, List.set_cons_zero, List.set_cons_succ])
        (refine held_take 16 84 (.bool false) rfl rfl (by kernel_rfl) (by kernel_rfl) (by kernel_rfl) (fun _ _ _ h => h) (by kernel_rfl) ?_ (by assumption) ?_; (intro w hSw; clear hSw; first | rfl | go_simp); (try simp only [List.set_cons_zero, List.set_cons_succ]))
        (refine held_take 17 85 (.bool false) rfl rfl (by kernel_rfl) (by kernel_rfl) (by kernel_rfl) (fun _ _ _ h => h) (by kernel_rfl) ?_ (by assumption) ?_; (intro w hSw; clear hSw; first | rfl | go_simp); (try simp only [List.set_cons_zero, List.set_cons_succ]))
        (refine held_take 18 86 (.bool false) rfl rfl (by kernel_rfl) (by kernel_rfl) (by kernel_rfl) (fun _ _ _ h => h) (by kernel_rfl) ?_ (by assumption) ?_; (intro w hSw; clear hSw; first | rfl | go_simp); (try simp only [List.set_cons_zero, List.set_cons_succ]))
        (refine held_take 19 87 (.pointer (some ⟨g, 0, none⟩)) rfl rfl (by kernel_rfl) (by kernel_rfl) (by kernel_rfl) (fun _ _ _ h => h) (by kernel_rfl) ?_ (by assumption) ?_; (intro w hSw; clear hSw; first | rfl | go_simp); (try simp only [List.set_cons_zero, List.set_cons_succ]))
        (refine held_take 21 89 (.map (some hk)) rfl rfl (by kernel_rfl) (by kernel_rfl) (by kernel_rfl) (fun _ _ _ h => h) (by kernel_rfl) ?_ (by assumption) ?_; (intro w hSw; clear hSw; first | rfl | go_simp); (try simp only [List.set_cons_zero, List.set_cons_succ]))
        refine wpAnyH_ready (rs := [20]) (by kernel_rfl) (by simp) (.cons rfl (fun K hK => ?_) .nil)
        rw [if_pos (by kernel_rfl)]
        go_simp
        have hP : Calls Try.prog 12 #[.pointer (some ⟨g, 0, none⟩)] w9 fun e w' => e = .returned (.int .i64 (L6 : Int)) ∧ w' = w9 := by
          obtain ⟨Fr, h1, -⟩ := (HT8.out.keep HS.out)
          have h := tLen h1 (by have := HL6.out; omega)
          rw [HL6E.out] at h
          exact h
        refine hP.mono ?_
        clear hP
        rintro e w10 ⟨rfl, hw10⟩
        subst hw10
        refine hK.out _ _ HS.out (fun hHeld => ?_)
        clear hK K hHeld
        (try simp only [Act.put, List.setIfInBounds_toArray, List.set_cons_zero, List.set_cons_succ])
        (refine held_take 22 90 (.int .i64 (L6 : Int)) rfl rfl (by kernel_rfl) (by kernel_rfl) (by kernel_rfl) (fun _ _ _ h => h) (by kernel_rfl) ?_ (by assumption) ?_; (intro w hSw; have f1 := HLEN8.out w hSw; clear hSw; first | rfl | go_simp); (try simp only [List.set_cons_zero, List.set_cons_succ]))
        (refine held_take 23 91 (.bool false) rfl rfl (by kernel_rfl) (by kernel_rfl) (by kernel_rfl) (fun _ _ _ h => h) (by kernel_rfl) ?_ (by assumption) ?_; (intro w hSw; clear hSw; first | rfl | go_simp); (try simp only [List.set_cons_zero, List.set_cons_succ]))
        (refine held_take 24 92 (.bool false) rfl rfl (by kernel_rfl) (by kernel_rfl) (by kernel_rfl) (fun _ _ _ h => h) (by kernel_rfl) ?_ (by assumption) ?_; (intro w hSw; clear hSw; first | rfl | go_simp); (try simp only [List.set_cons_zero, List.set_cons_succ]))
        refine wpAnyH_done (by kernel_rfl) ?_ _
        have HW10 := Lib.hid (HW8.out.trans (HS.out.mono HW8.out.size))
        have HT10 := Lib.hid (HT8.out.keep HS.out)
        have HK10 := Lib.hid (HK8.out.keep HS.out)
        clear hSS HS HW8 HT8 HK8
        go_wp2
        exact ⟨⟨k + 1, putS T s, c + 30, by omega, by go_num, by rw [HC6.out], HT10.out, HK10.out, HL6.out, by have := HC.out; omega, HW10.out⟩, by simp [intOf]; omega⟩
      | none =>
        have hid : idS T s = 0 := by unfold idS; rw [hj]
        rw [hid] at hlk
        have hTl := HTL.out
        obtain ⟨w6, hput, hK6, hg6⟩ := HK5.out.put (by omega) HOK.out hj (by omega)
        have hpn := putS_new HOK.out hj
        rw [← hpn] at hK6
        rw [HKB.out] at hput
        have hlen5 := fun ty => HK5.out.len ty
        obtain ⟨LT, hLT⟩ : ∃ z, T.length = z := ⟨_, rfl⟩
        rw [hLT] at hput hlen5
        have hLT80 : (LT : Int) ≤ 100 := by omega
        have hb6 : Below W.heap.size w5 w6 := (OffM.grown hg6).below (fun x e => by cases e; exact hkb) HW5.out.size
        have HT6 := Lib.hid (HT5.out.grown (hk := hk) hg6 rfl HK5.out.by.map)
        have HL6 := Lib.hid (show (putS T s).length ≤ k + 1 by rw [hpn]; simp; omega)
        have HK6 := Lib.hid hK6
        have D06 := Lib.hid ((hb6.cell (p := ⟨b1, o1 + k * 2, none⟩) (Nat.lt_of_lt_of_le hb1 HN.out)).trans D05.out)
        have D16 := Lib.hid ((hb6.cell (p := ⟨b1, o1 + k * 2 + 1, none⟩) (Nat.lt_of_lt_of_le hb1 HN.out)).trans D15.out)
        have HW6 := Lib.hid (HW5.out.trans hb6)
        have HLs6 := Lib.hid (HLs5.out.mono (hb6.mono HN.out) (Nat.le_refl _))
        have HNX6 := Lib.hid (Nat.le_trans HNX5.out hb6.size)
        have hbw6 : b1 < w6.heap.size := by have := hb6.size; omega
        have hid2 : idsOf cpuB (putS T s) = idsOf cpuB T ++ if s.metric = cpuB then [(T.length : Int) + 1] else [] := by rw [hpn, idsOf_snoc]
        rw [HM.out] at hid2
        have HID2 := Lib.hid hid2
        clear hid hTl hK6 hg6 hpn hLT hb6 hj HT5 HK5 D05 D15 HW5 HLs5 HNX5 hid2
        have d06 := D06.out
        cases hd : decide (m = cpuB) with
        | true =>
          have h2 : (m.toList == ([99, 112, 117] : List UInt8)) = true := by rw [show ([99, 112, 117] : List UInt8) = (⟨#[99, 112, 117]⟩ : ByteArray).toList by rw [ByteArray.toList_eq], toList_beq]; exact hd
          have HC6 := Lib.hid (show ((idsOf cpuB (putS T s)).length : Int) = (C : Int) + 1 by rw [HID2.out, if_pos (by simpa using hd), List.length_append, HCL.out]; rfl)
          clear hd HID2
          go_upto_region 20 with fail
          clear hlk hput hlen5 hLT80 hbw5 d06 h2
          go_wp2_with fail
          refine (show Calls Try.prog 10 #[.pointer (some ⟨g, 0, none⟩), .int .i64 ((j : Int) + 1)] w6 (SerP w6 s) from by obtain ⟨Fr, h1, -⟩ := HT6.out; exact tSeries h1 (by have := HL6.out; omega) HJ2.out (ok_small HOK.out) (okS_fit HOK.out).few).mono ?_
          rintro e w7 ⟨p7, c7, he7, hown7, hb7⟩
          rw [HM.out, HLL.out] at he7
          rw [HLL.out] at hown7
          subst he7
          have hwb := HW6.out.size
          have HW7 := Lib.hid (HW6.out.trans (hb7.mono hwb))
          have HT7 := Lib.hid (HT6.out.keep hb7)
          have HK7 := Lib.hid (HK6.out.keep hb7)
          have HLs7 := Lib.hid (HLs6.out.mono (hb7.mono HNX6.out) (Nat.le_refl _))
          have HNX7 := Lib.hid (Nat.le_trans HNX6.out hb7.size)
          have D07 := Lib.hid ((hb7.cell (p := ⟨b1, o1 + k * 2, none⟩) hbw6).trans D06.out)
          have D17 := Lib.hid ((hb7.cell (p := ⟨b1, o1 + k * 2 + 1, none⟩) hbw6).trans D16.out)
          have hbw7 : b1 < w7.heap.size := by have := hb7.size; omega
          have HO7 := Lib.hid (OwnL.labs (m := w7.heap.size) hown7 (Nat.le_refl _) (ok_small HOK.out))
          clear hb7 hown7 hwb D06 D16 HW6 HT6 HK6 HLs6 HNX6 hbw6
          go_upto_region 21 with fail
          have kS := Blk.new w7 [.string m, .slice p7 M c7] 33
          have hba : Below w7.heap.size w7 (w7.alloc (.cells #[.string m, .slice p7 M c7] 33)) := (Below.refl _ _).alloc (Nat.le_refl _) _
          obtain ⟨B8, hB8⟩ : ∃ z, w7.heap.size = z := ⟨_, rfl⟩
          obtain ⟨w8, hw8⟩ : ∃ z, w7.alloc (.cells #[.string m, .slice p7 M c7] 33) = z := ⟨_, rfl⟩
          rw [show w7.alloc (.cells ([.string m, .slice p7 M c7] : List Value).toArray 33) = w8 from hw8] at kS
          rw [hw8] at hba ⊢
          have HW8 := Lib.hid (HW7.out.trans (hba.mono HW7.out.size))
          have HT8 := Lib.hid (HT7.out.keep hba)
          have HK8 := Lib.hid (HK7.out.keep hba)
          have HLs8 := Lib.hid (HLs7.out.mono (hba.mono HNX7.out) (Nat.le_refl _))
          have HNX8 := Lib.hid (Nat.le_trans HNX7.out hba.size)
          have D08 := Lib.hid ((hba.cell (p := ⟨b1, o1 + k * 2, none⟩) hbw7).trans D07.out)
          have D18 := Lib.hid ((hba.cell (p := ⟨b1, o1 + k * 2 + 1, none⟩) hbw7).trans D17.out)
          have hbw8 : b1 < w8.heap.size := by have := hba.size; omega
          have HO8 := Lib.hid (HO7.out.mono hba hba.size)
          rw [show (Value.pointer (some ⟨w7.heap.size, 0, none⟩)) = .pointer (some ⟨B8, 0, none⟩) by rw [hB8]]
          rw [hB8] at kS
          have E0 := Lib.hid (kS.cell 0 _ rfl); have E1 := Lib.hid (kS.cell 1 _ rfl); have hel := kS.lt
          have hlk8 := HK8.out.by.look1 HOK.out
          rw [HKB.out, HJ1.out] at hlk8
          have HLK8 := Lib.hid hlk8
          have hkl := HK8.out.lt
          obtain ⟨L6, hL6⟩ : ∃ z, (putS T s).length = z := ⟨_, rfl⟩
          have HL6E := Lib.hid hL6
          have hlen8 := fun (X : World) (hX : Below w8.heap.size w8 X) => (HK8.out.keep hX).len
          rw [hL6] at hlen8
          have HLEN8 := Lib.hid hlen8
          have hL680 : (L6 : Int) ≤ 100 := by have := HL6.out; omega
          clear kS hba hB8 hw8 hlk8 hL6 hlen8 HT7 HK7 HW7 HLs7 HNX7 D07 D17 hbw7 HO7
          refine wp_region_held_drew (S := fun w => Below w8.heap.size w8 w) (by kernel_rfl) (Below.drew (Below.refl _ _)) (fun hHeld => ?_)
          have HS := Lib.hid (Below.drew (Below.refl w8.heap.size w8))
          clear hHeld
          have hSS := HS.out
          obtain ⟨X2, hX2⟩ : ∃ z, w8.drew = z := ⟨_, rfl⟩
          rw [hX2] at HS hSS ⊢
          clear hX2
          (refine held_take 0 68 (.int .i64 ((j : Int) + 1)) rfl rfl (by kernel_rfl) (by kernel_rfl) (by kernel_rfl) (fun _ _ _ h => h) (by kernel_rfl) ?_ (by assumption) ?_; (intro w hSw; clear hSw; first | rfl | go_simp); (try simp only [List.set_cons_zero, List.set_cons_succ]))
          (refine held_take 1 69 (.map (some hk)) rfl rfl (by kernel_rfl) (by kernel_rfl) (by kernel_rfl) (fun _ _ _ h => h) (by kernel_rfl) ?_ (by assumption) ?_; (intro w hSw; clear hSw; first | rfl | go_simp); (try simp only [List.set_cons_zero, List.set_cons_succ]))
          (refine held_take 2 70 (.string KB) rfl rfl (by kernel_rfl) (by kernel_rfl) (by kernel_rfl) (fun _ _ _ h => h) (by kernel_rfl) ?_ (by assumption) ?_; (intro w hSw; clear hSw; first | rfl | go_simp); (try simp only [List.set_cons_zero, List.set_cons_succ]))
          (refine held_take 3 71 (.int .i64 ((j : Int) + 1)) rfl rfl (by kernel_rfl) (by kernel_rfl) (by kernel_rfl) (fun _ _ _ h => h) (by kernel_rfl) ?_ (by assumption) ?_; (intro w hSw; have f1 := HLK8.out w (hSw.block _ hkl); clear hSw; first | rfl | go_simp); (try simp only [List.set_cons_zero, List.set_cons_succ]))
          (refine held_take 4 72 (.bool false) rfl rfl (by kernel_rfl) (by kernel_rfl) (by kernel_rfl) (fun _ _ _ h => h) (by kernel_rfl) ?_ (by assumption) ?_; (intro w hSw; clear hSw; first | rfl | go_simp); (try simp only [List.set_cons_zero, List.set_cons_succ]))
          (refine held_take 5 73 (.bool false) rfl rfl (by kernel_rfl) (by kernel_rfl) (by kernel_rfl) (fun _ _ _ h => h) (by kernel_rfl) ?_ (by assumption) ?_; (intro w hSw; clear hSw; first | rfl | go_simp); (try simp only [List.set_cons_zero, List.set_cons_succ]))
          (refine held_take 6 74 (.bool true) rfl rfl (by kernel_rfl) (by kernel_rfl) (by kernel_rfl) (fun _ _ _ h => h) (by kernel_rfl) ?_ (by assumption) ?_; (intro w hSw; clear hSw; first | rfl | go_simp); (try simp only [List.set_cons_zero, List.set_cons_succ]))
          (refine held_take 7 75 (.bool false) rfl rfl (by kernel_rfl) (by kernel_rfl) (by kernel_rfl) (fun _ _ _ h => h) (by kernel_rfl) ?_ (by assumption) ?_; (intro w hSw; clear hSw; first | rfl | go_simp); (try simp only [List.set_cons_zero, List.set_cons_succ]))
          (refine held_take 8 76 (.bool false) rfl rfl (by kernel_rfl) (by kernel_rfl) (by kernel_rfl) (fun _ _ _ h => h) (by kernel_rfl) ?_ (by assumption) ?_; (intro w hSw; clear hSw; first | rfl | go_simp); (try simp only [List.set_cons_zero, List.set_cons_succ]))
          (refine held_take 9 77 (.bool false) rfl rfl (by kernel_rfl) (by kernel_rfl) (by kernel_rfl) (fun _ _ _ h => h) (by kernel_rfl) ?_ (by assumption) ?_; (intro w hSw; clear hSw; first | rfl | go_simp); (try simp only [List.set_cons_zero, List.set_cons_succ]))
          (refine held_take 10 78 (.agg #[.string m, .slice p7 M c7]) rfl rfl (by kernel_rfl) (by kernel_rfl) (by kernel_rfl) (fun _ _ _ h => h) (by kernel_rfl) ?_ (by assumption) ?_; (intro w hSw; have f1 := (hSw.cell (p := ⟨B8, 0, none⟩) hel).trans E0.out; have f2 := (hSw.cell (p := ⟨B8, 1, none⟩) hel).trans E1.out; clear hSw; first | rfl | go_simp); (try simp only [List.set_cons_zero, List.set_cons_succ]))
          (refine held_take 11 79 (.slice (some ⟨b1, o1, none⟩) N cap) rfl rfl (by kernel_rfl) (by kernel_rfl) (by kernel_rfl) (fun _ _ _ h => h) (by kernel_rfl) ?_ (by assumption) ?_; (intro w hSw; clear hSw; first | rfl | go_simp); (try simp only [List.set_cons_zero, List.set_cons_succ]))
          (refine held_take 12 80 (.int .i64 (k : Int)) rfl rfl (by kernel_rfl) (by kernel_rfl) (by kernel_rfl) (fun _ _ _ h => h) (by kernel_rfl) ?_ (by assumption) ?_; (intro w hSw; clear hSw; first | rfl | go_simp); (try simp only [List.set_cons_zero, List.set_cons_succ]))
          (refine held_take 13 81 (.pointer (some ⟨b1, o1 + k * 2, none⟩)) rfl rfl (by kernel_rfl) (by kernel_rfl) (by kernel_rfl) (fun _ _ _ h => h) (by kernel_rfl) ?_ (by assumption) ?_; (intro w hSw; clear hSw; first | rfl | go_simp); (try simp only [List.set_cons_zero, List.set_cons_succ]))
          (refine held_take 14 82 (.agg #[.string m, .slice q M cq]) rfl rfl (by kernel_rfl) (by kernel_rfl) (by kernel_rfl) (fun _ _ _ h => h) (by kernel_rfl) ?_ (by assumption) ?_; (intro w hSw; have f1 := (hSw.cell (p := ⟨b1, o1 + k * 2, none⟩) hbw8).trans D08.out; have f2 := (hSw.cell (p := ⟨b1, o1 + k * 2 + 1, none⟩) hbw8).trans D18.out; clear hSw; first | rfl | go_simp); (try simp only [List.set_cons_zero, List.set_cons_succ]))
          refine wpAnyH_ready (rs := [15]) (by kernel_rfl) (by simp) (.cons rfl (fun K hK => ?_) .nil)
          rw [if_pos (by kernel_rfl)]
          go_simp
          have hP : Calls Try.prog 11 #[.agg #[.string m, .slice p7 M c7], .agg #[.string m, .slice q M cq]] X2 fun e w' => e = .returned (.bool true) ∧ Below X2.heap.size X2 w' := by
            have h := kSeries (a := s) (b := s) (n := X2.heap.size) (Nat.le_refl _) (p := p7) (c := c7) (q := q) (d := cq) (by rw [HLL.out]; exact (HO8.out.mono HS.out HS.out.size)) (HLs8.out.mono (HS.out.mono HNX8.out) (Nat.le_trans HNX8.out HS.out.size))
            rw [HM.out, HLL.out] at h
            exact h.mono (fun e w' h1 => ⟨by rw [h1.1]; simp, h1.2⟩)
          refine hP.mono ?_
          clear hP
          rintro e w9 ⟨rfl, hb9⟩
          have HS := Lib.hid (HS.out.trans (hb9.mono HS.out.size))
          clear hb9 hSS
          have hSS := HS.out
          refine hK.out _ _ HS.out (fun hHeld => ?_)
          clear hK K hHeld
          (try simp only [Act.put, List.setIfInBounds_toArray, List.set_cons_zero, List.set_cons_succ])
          (refine held_take 16 84 (.bool false) rfl rfl (by kernel_rfl) (by kernel_rfl) (by kernel_rfl) (fun _ _ _ h => h) (by kernel_rfl) ?_ (by assumption) ?_; (intro w hSw; clear hSw; first | rfl | go_simp); (try simp only [List.set_cons_zero, List.set_cons_succ]))
          (refine held_take 17 85 (.bool false) rfl rfl (by kernel_rfl) (by kernel_rfl) (by kernel_rfl) (fun _ _ _ h => h) (by kernel_rfl) ?_ (by assumption) ?_; (intro w hSw; clear hSw; first | rfl | go_simp); (try simp only [List.set_cons_zero, List.set_cons_succ]))
          (refine held_take 18 86 (.bool false) rfl rfl (by kernel_rfl) (by kernel_rfl) (by kernel_rfl) (fun _ _ _ h => h) (by kernel_rfl) ?_ (by assumption) ?_; (intro w hSw; clear hSw; first | rfl | go_simp); (try simp only [List.set_cons_zero, List.set_cons_succ]))
          (refine held_take 19 87 (.pointer (some ⟨g, 0, none⟩)) rfl rfl (by kernel_rfl) (by kernel_rfl) (by kernel_rfl) (fun _ _ _ h => h) (by kernel_rfl) ?_ (by assumption) ?_; (intro w hSw; clear hSw; first | rfl | go_simp); (try simp only [List.set_cons_zero, List.set_cons_succ]))
          (refine held_take 21 89 (.map (some hk)) rfl rfl (by kernel_rfl) (by kernel_rfl) (by kernel_rfl) (fun _ _ _ h => h) (by kernel_rfl) ?_ (by assumption) ?_; (intro w hSw; clear hSw; first | rfl | go_simp); (try simp only [List.set_cons_zero, List.set_cons_succ]))
          refine wpAnyH_ready (rs := [20]) (by kernel_rfl) (by simp) (.cons rfl (fun K hK => ?_) .nil)
          rw [if_pos (by kernel_rfl)]
          go_simp
          have hP : Calls Try.prog 12 #[.pointer (some ⟨g, 0, none⟩)] w9 fun e w' => e = .returned (.int .i64 (L6 : Int)) ∧ w' = w9 := by
            obtain ⟨Fr, h1, -⟩ := (HT8.out.keep HS.out)
            have h := tLen h1 (by have := HL6.out; omega)
            rw [HL6E.out] at h
            exact h
          refine hP.mono ?_
          clear hP
          rintro e w10 ⟨rfl, hw10⟩
          subst hw10
          refine hK.out _ _ HS.out (fun hHeld => ?_)
          clear hK K hHeld
          (try simp only [Act.put, List.setIfInBounds_toArray, List.set_cons_zero, List.set_cons_succ])
          (refine held_take 22 90 (.int .i64 (L6 : Int)) rfl rfl (by kernel_rfl) (by kernel_rfl) (by kernel_rfl) (fun _ _ _ h => h) (by kernel_rfl) ?_ (by assumption) ?_; (intro w hSw; have f1 := HLEN8.out w hSw; clear hSw; first | rfl | go_simp); (try simp only [List.set_cons_zero, List.set_cons_succ]))
          (refine held_take 23 91 (.bool false) rfl rfl (by kernel_rfl) (by kernel_rfl) (by kernel_rfl) (fun _ _ _ h => h) (by kernel_rfl) ?_ (by assumption) ?_; (intro w hSw; clear hSw; first | rfl | go_simp); (try simp only [List.set_cons_zero, List.set_cons_succ]))
          (refine held_take 24 92 (.bool false) rfl rfl (by kernel_rfl) (by kernel_rfl) (by kernel_rfl) (fun _ _ _ h => h) (by kernel_rfl) ?_ (by assumption) ?_; (intro w hSw; clear hSw; first | rfl | go_simp); (try simp only [List.set_cons_zero, List.set_cons_succ]))
          refine wpAnyH_done (by kernel_rfl) ?_ _
          have HW10 := Lib.hid (HW8.out.trans (HS.out.mono HW8.out.size))
          have HT10 := Lib.hid (HT8.out.keep HS.out)
          have HK10 := Lib.hid (HK8.out.keep HS.out)
          clear hSS HS HW8 HT8 HK8
          go_wp2
          exact ⟨⟨k + 1, putS T s, c + 30, by omega, by go_num, by rw [HC6.out], HT10.out, HK10.out, HL6.out, by have := HC.out; omega, HW10.out⟩, by simp [intOf]; omega⟩
        | false =>
          have h2 : (m.toList == ([99, 112, 117] : List UInt8)) = false := by rw [show ([99, 112, 117] : List UInt8) = (⟨#[99, 112, 117]⟩ : ByteArray).toList by rw [ByteArray.toList_eq], toList_beq]; exact hd
          have HC6 := Lib.hid (show ((idsOf cpuB (putS T s)).length : Int) = (C : Int) by rw [HID2.out, if_neg (by simpa using hd), List.append_nil, HCL.out])
          clear hd HID2
          go_upto_region 20 with fail
          clear hlk hput hlen5 hLT80 hbw5 d06 h2
          go_wp2_with fail
          refine (show Calls Try.prog 10 #[.pointer (some ⟨g, 0, none⟩), .int .i64 ((j : Int) + 1)] w6 (SerP w6 s) from by obtain ⟨Fr, h1, -⟩ := HT6.out; exact tSeries h1 (by have := HL6.out; omega) HJ2.out (ok_small HOK.out) (okS_fit HOK.out).few).mono ?_
          rintro e w7 ⟨p7, c7, he7, hown7, hb7⟩
          rw [HM.out, HLL.out] at he7
          rw [HLL.out] at hown7
          subst he7
          have hwb := HW6.out.size
          have HW7 := Lib.hid (HW6.out.trans (hb7.mono hwb))
          have HT7 := Lib.hid (HT6.out.keep hb7)
          have HK7 := Lib.hid (HK6.out.keep hb7)
          have HLs7 := Lib.hid (HLs6.out.mono (hb7.mono HNX6.out) (Nat.le_refl _))
          have HNX7 := Lib.hid (Nat.le_trans HNX6.out hb7.size)
          have D07 := Lib.hid ((hb7.cell (p := ⟨b1, o1 + k * 2, none⟩) hbw6).trans D06.out)
          have D17 := Lib.hid ((hb7.cell (p := ⟨b1, o1 + k * 2 + 1, none⟩) hbw6).trans D16.out)
          have hbw7 : b1 < w7.heap.size := by have := hb7.size; omega
          have HO7 := Lib.hid (OwnL.labs (m := w7.heap.size) hown7 (Nat.le_refl _) (ok_small HOK.out))
          clear hb7 hown7 hwb D06 D16 HW6 HT6 HK6 HLs6 HNX6 hbw6
          go_upto_region 21 with fail
          have kS := Blk.new w7 [.string m, .slice p7 M c7] 33
          have hba : Below w7.heap.size w7 (w7.alloc (.cells #[.string m, .slice p7 M c7] 33)) := (Below.refl _ _).alloc (Nat.le_refl _) _
          obtain ⟨B8, hB8⟩ : ∃ z, w7.heap.size = z := ⟨_, rfl⟩
          obtain ⟨w8, hw8⟩ : ∃ z, w7.alloc (.cells #[.string m, .slice p7 M c7] 33) = z := ⟨_, rfl⟩
          rw [show w7.alloc (.cells ([.string m, .slice p7 M c7] : List Value).toArray 33) = w8 from hw8] at kS
          rw [hw8] at hba ⊢
          have HW8 := Lib.hid (HW7.out.trans (hba.mono HW7.out.size))
          have HT8 := Lib.hid (HT7.out.keep hba)
          have HK8 := Lib.hid (HK7.out.keep hba)
          have HLs8 := Lib.hid (HLs7.out.mono (hba.mono HNX7.out) (Nat.le_refl _))
          have HNX8 := Lib.hid (Nat.le_trans HNX7.out hba.size)
          have D08 := Lib.hid ((hba.cell (p := ⟨b1, o1 + k * 2, none⟩) hbw7).trans D07.out)
          have D18 := Lib.hid ((hba.cell (p := ⟨b1, o1 + k * 2 + 1, none⟩) hbw7).trans D17.out)
          have hbw8 : b1 < w8.heap.size := by have := hba.size; omega
          have HO8 := Lib.hid (HO7.out.mono hba hba.size)
          rw [show (Value.pointer (some ⟨w7.heap.size, 0, none⟩)) = .pointer (some ⟨B8, 0, none⟩) by rw [hB8]]
          rw [hB8] at kS
          have E0 := Lib.hid (kS.cell 0 _ rfl); have E1 := Lib.hid (kS.cell 1 _ rfl); have hel := kS.lt
          have hlk8 := HK8.out.by.look1 HOK.out
          rw [HKB.out, HJ1.out] at hlk8
          have HLK8 := Lib.hid hlk8
          have hkl := HK8.out.lt
          obtain ⟨L6, hL6⟩ : ∃ z, (putS T s).length = z := ⟨_, rfl⟩
          have HL6E := Lib.hid hL6
          have hlen8 := fun (X : World) (hX : Below w8.heap.size w8 X) => (HK8.out.keep hX).len
          rw [hL6] at hlen8
          have HLEN8 := Lib.hid hlen8
          have hL680 : (L6 : Int) ≤ 100 := by have := HL6.out; omega
          clear kS hba hB8 hw8 hlk8 hL6 hlen8 HT7 HK7 HW7 HLs7 HNX7 D07 D17 hbw7 HO7
          refine wp_region_held_drew (S := fun w => Below w8.heap.size w8 w) (by kernel_rfl) (Below.drew (Below.refl _ _)) (fun hHeld => ?_)
          have HS := Lib.hid (Below.drew (Below.refl w8.heap.size w8))
          clear hHeld
          have hSS := HS.out
          obtain ⟨X2, hX2⟩ : ∃ z, w8.drew = z := ⟨_, rfl⟩
          rw [hX2] at HS hSS ⊢
          clear hX2
          (refine held_take 0 68 (.int .i64 ((j : Int) + 1)) rfl rfl (by kernel_rfl) (by kernel_rfl) (by kernel_rfl) (fun _ _ _ h => h) (by kernel_rfl) ?_ (by assumption) ?_; (intro w hSw; clear hSw; first | rfl | go_simp); (try simp only [List.set_cons_zero, List.set_cons_succ]))
          (refine held_take 1 69 (.map (some hk)) rfl rfl (by kernel_rfl) (by kernel_rfl) (by kernel_rfl) (fun _ _ _ h => h) (by kernel_rfl) ?_ (by assumption) ?_; (intro w hSw; clear hSw; first | rfl | go_simp); (try simp only [List.set_cons_zero, List.set_cons_succ]))
          (refine held_take 2 70 (.string KB) rfl rfl (by kernel_rfl) (by kernel_rfl) (by kernel_rfl) (fun _ _ _ h => h) (by kernel_rfl) ?_ (by assumption) ?_; (intro w hSw; clear hSw; first | rfl | go_simp); (try simp only [List.set_cons_zero, List.set_cons_succ]))
          (refine held_take 3 71 (.int .i64 ((j : Int) + 1)) rfl rfl (by kernel_rfl) (by kernel_rfl) (by kernel_rfl) (fun _ _ _ h => h) (by kernel_rfl) ?_ (by assumption) ?_; (intro w hSw; have f1 := HLK8.out w (hSw.block _ hkl); clear hSw; first | rfl | go_simp); (try simp only [List.set_cons_zero, List.set_cons_succ]))
          (refine held_take 4 72 (.bool false) rfl rfl (by kernel_rfl) (by kernel_rfl) (by kernel_rfl) (fun _ _ _ h => h) (by kernel_rfl) ?_ (by assumption) ?_; (intro w hSw; clear hSw; first | rfl | go_simp); (try simp only [List.set_cons_zero, List.set_cons_succ]))
          (refine held_take 5 73 (.bool false) rfl rfl (by kernel_rfl) (by kernel_rfl) (by kernel_rfl) (fun _ _ _ h => h) (by kernel_rfl) ?_ (by assumption) ?_; (intro w hSw; clear hSw; first | rfl | go_simp); (try simp only [List.set_cons_zero, List.set_cons_succ]))
          (refine held_take 6 74 (.bool true) rfl rfl (by kernel_rfl) (by kernel_rfl) (by kernel_rfl) (fun _ _ _ h => h) (by kernel_rfl) ?_ (by assumption) ?_; (intro w hSw; clear hSw; first | rfl | go_simp); (try simp only [List.set_cons_zero, List.set_cons_succ]))
          (refine held_take 7 75 (.bool false) rfl rfl (by kernel_rfl) (by kernel_rfl) (by kernel_rfl) (fun _ _ _ h => h) (by kernel_rfl) ?_ (by assumption) ?_; (intro w hSw; clear hSw; first | rfl | go_simp); (try simp only [List.set_cons_zero, List.set_cons_succ]))
          (refine held_take 8 76 (.bool false) rfl rfl (by kernel_rfl) (by kernel_rfl) (by kernel_rfl) (fun _ _ _ h => h) (by kernel_rfl) ?_ (by assumption) ?_; (intro w hSw; clear hSw; first | rfl | go_simp); (try simp only [List.set_cons_zero, List.set_cons_succ]))
          (refine held_take 9 77 (.bool false) rfl rfl (by kernel_rfl) (by kernel_rfl) (by kernel_rfl) (fun _ _ _ h => h) (by kernel_rfl) ?_ (by assumption) ?_; (intro w hSw; clear hSw; first | rfl | go_simp); (try simp only [List.set_cons_zero, List.set_cons_succ]))
          (refine held_take 10 78 (.agg #[.string m, .slice p7 M c7]) rfl rfl (by kernel_rfl) (by kernel_rfl) (by kernel_rfl) (fun _ _ _ h => h) (by kernel_rfl) ?_ (by assumption) ?_; (intro w hSw; have f1 := (hSw.cell (p := ⟨B8, 0, none⟩) hel).trans E0.out; have f2 := (hSw.cell (p := ⟨B8, 1, none⟩) hel).trans E1.out; clear hSw; first | rfl | go_simp); (try simp only [List.set_cons_zero, List.set_cons_succ]))
          (refine held_take 11 79 (.slice (some ⟨b1, o1, none⟩) N cap) rfl rfl (by kernel_rfl) (by kernel_rfl) (by kernel_rfl) (fun _ _ _ h => h) (by kernel_rfl) ?_ (by assumption) ?_; (intro w hSw; clear hSw; first | rfl | go_simp); (try simp only [List.set_cons_zero, List.set_cons_succ]))
          (refine held_take 12 80 (.int .i64 (k : Int)) rfl rfl (by kernel_rfl) (by kernel_rfl) (by kernel_rfl) (fun _ _ _ h => h) (by kernel_rfl) ?_ (by assumption) ?_; (intro w hSw; clear hSw; first | rfl | go_simp); (try simp only [List.set_cons_zero, List.set_cons_succ]))
          (refine held_take 13 81 (.pointer (some ⟨b1, o1 + k * 2, none⟩)) rfl rfl (by kernel_rfl) (by kernel_rfl) (by kernel_rfl) (fun _ _ _ h => h) (by kernel_rfl) ?_ (by assumption) ?_; (intro w hSw; clear hSw; first | rfl | go_simp); (try simp only [List.set_cons_zero, List.set_cons_succ]))
          (refine held_take 14 82 (.agg #[.string m, .slice q M cq]) rfl rfl (by kernel_rfl) (by kernel_rfl) (by kernel_rfl) (fun _ _ _ h => h) (by kernel_rfl) ?_ (by assumption) ?_; (intro w hSw; have f1 := (hSw.cell (p := ⟨b1, o1 + k * 2, none⟩) hbw8).trans D08.out; have f2 := (hSw.cell (p := ⟨b1, o1 + k * 2 + 1, none⟩) hbw8).trans D18.out; clear hSw; first | rfl | go_simp); (try simp only [List.set_cons_zero, List.set_cons_succ]))
          refine wpAnyH_ready (rs := [15]) (by kernel_rfl) (by simp) (.cons rfl (fun K hK => ?_) .nil)
          rw [if_pos (by kernel_rfl)]
          go_simp
          have hP : Calls Try.prog 11 #[.agg #[.string m, .slice p7 M c7], .agg #[.string m, .slice q M cq]] X2 fun e w' => e = .returned (.bool true) ∧ Below X2.heap.size X2 w' := by
            have h := kSeries (a := s) (b := s) (n := X2.heap.size) (Nat.le_refl _) (p := p7) (c := c7) (q := q) (d := cq) (by rw [HLL.out]; exact (HO8.out.mono HS.out HS.out.size)) (HLs8.out.mono (HS.out.mono HNX8.out) (Nat.le_trans HNX8.out HS.out.size))
            rw [HM.out, HLL.out] at h
            exact h.mono (fun e w' h1 => ⟨by rw [h1.1]; simp, h1.2⟩)
          refine hP.mono ?_
          clear hP
          rintro e w9 ⟨rfl, hb9⟩
          have HS := Lib.hid (HS.out.trans (hb9.mono HS.out.size))
          clear hb9 hSS
          have hSS := HS.out
          refine hK.out _ _ HS.out (fun hHeld => ?_)
          clear hK K hHeld
          (try simp only [Act.put, List.setIfInBounds_toArray, List.set_cons_zero, List.set_cons_succ])
          (refine held_take 16 84 (.bool false) rfl rfl (by kernel_rfl) (by kernel_rfl) (by kernel_rfl) (fun _ _ _ h => h) (by kernel_rfl) ?_ (by assumption) ?_; (intro w hSw; clear hSw; first | rfl | go_simp); (try simp only [List.set_cons_zero, List.set_cons_succ]))
          (refine held_take 17 85 (.bool false) rfl rfl (by kernel_rfl) (by kernel_rfl) (by kernel_rfl) (fun _ _ _ h => h) (by kernel_rfl) ?_ (by assumption) ?_; (intro w hSw; clear hSw; first | rfl | go_simp); (try simp only [List.set_cons_zero, List.set_cons_succ]))
          (refine held_take 18 86 (.bool false) rfl rfl (by kernel_rfl) (by kernel_rfl) (by kernel_rfl) (fun _ _ _ h => h) (by kernel_rfl) ?_ (by assumption) ?_; (intro w hSw; clear hSw; first | rfl | go_simp); (try simp only [List.set_cons_zero, List.set_cons_succ]))
          (refine held_take 19 87 (.pointer (some ⟨g, 0, none⟩)) rfl rfl (by kernel_rfl) (by kernel_rfl) (by kernel_rfl) (fun _ _ _ h => h) (by kernel_rfl) ?_ (by assumption) ?_; (intro w hSw; clear hSw; first | rfl | go_simp); (try simp only [List.set_cons_zero, List.set_cons_succ]))
          (refine held_take 21 89 (.map (some hk)) rfl rfl (by kernel_rfl) (by kernel_rfl) (by kernel_rfl) (fun _ _ _ h => h) (by kernel_rfl) ?_ (by assumption) ?_; (intro w hSw; clear hSw; first | rfl | go_simp); (try simp only [List.set_cons_zero, List.set_cons_succ]))
          refine wpAnyH_ready (rs := [20]) (by kernel_rfl) (by simp) (.cons rfl (fun K hK => ?_) .nil)
          rw [if_pos (by kernel_rfl)]
          go_simp
          have hP : Calls Try.prog 12 #[.pointer (some ⟨g, 0, none⟩)] w9 fun e w' => e = .returned (.int .i64 (L6 : Int)) ∧ w' = w9 := by
            obtain ⟨Fr, h1, -⟩ := (HT8.out.keep HS.out)
            have h := tLen h1 (by have := HL6.out; omega)
            rw [HL6E.out] at h
            exact h
          refine hP.mono ?_
          clear hP
          rintro e w10 ⟨rfl, hw10⟩
          subst hw10
          refine hK.out _ _ HS.out (fun hHeld => ?_)
          clear hK K hHeld
          (try simp only [Act.put, List.setIfInBounds_toArray, List.set_cons_zero, List.set_cons_succ])
          (refine held_take 22 90 (.int .i64 (L6 : Int)) rfl rfl (by kernel_rfl) (by kernel_rfl) (by kernel_rfl) (fun _ _ _ h => h) (by kernel_rfl) ?_ (by assumption) ?_; (intro w hSw; have f1 := HLEN8.out w hSw; clear hSw; first | rfl | go_simp); (try simp only [List.set_cons_zero, List.set_cons_succ]))
          (refine held_take 23 91 (.bool false) rfl rfl (by kernel_rfl) (by kernel_rfl) (by kernel_rfl) (fun _ _ _ h => h) (by kernel_rfl) ?_ (by assumption) ?_; (intro w hSw; clear hSw; first | rfl | go_simp); (try simp only [List.set_cons_zero, List.set_cons_succ]))
          (refine held_take 24 92 (.bool false) rfl rfl (by kernel_rfl) (by kernel_rfl) (by kernel_rfl) (fun _ _ _ h => h) (by kernel_rfl) ?_ (by assumption) ?_; (intro w hSw; clear hSw; first | rfl | go_simp); (try simp only [List.set_cons_zero, List.set_cons_succ]))
          refine wpAnyH_done (by kernel_rfl) ?_ _
          have HW10 := Lib.hid (HW8.out.trans (HS.out.mono HW8.out.size))
          have HT10 := Lib.hid (HT8.out.keep HS.out)
          have HK10 := Lib.hid (HK8.out.keep HS.out)
          clear hSS HS HW8 HT8 HK8
          go_wp2
          exact ⟨⟨k + 1, putS T s, c + 30, by omega, by go_num, by rw [HC6.out], HT10.out, HK10.out, HL6.out, by have := HC.out; omega, HW10.out⟩, by simp [intOf]; omega⟩
    · have hk' : k = N := by omega
      subst hk'
      have hki : ¬ ((k : Int) < (k : Int)) := by omega
      have hP := fun (X : World) (hX : Below X.heap.size X X) => True.intro
      clear hP
      go_wp2_with fail
      refine (xWin 3 7 X).mono ?_
      rintro e w4 ⟨rfl, hb4⟩
      have hwb := HW.out.size
      have HW4 := Lib.hid (HW.out.trans (hb4.mono hwb))
      have HT4 := Lib.hid (HT.out.keep hb4)
      clear hb4 HW HT HK hwb
      go_wp2_with fail
      have hP : Calls Try.prog 13 #[.pointer (some ⟨g, 0, none⟩), .agg #[.int .i64 1, .int .i64 3, .int .i64 0, .int .i64 0, .string ⟨#[99, 112, 117]⟩, .slice none 0 0, .int .i64 7, .slice none 0 0, .slice none 0 0]] w4 fun e w' => ∃ v', e = .returned v' ∧ OwnI 3 w4.heap.size w' v' (idsOf cpuB T) ∧ Below w4.heap.size w4 w' := by
        obtain ⟨Fr, h1, -⟩ := HT4.out
        exact tTakes h1 (by have := HTL.out; omega) 3 7 win_37
      refine hP.mono ?_
      clear hP
      rintro e w5 ⟨v5, rfl, hown, hb5⟩
      have HW5 := Lib.hid (HW4.out.trans (hb5.mono HW4.out.size))
      obtain ⟨p5, c5, rfl⟩ := ownsRow_slice hown
      have HI5 := Lib.hid (hown.ints (Nat.le_refl _))
      have HRI := Lib.hid (idsOf_rise cpuB T)
      obtain ⟨L, hL⟩ : ∃ z, idsOf cpuB T = z := ⟨_, rfl⟩
      rw [hL] at HI5 HRI HCL
      rw [HCL.out] at HI5
      rw [hL, HCL.out]
      clear hown hb5 hL HW4 HT4 HTL HC
      go_wp2
      go_loopw [13] (fun j wr => ∃ k0 : Nat, k0 ≤ C ∧ j = .int .i64 ((k0 : Int) + 1) ∧ Below w5.heap.size w5 wr) (fun j _ => C + 1 - (intOf j).toNat)
      case atStart => exact ⟨0, Nat.zero_le _, rfl, Below.refl _ _⟩
      case round =>
        obtain ⟨k0, hk0, rfl, hb⟩ := hrel
        obtain ⟨Z, rfl⟩ : ∃ z, z = wr := ⟨_, rfl⟩
        have HB := Lib.hid hb
        clear hb
        by_cases hlt2 : k0 + 1 < C
        · have hki2 : (k0 : Int) + 1 < (C : Int) := by omega
          have hC80 : (C : Int) ≤ 80 := by omega
          have hi := HI5.out.mono HB.out HB.out.size
          have hlL : k0 + 1 < L.length := by rw [HCL.out]; exact hlt2
          obtain ⟨b5, o5, rfl, hb5, e0⟩ := hi.get (k := k0) (by omega)
          obtain ⟨b6, o6, hbe, hb6, e1⟩ := hi.get (k := k0 + 1) hlL
          cases hbe
          have hlts : L[k0] < L[k0 + 1] := (List.pairwise_iff_getElem.1 HRI.out) k0 (k0 + 1) (by omega) hlL (by omega)
          obtain ⟨x, hx⟩ : ∃ z, L[k0] = z := ⟨_, rfl⟩
          obtain ⟨y, hy⟩ : ∃ z, L[k0 + 1] = z := ⟨_, rfl⟩
          rw [hx] at e0 hlts
          rw [hy] at e1 hlts
          have hnle : ¬ y ≤ x := by omega
          have hw1 : IntKind.i64.wrap ((k0 : Int) + 1 - 1) = (k0 : Int) := by rw [IntWalk.i64_in _ (by omega)]; omega
          have hw2 : IntKind.i64.wrap (k0 : Int) = (k0 : Int) := IntWalk.i64_in _ (by omega)
          clear hx hy hi
          go_wp2
          go_quiet (fail)
          go_wp2
          exact ⟨⟨k0 + 1, by omega, by go_num, below_drewN HB.out _⟩, by simp [intOf]; omega⟩
        · have hki2 : ¬ ((k0 : Int) + 1 < (C : Int)) := by omega
          go_wp2
          go_ret
          exact ⟨rfl, HW5.out.trans (HB.out.mono HW5.out.size)⟩
end Go.Proofs.Ytkheeiipkdeihaa
