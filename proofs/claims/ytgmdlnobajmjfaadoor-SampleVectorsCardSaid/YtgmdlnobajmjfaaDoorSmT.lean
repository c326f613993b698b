/- SampleTells' walk. -/
import Derived.Test.YtgmdlnobajmjfaaDoorSmA
import Derived.Test.YtgmdlnobajmjfaaDoorSmp1
import Derived.Outline
namespace Go.Proofs.YtgmdlnobajmjfaaDoor
open Go.RowKit
set_option linter.unusedSimpArgs false
set_option linter.unusedVariables false

def AnsB (e : Ending) : Prop := ∃ r : Bool, e = .returned (.bool r)
set_option maxRecDepth 100000 in
set_option maxHeartbeats 4000000 in
theorem kLightLabels {n : Nat} {v : Value} {l : List Lab} {W : World} (hn : n ≤ W.heap.size) (hl : IsLabs n W v l) :
    Calls Tryd.prog 7 #[v] W fun e w' => AnsB e ∧ w' = W := by
  obtain ⟨p, cap, rfl, h1, h2, -⟩ := hl.open
  have Hl := Lib.hid hl
  unfold maxLen at h2
  obtain ⟨N, hN⟩ : ∃ z, l.length = z := ⟨_, rfl⟩
  rw [hN] at Hl h1 ⊢
  have HNL := Lib.hid hN
  have hlen : (N : Int) ≤ 9223372036854775807 := by omega
  clear hl hN
  go_enter Tryd.func7, Tryd.ntmps7; (try simp only [List.append_eq, List.cons_append, List.nil_append])
  go_wp2
  go_loopw [3] (fun j wr => ∃ k : Nat, k ≤ N ∧ k ≤ 31 ∧ j = .int .i64 k ∧ wr = W) (fun j _ => 32 - (intOf j).toNat)
  case atStart => exact ⟨0, Nat.zero_le _, by omega, rfl, rfl⟩
  case round =>
    obtain ⟨k, hk, hk31, rfl, hw⟩ := hrel
    subst hw
    by_cases hlt : k < N ∧ k ≤ 30
    · obtain ⟨h5, h6⟩ := hlt
      have hki : (k : Int) < (N : Int) := by omega
      have hkj : (k : Int) ≤ 30 := by omega
      obtain ⟨b1, o1, rfl, hb1, d0, d1, -, -⟩ := Hl.out.get (k := k) (by have := HNL.out; omega)
      have hw1 : b1 < wr.heap.size := by omega
      go_wp2
      all_goals first
        | exact ⟨⟨k + 1, by omega, by omega, by go_num, rfl⟩, by simp [intOf]; omega⟩
        | exact ⟨⟨k + 1, by omega, by omega, by go_num, trivial⟩, by simp [intOf]; omega⟩
        | (go_ret; exact ⟨⟨_, rfl⟩, rfl⟩)
    · by_cases h5 : k < N
      · have hki : (k : Int) < (N : Int) := by omega
        have hkj : ¬ (k : Int) ≤ 30 := by omega
        go_wp2
        go_ret
        exact ⟨⟨_, rfl⟩, rfl⟩
      · have hki : ¬ (k : Int) < (N : Int) := by omega
        go_wp2
        go_ret
        exact ⟨⟨_, rfl⟩, rfl⟩
def anyL (v : List Rs) (l : List Lab) : Bool := v.any fun r => decide (r.labs = l)
theorem anyL_step {v : List Rs} {l : List Lab} {k : Nat} {r : Rs} (h : v[k]? = some r) : anyL (v.take (k + 1)) l = (anyL (v.take k) l || decide (r.labs = l)) := by
  unfold anyL
  rw [List.take_add_one, h, List.any_append]
  simp
theorem find_any (v : List Rs) (l : List Lab) : (findR v l).2.2 = anyL v l := by
  have h := findV_some v l
  unfold findR anyL
  rw [← h]
  cases findV v l <;> rfl
theorem cnt_step {s : ByteArray} {k : Nat} (h : k < s.size) : (s.data.toList.take (k + 1)).count 10 = (s.data.toList.take k).count 10 + if s[k] = 10 then 1 else 0 := by
  rw [take_snoc' s k h, List.count_append]
  congr 1
  rw [List.count_singleton]
  by_cases h1 : s[k] = 10
  · rw [if_pos h1, h1]; rfl
  · rw [if_neg h1]; simp [h1]
theorem cnt_le (s : ByteArray) (k : Nat) : (s.data.toList.take k).count 10 ≤ k := Nat.le_trans List.count_le_length (List.length_take_le _ _)
set_option maxRecDepth 100000 in
set_option maxHeartbeats 16000000 in
theorem wTells {v w : List Rs} {l : List Lab} {va vb vl : Value} {W : World} (ha : IsRes W.heap.size W va v) (hb : IsRes W.heap.size W vb w) (hl : IsLabs W.heap.size W vl l) (hT : TB W.heap.size W) :
    Calls Tryd.prog 4 #[va, vb, vl] W fun e w' => e = .returned (.bool true) ∧ Below W.heap.size W w' := by
  obtain ⟨p, cap, rfl, hc1, hc2⟩ := ha.open
  obtain ⟨q, cbp, rfl, hd1, hd2⟩ := hb.open
  unfold maxLen at hc2 hd2
  have HA := Lib.hid ha; have HB := Lib.hid hb; have HL := Lib.hid hl; have HT := Lib.hid hT
  clear ha hb hl hT
  obtain ⟨N, hN⟩ : ∃ z, v.length = z := ⟨_, rfl⟩
  obtain ⟨M, hM⟩ : ∃ z, w.length = z := ⟨_, rfl⟩
  rw [hN] at HA hc1 ⊢
  rw [hM] at HB hd1 ⊢
  have HNL := Lib.hid hN; have HML := Lib.hid hM
  have hN2 : (N : Int) ≤ 9223372036854775807 := by omega
  have hM2 : (M : Int) ≤ 9223372036854775807 := by omega
  clear hN hM
  have H0 := Lib.hid (Below.refl W.heap.size W)
  go_enter Tryd.func4, Tryd.ntmps4; (try simp only [List.append_eq, List.cons_append, List.nil_append])
  go_wp2_with fail
  refine (lLives W HT.out).mono ?_
  rintro e w0 ⟨rfl, hb0⟩
  have HW := Lib.hid hb0
  clear hb0
  by_cases hn60 : N ≤ 60
  case neg =>
    have hi : (60 : Int) < (N : Int) := by omega
    go_wp2
    go_ret
    exact ⟨rfl, HW.out⟩
  have hi : (N : Int) ≤ 60 := by omega
  have hi3 : decide ((60 : Int) < (N : Int)) = false := decide_eq_false (by omega)
  by_cases hm60 : M ≤ 60
  case neg =>
    have hi2 : (60 : Int) < (M : Int) := by omega
    go_wp2
    go_ret
    exact ⟨rfl, HW.out⟩
  have hi2 : (M : Int) ≤ 60 := by omega
  have hi4 : decide ((60 : Int) < (M : Int)) = false := decide_eq_false (by omega)
  go_wp2_with fail
  refine (sCheckV HW.out.size (HA.out.mono HW.out (Nat.le_refl _))).mono ?_
  rintro e w1 ⟨rfl, hb1⟩
  have HW := Lib.hid (HW.out.trans (hb1.mono HW.out.size))
  clear hb1
  obtain ⟨cv, hcv⟩ : ∃ z, checkV v = z := ⟨_, rfl⟩
  have HCV := Lib.hid hcv
  rw [hcv]
  clear hcv
  by_cases hv0 : cv = 0
  case neg =>
    have hx : (cv != 0) = true := by simp [hv0]
    clear hv0
    go_wp2
    go_ret
    exact ⟨rfl, HW.out⟩
  subst hv0
  go_wp2_with fail
  refine (sCheckV HW.out.size (HB.out.mono HW.out (Nat.le_refl _))).mono ?_
  rintro e w2 ⟨rfl, hb1⟩
  have HW := Lib.hid (HW.out.trans (hb1.mono HW.out.size))
  clear hb1
  obtain ⟨cw, hcw⟩ : ∃ z, checkV w = z := ⟨_, rfl⟩
  have HCW := Lib.hid hcw
  rw [hcw]
  clear hcw
  by_cases hw0 : cw = 0
  case neg =>
    have hx : (cw != 0) = true := by simp [hw0]
    clear hw0
    go_wp2
    go_ret
    exact ⟨rfl, HW.out⟩
  subst hw0
  go_wp2_with fail
  refine (kLightLabels HW.out.size (HL.out.mono HW.out (Nat.le_refl _))).mono ?_
  rintro e w3 ⟨⟨bl, rfl⟩, hw3⟩
  subst hw3
  cases bl with
  | false =>
    go_wp2
    go_ret
    exact ⟨rfl, HW.out⟩
  | true =>
    have HT3 := Lib.hid ((HT.out.on HW.out).less HW.out.size)
    have hN60 : v.length ≤ 1000 := by have := HNL.out; omega
    have hM60 : w.length ≤ 1000 := by have := HML.out; omega
    have HN60 := Lib.hid hN60; have HM60 := Lib.hid hM60
    clear hN60 hM60
    go_wp2_with fail
    refine (sLines HW.out.size (HA.out.mono HW.out (Nat.le_refl _)) HN60.out HT3.out).mono ?_
    rintro e w4 ⟨rfl, hb1⟩
    have HW := Lib.hid (HW.out.trans (hb1.mono HW.out.size))
    clear hb1
    have HT4 := Lib.hid ((HT.out.on HW.out).less HW.out.size)
    go_wp2_with fail
    refine (sLines HW.out.size (HB.out.mono HW.out (Nat.le_refl _)) HM60.out HT4.out).mono ?_
    rintro e w5 ⟨rfl, hb1⟩
    have HW := Lib.hid (HW.out.trans (hb1.mono HW.out.size))
    clear hb1
    have hEQ : ((⟨(linesT v).toArray⟩ : ByteArray).toList == (⟨(linesT w).toArray⟩ : ByteArray).toList) = decide (v = w) := by rw [toList_beq]; exact lines_same HCV.out HCW.out
    obtain ⟨S, hS⟩ : ∃ z, (⟨(linesT v).toArray⟩ : ByteArray) = z := ⟨_, rfl⟩
    obtain ⟨S2, hS2⟩ : ∃ z, (⟨(linesT w).toArray⟩ : ByteArray) = z := ⟨_, rfl⟩
    rw [hS, hS2] at hEQ ⊢
    have HS := Lib.hid hS
    clear hS hS2
    obtain ⟨bb, hbb⟩ : ∃ z, decide (v = w) = z := ⟨_, rfl⟩
    rw [hbb] at hEQ
    have HBB := Lib.hid hbb
    clear hbb
    have hbx : (bb != bb) = false := by simp
    go_wp2_with fail
    refine (kVector HW.out.size (HA.out.mono HW.out (Nat.le_refl _)) (HB.out.mono HW.out (Nat.le_refl _))).mono ?_
    rintro e w6 ⟨rfl, hb1⟩
    have HW := Lib.hid (HW.out.trans (hb1.mono HW.out.size))
    clear hb1
    rw [HBB.out]
    go_wp2_with fail
    refine (sSame HW.out.size (HA.out.mono HW.out (Nat.le_refl _)) (HB.out.mono HW.out (Nat.le_refl _))).mono ?_
    rintro e w7 ⟨rfl, hb1⟩
    have HW := Lib.hid (HW.out.trans (hb1.mono HW.out.size))
    clear hb1
    rw [HBB.out]
    go_wp2_with fail
    refine (kVector HW.out.size (HA.out.mono HW.out (Nat.le_refl _)) (HB.out.mono HW.out (Nat.le_refl _))).mono ?_
    rintro e w8 ⟨rfl, hb1⟩
    have HW := Lib.hid (HW.out.trans (hb1.mono HW.out.size))
    clear hb1 hEQ
    rw [HBB.out]
    have HT8 := Lib.hid ((HT.out.on HW.out).less HW.out.size)
    go_wp2_with fail
    refine (sLines HW.out.size (HA.out.mono HW.out (Nat.le_refl _)) HN60.out HT8.out).mono ?_
    rintro e w9 ⟨rfl, hb1⟩
    have HW := Lib.hid (HW.out.trans (hb1.mono HW.out.size))
    clear hb1
    rw [HS.out]
    have HSL := Lib.hid (show S.data.toList = linesT v by rw [← HS.out])
    have hSs : S.size ≤ 200000 := by
      have h1 : S.size = (linesT v).length := by rw [← HSL.out]; simp
      obtain ⟨rows, ha1, ha2, ha3⟩ := HA.out
      have h2 := linesT_len (v := v) (fun x hx => by
        obtain ⟨j, hj, rfl⟩ := List.getElem_of_mem hx
        obtain ⟨q9, c9, -, -, h9⟩ := ha3 j (rows[j]'(by omega)) v[j] (by simp) (by simp)
        exact h9)
      have h3 : v.length * 2297 ≤ 60 * 2297 := Nat.mul_le_mul (by have := HNL.out; omega) (Nat.le_refl _)
      omega
    obtain ⟨n, hn⟩ : ∃ z, S.size = z := ⟨_, rfl⟩
    have HNS := Lib.hid hn
    rw [hn] at hSs
    clear hn
    have hn2 : (n : Int) ≤ 200000 := by omega
    go_wp2_with fail
    go_loopw [8, 9] (fun s8 s9 wr => ∃ k : Nat, k ≤ S.size ∧ s9 = .int .i64 k ∧ s8 = .int .i64 ((S.data.toList.take k).count 10 : Nat) ∧ wr = w9) (fun _ s9 _ => S.size - (intOf s9).toNat)
    case atStart => exact ⟨0, Nat.zero_le _, rfl, rfl, rfl⟩
    case round =>
      obtain ⟨k, hk, rfl, rfl, hwr⟩ := hrel
      subst hwr
      have hcl := cnt_le S k
      have hkn : k ≤ 200000 := by have := HNS.out; omega
      by_cases hlt : k < S.size
      · have HST := Lib.hid (cnt_step hlt)
        obtain ⟨cc, hcc⟩ : ∃ z, (S.data.toList.take k).count 10 = z := ⟨_, rfl⟩
        rw [hcc] at hcl HST ⊢
        clear hcc
        have hcc2 : (cc : Int) ≤ 200000 := by omega
        by_cases h10 : S[k] = 10
        · have hb10 : ((S[k].toNat : Int) == 10) = true := by rw [h10]; rfl
          have HST2 := Lib.hid (show (S.data.toList.take (k + 1)).count 10 = cc + 1 by rw [HST.out, if_pos h10])
          clear h10 HST
          go_wp2
          exact ⟨⟨k + 1, by omega, by go_num, by rw [HST2.out]; go_num, trivial⟩, by simp [intOf]; omega⟩
        · have hb10 : ((S[k].toNat : Int) == 10) = false := by
            simp
            intro h
            have e10 : (10 : UInt8).toNat = 10 := rfl
            exact h10 (UInt8.toNat_inj.1 (by omega))
          have HST2 := Lib.hid (show (S.data.toList.take (k + 1)).count 10 = cc by rw [HST.out, if_neg h10]; rfl)
          clear h10 HST
          go_wp2
          exact ⟨⟨k + 1, by omega, by go_num, by rw [HST2.out], trivial⟩, by simp [intOf]; omega⟩
      · have hcnt : (S.data.toList.take k).count 10 = N := by
          rw [List.take_of_length_le (by simp; omega), HSL.out, lines_count, HNL.out]
        rw [hcnt]
        clear hcnt hcl
        have hki : ¬ ((k : Int) < (S.size : Int)) := by omega
        obtain ⟨w9, hw9⟩ : ∃ z, z = wr := ⟨_, rfl⟩
        subst hw9
        go_wp2_with fail
        go_loopw [10, 11] (fun s10 s11 wx => ∃ j : Nat, j ≤ N ∧ s11 = .int .i64 j ∧ s10 = .bool (anyL (v.take j) l) ∧ Below W.heap.size W wx) (fun _ s11 _ => N - (intOf s11).toNat)
        case atStart => exact ⟨0, Nat.zero_le _, rfl, rfl, HW.out⟩
        case round =>
          obtain ⟨j, hj, rfl, rfl, hbx2⟩ := hrel
          obtain ⟨x0, hx0⟩ : ∃ z, z = wr := ⟨_, rfl⟩
          subst hx0
          have HX := Lib.hid hbx2
          clear hbx2
          by_cases hjn : j < N
          · have hji : (j : Int) < (N : Int) := by omega
            have hj0 : (0 : Int) ≤ (j : Int) := by omega
            obtain ⟨r, hr⟩ : ∃ r, v[j]? = some r := ⟨_, List.getElem?_eq_getElem (by have := HNL.out; omega)⟩
            have hvx := HA.out.mono HX.out HX.out.size
            obtain ⟨b1, o1, q1, c1, rfl, hb1, d0, d1, d2, hl1, -⟩ := hvx.get hr
            have HVX := Lib.hid hvx
            have HLX := Lib.hid (HL.out.mono HX.out HX.out.size)
            have HL1 := Lib.hid hl1
            have HF := Lib.hid (findR_some (findV_at HCV.out hr))
            have HST := Lib.hid (anyL_step (l := l) hr)
            clear hr hl1 hvx
            obtain ⟨l1, x1, y1⟩ := r
            simp only at d0 d1 d2 HL1 HF HST
            obtain ⟨m1, hm1⟩ : ∃ z, l1.length = z := ⟨_, rfl⟩
            rw [hm1] at d0 HL1
            clear hm1
            obtain ⟨an, han⟩ : ∃ z, anyL (v.take j) l = z := ⟨_, rfl⟩
            rw [han] at HST ⊢
            clear han
            go_wp2_with fail
            refine (sFind (Nat.le_refl _) HVX.out HL1.out).mono ?_
            rintro e x1w ⟨rfl, hb2⟩
            rw [HF.out]
            have HX1 := Lib.hid (HX.out.trans (hb2.mono HX.out.size))
            have HVX := Lib.hid (HVX.out.mono hb2 hb2.size); have HLX := Lib.hid (HLX.out.mono hb2 hb2.size); have HL1 := Lib.hid (HL1.out.mono hb2 hb2.size)
            have D0 := Lib.hid ((hb2.cell (p := ⟨b1, o1 + j * 3, none⟩) hb1).trans d0)
            have D1 := Lib.hid ((hb2.cell (p := ⟨b1, o1 + j * 3 + 1, none⟩) hb1).trans d1)
            have D2 := Lib.hid ((hb2.cell (p := ⟨b1, o1 + j * 3 + 2, none⟩) hb1).trans d2)
            have hb1w := Nat.lt_of_lt_of_le hb1 hb2.size
            clear hb2 d0 d1 d2 hb1
            simp only
            go_upto_region 19 with (refine wpList_store_new rfl 31 _ _ rfl #[.int .i64 x1, .bool y1] _ _ rfl rfl (by kernel_rfl) rfl (by kernel_rfl) ?_)
            have ho1 := (Below.refl x1w.heap.size x1w).alloc (Nat.le_refl _) (.cells #[.int .i64 x1, .bool y1] 31)
            have hk1 := Blk.new x1w [.int .i64 x1, .bool y1] 31
            have HX2 := Lib.hid (HX1.out.trans (ho1.mono HX1.out.size))
            have HLX := Lib.hid (HLX.out.mono ho1 ho1.size); have HL1 := Lib.hid (HL1.out.mono ho1 ho1.size)
            have D0 := Lib.hid ((ho1.cell (p := ⟨b1, o1 + j * 3, none⟩) hb1w).trans D0.out)
            have D1 := Lib.hid ((ho1.cell (p := ⟨b1, o1 + j * 3 + 1, none⟩) hb1w).trans D1.out)
            have D2 := Lib.hid ((ho1.cell (p := ⟨b1, o1 + j * 3 + 2, none⟩) hb1w).trans D2.out)
            have hb2w := Nat.lt_of_lt_of_le hb1w ho1.size
            obtain ⟨g1, hg1⟩ : ∃ z, x1w.heap.size = z := ⟨_, rfl⟩
            obtain ⟨x2w, hx2w⟩ : ∃ z, x1w.alloc (.cells #[.int .i64 x1, .bool y1] 31) = z := ⟨_, rfl⟩
            rw [show x1w.alloc (.cells ([.int .i64 x1, .bool y1] : List Value).toArray 31) = x2w from hx2w] at hk1
            rw [hx2w] at HX2 HLX HL1 D0 D1 D2 hb2w ⊢
            rw [hg1] at hk1 ⊢
            have e0 := hk1.cell 0 _ rfl; have e1 := hk1.cell 1 _ rfl; have gl := hk1.lt
            have d0 := D0.out; have d1 := D1.out; have d2 := D2.out
            clear hx2w hg1 ho1 hk1 hb1w D0 D1 D2
            have hne := fun w => valNe x1 x1 y1 y1 w
            have hee : (!decide (x1 = x1 ∧ y1 = y1)) = false := by simp
            go_quiet (fail)
            have HX3 := Lib.hid (below_drewN HX2.out nq)
            have hbq : Below x2w.heap.size x2w (x2w.drewN nq) := below_drewN (Below.refl _ _) _
            have HLX := Lib.hid (HLX.out.mono hbq hbq.size); have HL1 := Lib.hid (HL1.out.mono hbq hbq.size)
            have D0 := Lib.hid ((hbq.cell (p := ⟨b1, o1 + j * 3, none⟩) hb2w).trans d0)
            have hb3w := Nat.lt_of_lt_of_le hb2w hbq.size
            obtain ⟨x3w, hx3w⟩ : ∃ z, x2w.drewN nq = z := ⟨_, rfl⟩
            rw [hx3w] at HX3 HLX HL1 D0 hb3w ⊢
            clear hx3w hbq hne e0 e1 d0 d1 d2 gl hb2w
            have d0 := D0.out
            cases an with
            | true =>
              go_wp2
              exact ⟨⟨j + 1, by omega, by go_num, by rw [HST.out]; rfl, HX3.out⟩, by simp [intOf]; omega⟩
            | false =>
              go_wp2_with fail
              refine (kLabels l1 l _ _ x3w.heap.size x3w (Nat.le_refl _) HL1.out HLX.out).mono ?_
              rintro e x4w ⟨rfl, hb4⟩
              have HX4 := Lib.hid (HX3.out.trans (hb4.mono HX3.out.size))
              clear hb4 d0
              obtain ⟨lb, hlb⟩ : ∃ z, decide (l1 = l) = z := ⟨_, rfl⟩
              rw [hlb] at HST ⊢
              clear hlb
              go_wp2
              exact ⟨⟨j + 1, by omega, by go_num, by rw [HST.out]; simp, HX4.out⟩, by simp [intOf]; omega⟩
          · have hjn2 : j = N := by omega
            subst hjn2
            have hji : ¬ ((j : Int) < (j : Int)) := by omega
            have HE := Lib.hid (show anyL (v.take j) l = (findR v l).2.2 by rw [List.take_of_length_le (by rw [HNL.out]; exact Nat.le_refl _), find_any])
            rw [HE.out]
            obtain ⟨fr, hfr⟩ : ∃ z, findR v l = z := ⟨_, rfl⟩
            have HFR := Lib.hid hfr
            rw [hfr]
            clear hfr
            obtain ⟨f1, f2, f3⟩ := fr
            simp only
            go_wp2_with fail
            refine (sFind HX.out.size (HA.out.mono HX.out (Nat.le_refl _)) (HL.out.mono HX.out (Nat.le_refl _))).mono ?_
            rintro e x1w ⟨rfl, hb2⟩
            rw [HFR.out]
            have HX1 := Lib.hid (HX.out.trans (hb2.mono HX.out.size))
            clear hb2
            simp only
            have hNN : ((j : Int) == (j : Int)) = true := by simp
            have hff : (f3 == f3) = true := by simp
            go_wp2_with (refine wpList_store_new rfl 31 _ _ rfl #[.int .i64 f1, .bool f2] _ _ rfl rfl (by kernel_rfl) rfl (by kernel_rfl) ?_)
            go_ret
            exact ⟨rfl, HX1.out.alloc HX1.out.size _⟩
end Go.Proofs.YtgmdlnobajmjfaaDoor
