/- slices.Equal at labels, sample.same, slices.EqualFunc, sample.Same, kit.Vector. Printed by wip/gen_sm4.py out of wip/sm4.tmpl. -/
import Derived.Test.YtgmdlnobajmjfaaDoorSm3
import Derived.Test.YtgmdlnobajmjfaaDoorLa7
namespace Go.Proofs.YtgmdlnobajmjfaaDoor
open Go.RowKit
set_option linter.unusedSimpArgs false
set_option linter.unusedVariables false

theorem valIn (a b : Int) (o p : Bool) (w : World) : (Op.equalIn 10000 31 (.agg #[.int .i64 a, .bool o]) (.agg #[.int .i64 b, .bool p])).run Tryd.prog w = .ok (decide (a = b ∧ o = p)) w := by
  by_cases h1 : a = b
  · by_cases h2 : o = p
    · subst h1 h2
      simp [go_sem]
    · have h2' : (o == p) = false := by simpa using h2
      rw [decide_eq_false (fun e => h2 e.2)]
      simp [go_sem, h1, h2', h2]
  · have h1' : (a == b) = false := by simpa using h1
    rw [decide_eq_false (fun e => h1 e.1)]
    simp [go_sem, h1', h1]
theorem valNe (a b : Int) (o p : Bool) (w : World) : (binOp BinOp.neq 31 (.agg #[.int .i64 a, .bool o]) (.agg #[.int .i64 b, .bool p])).run Tryd.prog w = .ok (.bool (!decide (a = b ∧ o = p))) w := by
  rw [run_neq_struct, valIn]; rfl
theorem valEq (a b : Int) (o p : Bool) (w : World) : (binOp BinOp.eql 31 (.agg #[.int .i64 a, .bool o]) (.agg #[.int .i64 b, .bool p])).run Tryd.prog w = .ok (.bool (decide (a = b ∧ o = p))) w := by
  rw [run_eql_struct, valIn]; rfl
theorem neq_step {e : Operand → Value} {oi : Oper} {x y : Operand} (a b : Int) (o p : Bool) (w : World) (ho : oi.op = .binOp .neq 31 x y 31 := by rfl) (hx : e x = .agg #[.int .i64 a, .bool o] := by rfl) (hy : e y = .agg #[.int .i64 b, .bool p] := by rfl) :
    (execOp e oi).run Tryd.prog w = .ok (.value (.bool (!decide (a = b ∧ o = p)))) w := by
  have h := valNe a b o p w
  unfold execOp
  rw [ho]
  simp [hx, hy, go_sem, h]
  by_cases h1 : a = b <;> by_cases h2 : o = p <;> simp [h1, h2]
set_option maxHeartbeats 1000000 in
theorem eqLabs (la lb : List Lab) (va vb : Value) (n : Nat) (w : World) (hn : n ≤ w.heap.size) (ha : IsLabs n w va la) (hb : IsLabs n w vb lb) :
    Calls Tryd.prog 34 #[va, vb] w fun e w' => e = .returned (.bool (decide (la = lb))) ∧ Below w.heap.size w w' := by
  obtain ⟨p, cap, rfl, _, _, hla⟩ := ha.open
  obtain ⟨q, cbp, rfl, _, _, hlb⟩ := hb.open
  unfold maxLen at hla hlb
  go_enter Tryd.func34, Tryd.ntmps34; (try simp only [List.append_eq, List.cons_append, List.nil_append])
  by_cases hl : la.length = lb.length
  · have Hl := Lib.hid hl; clear hl
    have hl : ((la.length : Int) != (lb.length : Int)) = false := by simp [Hl.out]
    go_wp2
    go_loopw [13] (fun i wr => ∃ k : Nat, k ≤ la.length ∧ i = .int .i64 k ∧ la.take k = lb.take k ∧ Below w.heap.size w wr) (fun i _ => la.length - (intOf i).toNat)
    case atStart => exact ⟨0, Nat.zero_le _, rfl, by simp, Below.refl _ _⟩
    case round =>
      obtain ⟨k, hk, rfl, hr, hbl⟩ := hrel
      have Hr := Lib.hid hr; clear hr
      have Hb := Lib.hid hbl; clear hbl
      by_cases hlt : k < la.length
      · have hltb : k < lb.length := by have := Hl.out; omega
        obtain ⟨b, off, rfl, hbn, h1, h2, hs1, hs2⟩ := (ha.mono (Hb.out.mono hn) (Nat.le_refl _)).get hlt
        obtain ⟨b', off', rfl, hbn', h1', h2', hs1', hs2'⟩ := (hb.mono (Hb.out.mono hn) (Nat.le_refl _)).get hltb
        have Ha := Lib.hid ha; clear ha
        have Hbb := Lib.hid hb; clear hb
        have hne := fun w => labNe la[k] lb[k] w
        go_wp2
        go_quiet (fail)
        go_wp2
        all_goals (try simp only [Bool.not_eq_true', Bool.not_eq_false', Bool.not_true, Bool.not_false, Bool.not_eq_true, Bool.not_eq_false, beq_iff_eq, beq_eq_false_iff_ne, bne_iff_ne, ne_eq, bne_eq_false_iff_eq, decide_eq_true_eq, decide_eq_false_iff_not, toList_inj] at *)
        · go_ret
          refine ⟨ret_bool (Eq.symm (decide_eq_false (ne_of_at' hlt hltb ?_))), below_drewN Hb.out _⟩
          assumption
        · refine ⟨⟨k + 1, by omega, by go_num, take_eq_step' Hr.out hlt hltb ?_, below_drewN Hb.out _⟩, by simp [intOf]; omega⟩
          assumption
      · go_wp2
        go_ret
        refine ⟨ret_bool (Eq.symm (decide_eq_true ?_)), Hb.out⟩
        have hk' : k = la.length := by omega
        subst hk'
        exact eq_of_upto' Hl.out Hr.out
  · have hl' : ((la.length : Int) != (lb.length : Int)) = true := by simp; omega
    go_wp2
    go_ret
    exact ⟨ret_bool (Eq.symm (decide_eq_false (fun e => hl (by rw [e])))), Below.refl _ _⟩
theorem rs_eq {a b : Rs} : a = b ↔ a.labs = b.labs ∧ a.n = b.n ∧ a.over = b.over := by
  cases a; cases b; simp
def sameB (a b : Rs) : Bool := decide (a.labs = b.labs) && decide (a.n = b.n ∧ a.over = b.over)
theorem sameB_eq (a b : Rs) : sameB a b = decide (a = b) := by
  unfold sameB
  rw [Bool.eq_iff_iff]
  simp only [Bool.and_eq_true, decide_eq_true_eq]
  exact rs_eq.symm
set_option maxRecDepth 100000 in
set_option maxHeartbeats 4000000 in
theorem sSame1 {r s : Rs} {p q : Option Addr} {c d n : Nat} {W : World} (hn : n ≤ W.heap.size) (h1 : IsLabs n W (.slice p r.labs.length c) r.labs) (h2 : IsLabs n W (.slice q s.labs.length d) s.labs) :
    Calls Tryd.prog 37 #[.agg #[.slice p r.labs.length c, .int .i64 r.n, .bool r.over], .agg #[.slice q s.labs.length d, .int .i64 s.n, .bool s.over]] W fun e w' => e = .returned (.bool (decide (r = s))) ∧ Below W.heap.size W w' := by
  rw [← sameB_eq]
  have HE := Lib.hid (show sameB r s = (decide (r.labs = s.labs) && decide (r.n = s.n ∧ r.over = s.over)) from rfl)
  have H1 := Lib.hid h1; have H2 := Lib.hid h2; have HN := Lib.hid hn
  clear h1 h2 hn
  obtain ⟨l1, x1, y1⟩ := r
  obtain ⟨l2, x2, y2⟩ := s
  simp only at H1 H2 HE ⊢
  obtain ⟨m1, hm1⟩ : ∃ z, l1.length = z := ⟨_, rfl⟩
  obtain ⟨m2, hm2⟩ : ∃ z, l2.length = z := ⟨_, rfl⟩
  rw [hm1] at H1 ⊢
  rw [hm2] at H2 ⊢
  clear hm1 hm2
  go_enter Tryd.func37, Tryd.ntmps37; (try simp only [List.append_eq, List.cons_append, List.nil_append])
  go_upto_region 1 with fail
  have hB0 := two_below W (.cells #[.slice p m1 c, .int .i64 x1, .bool y1] 39) (.cells #[.slice q m2 d, .int .i64 x2, .bool y2] 39)
  have hb1 := two_at W [.slice p m1 c, .int .i64 x1, .bool y1] [.slice q m2 d, .int .i64 x2, .bool y2] 39 39
  have hb2 := two_at' W (.cells #[.slice p m1 c, .int .i64 x1, .bool y1] 39) [.slice q m2 d, .int .i64 x2, .bool y2] 39
  obtain ⟨X, hX⟩ : ∃ z, (W.alloc (.cells #[.slice p m1 c, .int .i64 x1, .bool y1] 39)).alloc (.cells #[.slice q m2 d, .int .i64 x2, .bool y2] 39) = z := ⟨_, rfl⟩
  rw [show (W.alloc (.cells ([.slice p m1 c, .int .i64 x1, .bool y1] : List Value).toArray 39)).alloc (.cells ([.slice q m2 d, .int .i64 x2, .bool y2] : List Value).toArray 39) = X from hX] at hb1
  rw [show (W.alloc (.cells #[.slice p m1 c, .int .i64 x1, .bool y1] 39)).alloc (.cells ([.slice q m2 d, .int .i64 x2, .bool y2] : List Value).toArray 39) = X from hX] at hb2
  rw [hX] at hB0 ⊢
  clear hX
  have HB0 := Lib.hid hB0
  obtain ⟨g, hg⟩ : ∃ z, W.heap.size = z := ⟨_, rfl⟩
  rw [hg] at hb1 hb2 ⊢
  have HK1 := Lib.hid hb1; have HK2 := Lib.hid hb2
  have HG := Lib.hid hg
  clear hB0 hb1 hb2 hg
  have e0 := HK1.out.cell 0 _ rfl; have e1 := HK1.out.cell 1 _ rfl; have e2 := HK1.out.cell 2 _ rfl; have gl1 := HK1.out.lt
  have f0 := HK2.out.cell 0 _ rfl; have f1 := HK2.out.cell 1 _ rfl; have f2 := HK2.out.cell 2 _ rfl; have gl2 := HK2.out.lt
  go_wp2_with fail
  refine (eqLabs l1 l2 _ _ n X (Nat.le_trans HN.out HB0.out.size) (H1.out.mono (HB0.out.mono HN.out) (Nat.le_refl _)) (H2.out.mono (HB0.out.mono HN.out) (Nat.le_refl _))).mono ?_
  rintro e w1 ⟨rfl, hb1⟩
  have HB1 := Lib.hid (HB0.out.trans (hb1.mono HB0.out.size))
  have HK1 := Lib.hid (HK1.out.keep hb1); have HK2 := Lib.hid (HK2.out.keep hb1)
  clear hb1 e0 e1 e2 f0 f1 f2 gl1 gl2
  have e0 := HK1.out.cell 0 _ rfl; have e1 := HK1.out.cell 1 _ rfl; have e2 := HK1.out.cell 2 _ rfl; have gl1 := HK1.out.lt
  have f0 := HK2.out.cell 0 _ rfl; have f1 := HK2.out.cell 1 _ rfl; have f2 := HK2.out.cell 2 _ rfl; have gl2 := HK2.out.lt
  obtain ⟨bb, hbb⟩ : ∃ z, decide (l1 = l2) = z := ⟨_, rfl⟩
  rw [hbb] at HE ⊢
  clear hbb
  have heq := fun w => valEq x1 x2 y1 y2 w
  cases bb with
  | true =>
    have HE2 := Lib.hid (show sameB ⟨l1, x1, y1⟩ ⟨l2, x2, y2⟩ = decide (x1 = x2 ∧ y1 = y2) from by rw [HE.out]; simp)
    obtain ⟨b2, hb2⟩ : ∃ z, decide (x1 = x2 ∧ y1 = y2) = z := ⟨_, rfl⟩
    rw [hb2] at HE2 heq
    clear hb2 HE
    go_wp2
    go_ret
    exact ⟨by rw [HE2.out]; rfl, HB1.out⟩
  | false =>
    go_wp2
    go_ret
    exact ⟨by rw [HE.out]; rfl, HB1.out⟩
theorem take_eq_stepR {a b : List Rs} {k : Nat} {x y : Rs} (h : a.take k = b.take k) (hx : a[k]? = some x) (hy : b[k]? = some y) (he : x = y) : a.take (k + 1) = b.take (k + 1) := by
  rw [List.take_add_one, List.take_add_one, hx, hy, h, he]
theorem ne_of_atR {a b : List Rs} {k : Nat} {x y : Rs} (hx : a[k]? = some x) (hy : b[k]? = some y) (he : x ≠ y) : a ≠ b := by
  rintro rfl
  rw [hx] at hy
  exact he (Option.some.inj hy)
set_option maxRecDepth 100000 in
set_option maxHeartbeats 8000000 in
theorem eqRes {la lb : List Rs} {va vb : Value} {n : Nat} {W : World} (hn : n ≤ W.heap.size) (ha : IsRes n W va la) (hb : IsRes n W vb lb) :
    Calls Tryd.prog 36 #[va, vb, .func (.func 37) #[] #[]] W fun e w' => e = .returned (.bool (decide (la = lb))) ∧ Below W.heap.size W w' := by
  obtain ⟨p, cap, rfl, hc1, hc2⟩ := ha.open
  obtain ⟨q, cbp, rfl, hd1, hd2⟩ := hb.open
  unfold maxLen at hc2 hd2
  have HA := Lib.hid ha; have HB := Lib.hid hb; have HN := Lib.hid hn
  clear ha hb hn
  obtain ⟨N, hN⟩ : ∃ z, la.length = z := ⟨_, rfl⟩
  obtain ⟨M, hM⟩ : ∃ z, lb.length = z := ⟨_, rfl⟩
  rw [hN] at HA hc1 ⊢
  rw [hM] at HB hd1 ⊢
  have HNL := Lib.hid hN; have HML := Lib.hid hM
  have hN2 : (N : Int) ≤ 9223372036854775807 := by omega
  have hM2 : (M : Int) ≤ 9223372036854775807 := by omega
  clear hN hM
  by_cases hl : N = M
  · subst hl
    have hll : ((N : Int) != (N : Int)) = false := by simp
    go_enter Tryd.func36, Tryd.ntmps36; (try simp only [List.append_eq, List.cons_append, List.nil_append])
    go_wp2
    go_loopw [17] (fun i wr => ∃ k : Nat, k ≤ N ∧ i = .int .i64 k ∧ la.take k = lb.take k ∧ Below W.heap.size W wr) (fun i _ => N - (intOf i).toNat)
    case atStart => exact ⟨0, Nat.zero_le _, rfl, by simp, Below.refl _ _⟩
    case round =>
      obtain ⟨k, hk, rfl, hr, hbl⟩ := hrel
      have HRT := Lib.hid hr; have HBW := Lib.hid hbl
      have hsz := hbl.size
      clear hr hbl
      by_cases hlt : k < N
      · have hki : (k : Int) < (N : Int) := by omega
        obtain ⟨r, hr⟩ : ∃ r, la[k]? = some r := ⟨_, List.getElem?_eq_getElem (by have := HNL.out; omega)⟩
        obtain ⟨s, hs⟩ : ∃ r, lb[k]? = some r := ⟨_, List.getElem?_eq_getElem (by have := HML.out; omega)⟩
        obtain ⟨b1, o1, q1, c1, rfl, hb1, d0, d1, d2, hl1, -⟩ := (HA.out.mono (HBW.out.mono HN.out) (Nat.le_refl _)).get hr
        have HL1 := Lib.hid hl1
        have HRR := Lib.hid hr; have HSS := Lib.hid hs
        clear hr hs hl1
        obtain ⟨l1, x1, y1⟩ := r
        obtain ⟨l2, x2, y2⟩ := s
        simp only at d0 d1 d2 HL1
        obtain ⟨m1, hm1⟩ : ∃ z, l1.length = z := ⟨_, rfl⟩
        have HM1 := Lib.hid hm1
        rw [hm1] at d0 HL1
        clear hm1
        have hb1w : b1 < wr.heap.size := by have := HN.out; omega
        go_upto_region 6 with (refine wpList_store_new rfl 39 _ _ rfl #[.slice q1 m1 c1, .int .i64 x1, .bool y1] _ _ rfl rfl (by kernel_rfl) rfl (by kernel_rfl) ?_)
        have ho1 := (Below.refl wr.heap.size wr).alloc (Nat.le_refl _) (.cells #[.slice q1 m1 c1, .int .i64 x1, .bool y1] 39)
        have hk1 := Blk.new wr [.slice q1 m1 c1, .int .i64 x1, .bool y1] 39
        obtain ⟨g1, hg1⟩ : ∃ z, wr.heap.size = z := ⟨_, rfl⟩
        obtain ⟨w1, hw1⟩ : ∃ z, wr.alloc (.cells #[.slice q1 m1 c1, .int .i64 x1, .bool y1] 39) = z := ⟨_, rfl⟩
        have HB1 := Lib.hid (HBW.out.trans (ho1.mono hsz))
        have HL1 := Lib.hid (HL1.out.mono (ho1.mono (Nat.le_trans HN.out hsz)) (Nat.le_refl _))
        rw [show wr.alloc (.cells ([.slice q1 m1 c1, .int .i64 x1, .bool y1] : List Value).toArray 39) = w1 from hw1] at hk1
        rw [hw1] at HB1 HL1 ⊢
        rw [hg1] at hk1 ⊢
        have HK1 := Lib.hid hk1
        clear hw1 hg1 ho1 hk1 d0 d1 d2 hb1w hb1
        obtain ⟨b2, o2, q2, c2, rfl, hb2, d0, d1, d2, hl2, -⟩ := (HB.out.mono (HB1.out.mono HN.out) (Nat.le_refl _)).get HSS.out
        simp only at d0 d1 d2 hl2
        obtain ⟨m2, hm2⟩ : ∃ z, l2.length = z := ⟨_, rfl⟩
        have HM2 := Lib.hid hm2
        rw [hm2] at d0 hl2
        have HL2 := Lib.hid hl2
        clear hm2 hl2
        have hb2w : b2 < w1.heap.size := by have := HN.out; have := HB1.out.size; omega
        go_upto_region 7 with (refine wpList_store_new rfl 39 _ _ rfl #[.slice q2 m2 c2, .int .i64 x2, .bool y2] _ _ rfl rfl (by kernel_rfl) rfl (by kernel_rfl) ?_)
        have ho1 := (Below.refl w1.heap.size w1).alloc (Nat.le_refl _) (.cells #[.slice q2 m2 c2, .int .i64 x2, .bool y2] 39)
        have hk2 := Blk.new w1 [.slice q2 m2 c2, .int .i64 x2, .bool y2] 39
        have hnw1 : n ≤ w1.heap.size := Nat.le_trans HN.out HB1.out.size
        obtain ⟨g2, hg2⟩ : ∃ z, w1.heap.size = z := ⟨_, rfl⟩
        obtain ⟨w2, hw2⟩ : ∃ z, w1.alloc (.cells #[.slice q2 m2 c2, .int .i64 x2, .bool y2] 39) = z := ⟨_, rfl⟩
        have HK1 := Lib.hid (HK1.out.keep ho1)
        have HB2 := Lib.hid (HB1.out.trans (ho1.mono HB1.out.size))
        have HL1 := Lib.hid (HL1.out.mono (ho1.mono hnw1) (Nat.le_refl _)); have HL2 := Lib.hid (HL2.out.mono (ho1.mono hnw1) (Nat.le_refl _))
        rw [show w1.alloc (.cells ([.slice q2 m2 c2, .int .i64 x2, .bool y2] : List Value).toArray 39) = w2 from hw2] at hk2
        rw [hw2] at HK1 HB2 HL1 HL2 ⊢
        rw [hg2] at hk2 ⊢
        clear hw2 hg2 ho1 d0 d1 d2 hb2w hb2
        have e0 := HK1.out.cell 0 _ rfl; have e1 := HK1.out.cell 1 _ rfl; have e2 := HK1.out.cell 2 _ rfl
        have f0 := hk2.cell 0 _ rfl; have f1 := hk2.cell 1 _ rfl; have f2 := hk2.cell 2 _ rfl
        have gl1 := HK1.out.lt; have gl2 := hk2.lt
        clear hk2
        have hm1 := HM1.out; have hm2 := HM2.out
        subst hm1 hm2
        have HC := Lib.hid (sSame1 (r := ⟨l1, x1, y1⟩) (s := ⟨l2, x2, y2⟩) (n := n) (W := w2) (Nat.le_trans HN.out HB2.out.size) HL1.out HL2.out)
        go_wp2_with fail
        refine HC.out.mono ?_
        rintro e w3 ⟨rfl, hb3⟩
        have HB3 := Lib.hid (HB2.out.trans (hb3.mono HB2.out.size))
        clear hb3 e0 e1 e2 f0 f1 f2 HC
        by_cases hxy : (⟨l1, x1, y1⟩ : Rs) = ⟨l2, x2, y2⟩
        · have HXY := Lib.hid hxy
          rw [decide_eq_true hxy]
          clear hxy
          go_wp2
          exact ⟨⟨k + 1, by omega, by go_num, take_eq_stepR HRT.out HRR.out HSS.out HXY.out, HB3.out⟩, by simp [intOf]; omega⟩
        · have HXY := Lib.hid (ne_of_atR HRR.out HSS.out hxy)
          rw [decide_eq_false hxy]
          clear hxy
          go_wp2
          go_ret
          exact ⟨ret_bool (decide_eq_false HXY.out).symm, HB3.out⟩
      · have hki : ¬ ((k : Int) < (N : Int)) := by omega
        have hkN : k = N := by omega
        have HE := Lib.hid (show la = lb from by
          have h := HRT.out
          rw [hkN, List.take_of_length_le (by rw [HNL.out]; omega), List.take_of_length_le (by rw [HML.out]; omega)] at h
          exact h)
        clear hkN
        go_wp2
        go_ret
        exact ⟨ret_bool (decide_eq_true HE.out).symm, HBW.out⟩
  · have hll : ((N : Int) != (M : Int)) = true := by simp; omega
    have HE := Lib.hid (show la ≠ lb from fun e => hl (by rw [← HNL.out, ← HML.out, e]))
    clear hl
    go_enter Tryd.func36, Tryd.ntmps36; (try simp only [List.append_eq, List.cons_append, List.nil_append])
    go_wp2
    go_ret
    exact ⟨ret_bool (decide_eq_false HE.out).symm, Below.refl _ _⟩
theorem sSame {la lb : List Rs} {va vb : Value} {n : Nat} {W : World} (hn : n ≤ W.heap.size) (ha : IsRes n W va la) (hb : IsRes n W vb lb) :
    Calls Tryd.prog 15 #[va, vb] W fun e w' => e = .returned (.bool (decide (la = lb))) ∧ Below W.heap.size W w' := by
  have HC := Lib.hid (eqRes hn ha hb)
  clear ha hb hn
  go_enter Tryd.func15, Tryd.ntmps15; (try simp only [List.append_eq, List.cons_append, List.nil_append])
  go_wp2_with fail
  refine HC.out.mono ?_
  rintro e w1 ⟨rfl, hb1⟩
  have HB := Lib.hid hb1
  clear hb1
  go_wp2
  go_ret
  exact ⟨rfl, HB.out⟩
set_option maxRecDepth 100000 in
set_option maxHeartbeats 16000000 in
theorem kVector {la lb : List Rs} {va vb : Value} {n : Nat} {W : World} (hn : n ≤ W.heap.size) (ha : IsRes n W va la) (hb : IsRes n W vb lb) :
    Calls Tryd.prog 12 #[va, vb] W fun e w' => e = .returned (.bool (decide (la = lb))) ∧ Below W.heap.size W w' := by
  obtain ⟨p, cap, rfl, hc1, hc2⟩ := ha.open
  obtain ⟨q, cbp, rfl, hd1, hd2⟩ := hb.open
  unfold maxLen at hc2 hd2
  have HA := Lib.hid ha; have HB := Lib.hid hb; have HN := Lib.hid hn
  clear ha hb hn
  obtain ⟨N, hN⟩ : ∃ z, la.length = z := ⟨_, rfl⟩
  obtain ⟨M, hM⟩ : ∃ z, lb.length = z := ⟨_, rfl⟩
  rw [hN] at HA hc1 ⊢
  rw [hM] at HB hd1 ⊢
  have HNL := Lib.hid hN; have HML := Lib.hid hM
  have hN2 : (N : Int) ≤ 9223372036854775807 := by omega
  have hM2 : (M : Int) ≤ 9223372036854775807 := by omega
  clear hN hM
  by_cases hl : N = M
  · subst hl
    have hll : ((N : Int) != (N : Int)) = false := by simp
    go_enter Tryd.func12, Tryd.ntmps12; (try simp only [List.append_eq, List.cons_append, List.nil_append])
    go_wp2
    go_loopw [5] (fun i wr => ∃ k : Nat, k ≤ N ∧ i = .int .i64 k ∧ la.take k = lb.take k ∧ Below W.heap.size W wr) (fun i _ => N - (intOf i).toNat)
    case atStart => exact ⟨0, Nat.zero_le _, rfl, by simp, Below.refl _ _⟩
    case round =>
      obtain ⟨k, hk, rfl, hr, hbl⟩ := hrel
      have HRT := Lib.hid hr; have HBW := Lib.hid hbl
      have hsz := hbl.size
      clear hr hbl
      by_cases hlt : k < N
      · have hki : (k : Int) < (N : Int) := by omega
        have hk0 : (0 : Int) ≤ (k : Int) := by omega
        obtain ⟨r, hr⟩ : ∃ r, la[k]? = some r := ⟨_, List.getElem?_eq_getElem (by have := HNL.out; omega)⟩
        obtain ⟨s, hs⟩ : ∃ r, lb[k]? = some r := ⟨_, List.getElem?_eq_getElem (by have := HML.out; omega)⟩
        obtain ⟨X, hX⟩ : ∃ z, z = wr := ⟨_, rfl⟩
        subst hX
        obtain ⟨b1, o1, q1, c1, rfl, hb1, d0, d1, d2, hl1, -⟩ := (HA.out.mono (HBW.out.mono HN.out) (Nat.le_trans HN.out hsz)).get hr
        obtain ⟨b2, o2, q2, c2, rfl, hb2, e0, e1, e2, hl2, -⟩ := (HB.out.mono (HBW.out.mono HN.out) (Nat.le_trans HN.out hsz)).get hs
        have HL1 := Lib.hid hl1; have HL2 := Lib.hid hl2
        have HRR := Lib.hid hr; have HSS := Lib.hid hs
        clear hr hs hl1 hl2
        obtain ⟨l1, x1, y1⟩ := r
        obtain ⟨l2, x2, y2⟩ := s
        simp only at d0 d1 d2 e0 e1 e2 HL1 HL2
        go_upto_region 6 with fail
        by_cases hll1 : l1 = l2
        · have HEQ := Lib.hid (decide_eq_true hll1)
          have HLL := Lib.hid hll1
          clear hll1
          by_cases hxy : x1 = x2 ∧ y1 = y2
          · have HE := Lib.hid (take_eq_stepR HRT.out HRR.out HSS.out (rs_eq.2 ⟨HLL.out, hxy⟩))
            have HXY := Lib.hid (decide_eq_true hxy)
            clear hxy
            refine wp_region_held_drew (S := fun w => Below X.heap.size X w) (by kernel_rfl) (Below.drew (Below.refl _ _)) (fun hHeld => ?_)
            have HS := Lib.hid (Below.drew (Below.refl X.heap.size X))
            try clear hHeld
            have hSS := HS.out
            obtain ⟨X2, hX2⟩ : ∃ z, X.drew = z := ⟨_, rfl⟩
            rw [hX2] at HS hSS ⊢
            clear hX2
            (refine held_take 0 17 ?_ rfl (by kernel_rfl) (by kernel_rfl) (by kernel_rfl) (by kernel_rfl) (fun _ _ _ h => h) (by kernel_rfl) ?_ (by assumption) ?_; rotate_left; (intro w hSw; clear hSw; go_simp); (try with_reducible rfl); simp only [List.set_cons_zero, List.set_cons_succ])
            (refine held_take 1 18 ?_ rfl (by kernel_rfl) (by kernel_rfl) (by kernel_rfl) (by kernel_rfl) (fun _ _ _ h => h) (by kernel_rfl) ?_ (by assumption) ?_; rotate_left; (intro w hSw; clear hSw; go_simp); (try with_reducible rfl); simp only [List.set_cons_zero, List.set_cons_succ])
            (refine held_take 2 19 (.pointer (some ⟨b1, o1 + k * 3, none⟩)) rfl rfl (by kernel_rfl) (by kernel_rfl) (by kernel_rfl) (fun _ _ _ h => h) (by kernel_rfl) ?_ (by assumption) ?_; (intro w hSw; clear hSw; go_simp); simp only [List.set_cons_zero, List.set_cons_succ])
            (refine held_take 3 20 (.pointer (some ⟨b1, o1 + k * 3, none⟩)) rfl rfl (by kernel_rfl) (by kernel_rfl) (by kernel_rfl) (fun _ _ _ h => h) (by kernel_rfl) ?_ (by assumption) ?_; (intro w hSw; clear hSw; first | rfl | go_simp); simp only [List.set_cons_zero, List.set_cons_succ])
            (refine held_take 4 21 (.slice q1 l1.length c1) rfl rfl (by kernel_rfl) (by kernel_rfl) (by kernel_rfl) (fun _ _ _ h => h) (by kernel_rfl) ?_ (by assumption) ?_; (intro w hSw; have f_d0 := (hSw.cell (p := ⟨b1, o1 + k * 3, none⟩) hb1).trans d0; clear hSw; go_simp); simp only [List.set_cons_zero, List.set_cons_succ])
            (refine held_take 5 22 ?_ rfl (by kernel_rfl) (by kernel_rfl) (by kernel_rfl) (by kernel_rfl) (fun _ _ _ h => h) (by kernel_rfl) ?_ (by assumption) ?_; rotate_left; (intro w hSw; clear hSw; go_simp); (try with_reducible rfl); simp only [List.set_cons_zero, List.set_cons_succ])
            (refine held_take 6 23 ?_ rfl (by kernel_rfl) (by kernel_rfl) (by kernel_rfl) (by kernel_rfl) (fun _ _ _ h => h) (by kernel_rfl) ?_ (by assumption) ?_; rotate_left; (intro w hSw; clear hSw; go_simp); (try with_reducible rfl); simp only [List.set_cons_zero, List.set_cons_succ])
            (refine held_take 7 24 (.pointer (some ⟨b2, o2 + k * 3, none⟩)) rfl rfl (by kernel_rfl) (by kernel_rfl) (by kernel_rfl) (fun _ _ _ h => h) (by kernel_rfl) ?_ (by assumption) ?_; (intro w hSw; clear hSw; go_simp); simp only [List.set_cons_zero, List.set_cons_succ])
            (refine held_take 8 25 (.pointer (some ⟨b2, o2 + k * 3, none⟩)) rfl rfl (by kernel_rfl) (by kernel_rfl) (by kernel_rfl) (fun _ _ _ h => h) (by kernel_rfl) ?_ (by assumption) ?_; (intro w hSw; clear hSw; first | rfl | go_simp); simp only [List.set_cons_zero, List.set_cons_succ])
            (refine held_take 9 26 (.slice q2 l2.length c2) rfl rfl (by kernel_rfl) (by kernel_rfl) (by kernel_rfl) (fun _ _ _ h => h) (by kernel_rfl) ?_ (by assumption) ?_; (intro w hSw; have f_e0 := (hSw.cell (p := ⟨b2, o2 + k * 3, none⟩) hb2).trans e0; clear hSw; go_simp); simp only [List.set_cons_zero, List.set_cons_succ])
            refine wpAnyH_ready (rs := [10]) (by kernel_rfl) (by simp) (.cons rfl (fun K hK => ?_) .nil)
            rw [if_pos (by kernel_rfl)]
            go_simp
            refine (kLabels l1 l2 _ _ X.heap.size _ HS.out.size (HL1.out.mono HS.out (Nat.le_refl _)) (HL2.out.mono HS.out (Nat.le_refl _))).mono ?_
            rintro e w9 ⟨rfl, hb9⟩
            rw [HEQ.out]
            have HS := Lib.hid (HS.out.trans (hb9.mono HS.out.size))
            clear hb9
            have hSS := HS.out
            refine hK.out _ _ HS.out (fun hHeld => ?_)
            clear hK K
            (try simp only [Act.put, List.setIfInBounds_toArray, List.set_cons_zero, List.set_cons_succ])
            (refine held_take 11 28 ?_ rfl (by kernel_rfl) (by kernel_rfl) (by kernel_rfl) (by kernel_rfl) (fun _ _ _ h => h) (by kernel_rfl) ?_ (by assumption) ?_; rotate_left; (intro w hSw; clear hSw; go_simp); (try with_reducible rfl); simp only [List.set_cons_zero, List.set_cons_succ])
            (refine held_take 12 29 ?_ rfl (by kernel_rfl) (by kernel_rfl) (by kernel_rfl) (by kernel_rfl) (fun _ _ _ h => h) (by kernel_rfl) ?_ (by assumption) ?_; rotate_left; (intro w hSw; clear hSw; go_simp); (try with_reducible rfl); simp only [List.set_cons_zero, List.set_cons_succ])
            (refine held_take 13 30 ?_ rfl (by kernel_rfl) (by kernel_rfl) (by kernel_rfl) (by kernel_rfl) (fun _ _ _ h => h) (by kernel_rfl) ?_ (by assumption) ?_; rotate_left; (intro w hSw; clear hSw; go_simp); (try with_reducible rfl); simp only [List.set_cons_zero, List.set_cons_succ])
            (refine held_take 14 31 ?_ rfl (by kernel_rfl) (by kernel_rfl) (by kernel_rfl) (by kernel_rfl) (fun _ _ _ h => h) (by kernel_rfl) ?_ (by assumption) ?_; rotate_left; (intro w hSw; clear hSw; go_simp); (try with_reducible rfl); simp only [List.set_cons_zero, List.set_cons_succ])
            (refine held_take 15 32 (.pointer (some ⟨b1, o1 + k * 3, none⟩)) rfl rfl (by kernel_rfl) (by kernel_rfl) (by kernel_rfl) (fun _ _ _ h => h) (by kernel_rfl) ?_ (by assumption) ?_; (intro w hSw; clear hSw; go_simp); simp only [List.set_cons_zero, List.set_cons_succ])
            (refine held_take 16 33 (.pointer (some ⟨b1, o1 + k * 3 + 1, none⟩)) rfl rfl (by kernel_rfl) (by kernel_rfl) (by kernel_rfl) (fun _ _ _ h => h) (by kernel_rfl) ?_ (by assumption) ?_; (intro w hSw; clear hSw; first | rfl | go_simp); simp only [List.set_cons_zero, List.set_cons_succ])
            (refine held_take 17 34 (.agg #[.int .i64 x1, .bool y1]) rfl rfl (by kernel_rfl) (by kernel_rfl) (by kernel_rfl) (fun _ _ _ h => h) (by kernel_rfl) ?_ (by assumption) ?_; (intro w hSw; have f_d1 := (hSw.cell (p := ⟨b1, o1 + k * 3 + 1, none⟩) hb1).trans d1; have f_d2 := (hSw.cell (p := ⟨b1, o1 + k * 3 + 2, none⟩) hb1).trans d2; clear hSw; go_simp); simp only [List.set_cons_zero, List.set_cons_succ])
            (refine held_take 18 35 ?_ rfl (by kernel_rfl) (by kernel_rfl) (by kernel_rfl) (by kernel_rfl) (fun _ _ _ h => h) (by kernel_rfl) ?_ (by assumption) ?_; rotate_left; (intro w hSw; clear hSw; go_simp); (try with_reducible rfl); simp only [List.set_cons_zero, List.set_cons_succ])
            (refine held_take 19 36 ?_ rfl (by kernel_rfl) (by kernel_rfl) (by kernel_rfl) (by kernel_rfl) (fun _ _ _ h => h) (by kernel_rfl) ?_ (by assumption) ?_; rotate_left; (intro w hSw; clear hSw; go_simp); (try with_reducible rfl); simp only [List.set_cons_zero, List.set_cons_succ])
            (refine held_take 20 37 (.pointer (some ⟨b2, o2 + k * 3, none⟩)) rfl rfl (by kernel_rfl) (by kernel_rfl) (by kernel_rfl) (fun _ _ _ h => h) (by kernel_rfl) ?_ (by assumption) ?_; (intro w hSw; clear hSw; go_simp); simp only [List.set_cons_zero, List.set_cons_succ])
            (refine held_take 21 38 (.pointer (some ⟨b2, o2 + k * 3 + 1, none⟩)) rfl rfl (by kernel_rfl) (by kernel_rfl) (by kernel_rfl) (fun _ _ _ h => h) (by kernel_rfl) ?_ (by assumption) ?_; (intro w hSw; clear hSw; first | rfl | go_simp); simp only [List.set_cons_zero, List.set_cons_succ])
            (refine held_take 22 39 (.agg #[.int .i64 x2, .bool y2]) rfl rfl (by kernel_rfl) (by kernel_rfl) (by kernel_rfl) (fun _ _ _ h => h) (by kernel_rfl) ?_ (by assumption) ?_; (intro w hSw; have f_e1 := (hSw.cell (p := ⟨b2, o2 + k * 3 + 1, none⟩) hb2).trans e1; have f_e2 := (hSw.cell (p := ⟨b2, o2 + k * 3 + 2, none⟩) hb2).trans e2; clear hSw; go_simp); simp only [List.set_cons_zero, List.set_cons_succ])
            (refine held_take 23 40 (.bool false) rfl rfl (by kernel_rfl) (by kernel_rfl) (by kernel_rfl) (fun _ _ _ h => h) (by kernel_rfl) ?_ (by assumption) ?_; (intro w hSw; clear hSw; exact (neq_step x1 x2 y1 y2 w).trans (by rw [HXY.out]; rfl)); simp only [List.set_cons_zero, List.set_cons_succ])
            (refine held_take 24 41 (.bool false) rfl rfl (by kernel_rfl) (by kernel_rfl) (by kernel_rfl) (fun _ _ _ h => h) (by kernel_rfl) ?_ (by assumption) ?_; (intro w hSw; clear hSw; first | rfl | go_simp); simp only [List.set_cons_zero, List.set_cons_succ])
            refine wpAnyH_done (by kernel_rfl) ?_ _
            go_wp2
            exact ⟨⟨k + 1, by omega, by go_num, HE.out, HBW.out.trans (HS.out.mono HBW.out.size)⟩, by simp [intOf]; omega⟩
          · have HE := Lib.hid (ne_of_atR HRR.out HSS.out (fun e => hxy (rs_eq.1 e).2))
            have HXY := Lib.hid (decide_eq_false hxy)
            clear hxy
            refine wp_region_held_drew (S := fun w => Below X.heap.size X w) (by kernel_rfl) (Below.drew (Below.refl _ _)) (fun hHeld => ?_)
            have HS := Lib.hid (Below.drew (Below.refl X.heap.size X))
            try clear hHeld
            have hSS := HS.out
            obtain ⟨X2, hX2⟩ : ∃ z, X.drew = z := ⟨_, rfl⟩
            rw [hX2] at HS hSS ⊢
            clear hX2
            (refine held_take 0 17 ?_ rfl (by kernel_rfl) (by kernel_rfl) (by kernel_rfl) (by kernel_rfl) (fun _ _ _ h => h) (by kernel_rfl) ?_ (by assumption) ?_; rotate_left; (intro w hSw; clear hSw; go_simp); (try with_reducible rfl); simp only [List.set_cons_zero, List.set_cons_succ])
            (refine held_take 1 18 ?_ rfl (by kernel_rfl) (by kernel_rfl) (by kernel_rfl) (by kernel_rfl) (fun _ _ _ h => h) (by kernel_rfl) ?_ (by assumption) ?_; rotate_left; (intro w hSw; clear hSw; go_simp); (try with_reducible rfl); simp only [List.set_cons_zero, List.set_cons_succ])
            (refine held_take 2 19 (.pointer (some ⟨b1, o1 + k * 3, none⟩)) rfl rfl (by kernel_rfl) (by kernel_rfl) (by kernel_rfl) (fun _ _ _ h => h) (by kernel_rfl) ?_ (by assumption) ?_; (intro w hSw; clear hSw; go_simp); simp only [List.set_cons_zero, List.set_cons_succ])
            (refine held_take 3 20 (.pointer (some ⟨b1, o1 + k * 3, none⟩)) rfl rfl (by kernel_rfl) (by kernel_rfl) (by kernel_rfl) (fun _ _ _ h => h) (by kernel_rfl) ?_ (by assumption) ?_; (intro w hSw; clear hSw; first | rfl | go_simp); simp only [List.set_cons_zero, List.set_cons_succ])
            (refine held_take 4 21 (.slice q1 l1.length c1) rfl rfl (by kernel_rfl) (by kernel_rfl) (by kernel_rfl) (fun _ _ _ h => h) (by kernel_rfl) ?_ (by assumption) ?_; (intro w hSw; have f_d0 := (hSw.cell (p := ⟨b1, o1 + k * 3, none⟩) hb1).trans d0; clear hSw; go_simp); simp only [List.set_cons_zero, List.set_cons_succ])
            (refine held_take 5 22 ?_ rfl (by kernel_rfl) (by kernel_rfl) (by kernel_rfl) (by kernel_rfl) (fun _ _ _ h => h) (by kernel_rfl) ?_ (by assumption) ?_; rotate_left; (intro w hSw; clear hSw; go_simp); (try with_reducible rfl); simp only [List.set_cons_zero, List.set_cons_succ])
            (refine held_take 6 23 ?_ rfl (by kernel_rfl) (by kernel_rfl) (by kernel_rfl) (by kernel_rfl) (fun _ _ _ h => h) (by kernel_rfl) ?_ (by assumption) ?_; rotate_left; (intro w hSw; clear hSw; go_simp); (try with_reducible rfl); simp only [List.set_cons_zero, List.set_cons_succ])
            (refine held_take 7 24 (.pointer (some ⟨b2, o2 + k * 3, none⟩)) rfl rfl (by kernel_rfl) (by kernel_rfl) (by kernel_rfl) (fun _ _ _ h => h) (by kernel_rfl) ?_ (by assumption) ?_; (intro w hSw; clear hSw; go_simp); simp only [List.set_cons_zero, List.set_cons_succ])
            (refine held_take 8 25 (.pointer (some ⟨b2, o2 + k * 3, none⟩)) rfl rfl (by kernel_rfl) (by kernel_rfl) (by kernel_rfl) (fun _ _ _ h => h) (by kernel_rfl) ?_ (by assumption) ?_; (intro w hSw; clear hSw; first | rfl | go_simp); simp only [List.set_cons_zero, List.set_cons_succ])
            (refine held_take 9 26 (.slice q2 l2.length c2) rfl rfl (by kernel_rfl) (by kernel_rfl) (by kernel_rfl) (fun _ _ _ h => h) (by kernel_rfl) ?_ (by assumption) ?_; (intro w hSw; have f_e0 := (hSw.cell (p := ⟨b2, o2 + k * 3, none⟩) hb2).trans e0; clear hSw; go_simp); simp only [List.set_cons_zero, List.set_cons_succ])
            refine wpAnyH_ready (rs := [10]) (by kernel_rfl) (by simp) (.cons rfl (fun K hK => ?_) .nil)
            rw [if_pos (by kernel_rfl)]
            go_simp
            refine (kLabels l1 l2 _ _ X.heap.size _ HS.out.size (HL1.out.mono HS.out (Nat.le_refl _)) (HL2.out.mono HS.out (Nat.le_refl _))).mono ?_
            rintro e w9 ⟨rfl, hb9⟩
            rw [HEQ.out]
            have HS := Lib.hid (HS.out.trans (hb9.mono HS.out.size))
            clear hb9
            have hSS := HS.out
            refine hK.out _ _ HS.out (fun hHeld => ?_)
            clear hK K
            (try simp only [Act.put, List.setIfInBounds_toArray, List.set_cons_zero, List.set_cons_succ])
            (refine held_take 11 28 ?_ rfl (by kernel_rfl) (by kernel_rfl) (by kernel_rfl) (by kernel_rfl) (fun _ _ _ h => h) (by kernel_rfl) ?_ (by assumption) ?_; rotate_left; (intro w hSw; clear hSw; go_simp); (try with_reducible rfl); simp only [List.set_cons_zero, List.set_cons_succ])
            (refine held_take 12 29 ?_ rfl (by kernel_rfl) (by kernel_rfl) (by kernel_rfl) (by kernel_rfl) (fun _ _ _ h => h) (by kernel_rfl) ?_ (by assumption) ?_; rotate_left; (intro w hSw; clear hSw; go_simp); (try with_reducible rfl); simp only [List.set_cons_zero, List.set_cons_succ])
            (refine held_take 13 30 ?_ rfl (by kernel_rfl) (by kernel_rfl) (by kernel_rfl) (by kernel_rfl) (fun _ _ _ h => h) (by kernel_rfl) ?_ (by assumption) ?_; rotate_left; (intro w hSw; clear hSw; go_simp); (try with_reducible rfl); simp only [List.set_cons_zero, List.set_cons_succ])
            (refine held_take 14 31 ?_ rfl (by kernel_rfl) (by kernel_rfl) (by kernel_rfl) (by kernel_rfl) (fun _ _ _ h => h) (by kernel_rfl) ?_ (by assumption) ?_; rotate_left; (intro w hSw; clear hSw; go_simp); (try with_reducible rfl); simp only [List.set_cons_zero, List.set_cons_succ])
            (refine held_take 15 32 (.pointer (some ⟨b1, o1 + k * 3, none⟩)) rfl rfl (by kernel_rfl) (by kernel_rfl) (by kernel_rfl) (fun _ _ _ h => h) (by kernel_rfl) ?_ (by assumption) ?_; (intro w hSw; clear hSw; go_simp); simp only [List.set_cons_zero, List.set_cons_succ])
            (refine held_take 16 33 (.pointer (some ⟨b1, o1 + k * 3 + 1, none⟩)) rfl rfl (by kernel_rfl) (by kernel_rfl) (by kernel_rfl) (fun _ _ _ h => h) (by kernel_rfl) ?_ (by assumption) ?_; (intro w hSw; clear hSw; first | rfl | go_simp); simp only [List.set_cons_zero, List.set_cons_succ])
            (refine held_take 17 34 (.agg #[.int .i64 x1, .bool y1]) rfl rfl (by kernel_rfl) (by kernel_rfl) (by kernel_rfl) (fun _ _ _ h => h) (by kernel_rfl) ?_ (by assumption) ?_; (intro w hSw; have f_d1 := (hSw.cell (p := ⟨b1, o1 + k * 3 + 1, none⟩) hb1).trans d1; have f_d2 := (hSw.cell (p := ⟨b1, o1 + k * 3 + 2, none⟩) hb1).trans d2; clear hSw; go_simp); simp only [List.set_cons_zero, List.set_cons_succ])
            (refine held_take 18 35 ?_ rfl (by kernel_rfl) (by kernel_rfl) (by kernel_rfl) (by kernel_rfl) (fun _ _ _ h => h) (by kernel_rfl) ?_ (by assumption) ?_; rotate_left; (intro w hSw; clear hSw; go_simp); (try with_reducible rfl); simp only [List.set_cons_zero, List.set_cons_succ])
            (refine held_take 19 36 ?_ rfl (by kernel_rfl) (by kernel_rfl) (by kernel_rfl) (by kernel_rfl) (fun _ _ _ h => h) (by kernel_rfl) ?_ (by assumption) ?_; rotate_left; (intro w hSw; clear hSw; go_simp); (try with_reducible rfl); simp only [List.set_cons_zero, List.set_cons_succ])
            (refine held_take 20 37 (.pointer (some ⟨b2, o2 + k * 3, none⟩)) rfl rfl (by kernel_rfl) (by kernel_rfl) (by kernel_rfl) (fun _ _ _ h => h) (by kernel_rfl) ?_ (by assumption) ?_; (intro w hSw; clear hSw; go_simp); simp only [List.set_cons_zero, List.set_cons_succ])
            (refine held_take 21 38 (.pointer (some ⟨b2, o2 + k * 3 + 1, none⟩)) rfl rfl (by kernel_rfl) (by kernel_rfl) (by kernel_rfl) (fun _ _ _ h => h) (by kernel_rfl) ?_ (by assumption) ?_; (intro w hSw; clear hSw; first | rfl | go_simp); simp only [List.set_cons_zero, List.set_cons_succ])
            (refine held_take 22 39 (.agg #[.int .i64 x2, .bool y2]) rfl rfl (by kernel_rfl) (by kernel_rfl) (by kernel_rfl) (fun _ _ _ h => h) (by kernel_rfl) ?_ (by assumption) ?_; (intro w hSw; have f_e1 := (hSw.cell (p := ⟨b2, o2 + k * 3 + 1, none⟩) hb2).trans e1; have f_e2 := (hSw.cell (p := ⟨b2, o2 + k * 3 + 2, none⟩) hb2).trans e2; clear hSw; go_simp); simp only [List.set_cons_zero, List.set_cons_succ])
            (refine held_take 23 40 (.bool true) rfl rfl (by kernel_rfl) (by kernel_rfl) (by kernel_rfl) (fun _ _ _ h => h) (by kernel_rfl) ?_ (by assumption) ?_; (intro w hSw; clear hSw; exact (neq_step x1 x2 y1 y2 w).trans (by rw [HXY.out]; rfl)); simp only [List.set_cons_zero, List.set_cons_succ])
            (refine held_take 24 41 (.bool true) rfl rfl (by kernel_rfl) (by kernel_rfl) (by kernel_rfl) (fun _ _ _ h => h) (by kernel_rfl) ?_ (by assumption) ?_; (intro w hSw; clear hSw; first | rfl | go_simp); simp only [List.set_cons_zero, List.set_cons_succ])
            refine wpAnyH_done (by kernel_rfl) ?_ _
            go_wp2
            go_ret
            exact ⟨ret_bool (decide_eq_false HE.out).symm, HBW.out.trans (HS.out.mono HBW.out.size)⟩
        · have HEQ := Lib.hid (decide_eq_false hll1)
          have HXY := Lib.hid (ne_of_atR HRR.out HSS.out (fun e => hll1 (rs_eq.1 e).1))
          clear hll1
          refine wp_region_held_drew (S := fun w => Below X.heap.size X w) (by kernel_rfl) (Below.drew (Below.refl _ _)) (fun hHeld => ?_)
          have HS := Lib.hid (Below.drew (Below.refl X.heap.size X))
          try clear hHeld
          have hSS := HS.out
          obtain ⟨X2, hX2⟩ : ∃ z, X.drew = z := ⟨_, rfl⟩
          rw [hX2] at HS hSS ⊢
          clear hX2
          (refine held_take 0 17 ?_ rfl (by kernel_rfl) (by kernel_rfl) (by kernel_rfl) (by kernel_rfl) (fun _ _ _ h => h) (by kernel_rfl) ?_ (by assumption) ?_; rotate_left; (intro w hSw; clear hSw; go_simp); (try with_reducible rfl); simp only [List.set_cons_zero, List.set_cons_succ])
          (refine held_take 1 18 ?_ rfl (by kernel_rfl) (by kernel_rfl) (by kernel_rfl) (by kernel_rfl) (fun _ _ _ h => h) (by kernel_rfl) ?_ (by assumption) ?_; rotate_left; (intro w hSw; clear hSw; go_simp); (try with_reducible rfl); simp only [List.set_cons_zero, List.set_cons_succ])
          (refine held_take 2 19 (.pointer (some ⟨b1, o1 + k * 3, none⟩)) rfl rfl (by kernel_rfl) (by kernel_rfl) (by kernel_rfl) (fun _ _ _ h => h) (by kernel_rfl) ?_ (by assumption) ?_; (intro w hSw; clear hSw; go_simp); simp only [List.set_cons_zero, List.set_cons_succ])
          (refine held_take 3 20 (.pointer (some ⟨b1, o1 + k * 3, none⟩)) rfl rfl (by kernel_rfl) (by kernel_rfl) (by kernel_rfl) (fun _ _ _ h => h) (by kernel_rfl) ?_ (by assumption) ?_; (intro w hSw; clear hSw; first | rfl | go_simp); simp only [List.set_cons_zero, List.set_cons_succ])
          (refine held_take 4 21 (.slice q1 l1.length c1) rfl rfl (by kernel_rfl) (by kernel_rfl) (by kernel_rfl) (fun _ _ _ h => h) (by kernel_rfl) ?_ (by assumption) ?_; (intro w hSw; have f_d0 := (hSw.cell (p := ⟨b1, o1 + k * 3, none⟩) hb1).trans d0; clear hSw; go_simp); simp only [List.set_cons_zero, List.set_cons_succ])
          (refine held_take 5 22 ?_ rfl (by kernel_rfl) (by kernel_rfl) (by kernel_rfl) (by kernel_rfl) (fun _ _ _ h => h) (by kernel_rfl) ?_ (by assumption) ?_; rotate_left; (intro w hSw; clear hSw; go_simp); (try with_reducible rfl); simp only [List.set_cons_zero, List.set_cons_succ])
          (refine held_take 6 23 ?_ rfl (by kernel_rfl) (by kernel_rfl) (by kernel_rfl) (by kernel_rfl) (fun _ _ _ h => h) (by kernel_rfl) ?_ (by assumption) ?_; rotate_left; (intro w hSw; clear hSw; go_simp); (try with_reducible rfl); simp only [List.set_cons_zero, List.set_cons_succ])
          (refine held_take 7 24 (.pointer (some ⟨b2, o2 + k * 3, none⟩)) rfl rfl (by kernel_rfl) (by kernel_rfl) (by kernel_rfl) (fun _ _ _ h => h) (by kernel_rfl) ?_ (by assumption) ?_; (intro w hSw; clear hSw; go_simp); simp only [List.set_cons_zero, List.set_cons_succ])
          (refine held_take 8 25 (.pointer (some ⟨b2, o2 + k * 3, none⟩)) rfl rfl (by kernel_rfl) (by kernel_rfl) (by kernel_rfl) (fun _ _ _ h => h) (by kernel_rfl) ?_ (by assumption) ?_; (intro w hSw; clear hSw; first | rfl | go_simp); simp only [List.set_cons_zero, List.set_cons_succ])
          (refine held_take 9 26 (.slice q2 l2.length c2) rfl rfl (by kernel_rfl) (by kernel_rfl) (by kernel_rfl) (fun _ _ _ h => h) (by kernel_rfl) ?_ (by assumption) ?_; (intro w hSw; have f_e0 := (hSw.cell (p := ⟨b2, o2 + k * 3, none⟩) hb2).trans e0; clear hSw; go_simp); simp only [List.set_cons_zero, List.set_cons_succ])
          refine wpAnyH_ready (rs := [10]) (by kernel_rfl) (by simp) (.cons rfl (fun K hK => ?_) .nil)
          rw [if_pos (by kernel_rfl)]
          go_simp
          refine (kLabels l1 l2 _ _ X.heap.size _ HS.out.size (HL1.out.mono HS.out (Nat.le_refl _)) (HL2.out.mono HS.out (Nat.le_refl _))).mono ?_
          rintro e w9 ⟨rfl, hb9⟩
          rw [HEQ.out]
          have HS := Lib.hid (HS.out.trans (hb9.mono HS.out.size))
          clear hb9
          have hSS := HS.out
          refine hK.out _ _ HS.out (fun hHeld => ?_)
          clear hK K
          (try simp only [Act.put, List.setIfInBounds_toArray, List.set_cons_zero, List.set_cons_succ])
          (refine held_take 11 28 ?_ rfl (by kernel_rfl) (by kernel_rfl) (by kernel_rfl) (by kernel_rfl) (fun _ _ _ h => h) (by kernel_rfl) ?_ (by assumption) ?_; rotate_left; (intro w hSw; clear hSw; go_simp); (try with_reducible rfl); simp only [List.set_cons_zero, List.set_cons_succ])
          (refine held_take 12 29 ?_ rfl (by kernel_rfl) (by kernel_rfl) (by kernel_rfl) (by kernel_rfl) (fun _ _ _ h => h) (by kernel_rfl) ?_ (by assumption) ?_; rotate_left; (intro w hSw; clear hSw; go_simp); (try with_reducible rfl); simp only [List.set_cons_zero, List.set_cons_succ])
          (refine held_skip 13 30 rfl (by kernel_rfl) (by kernel_rfl) (by kernel_rfl) (by kernel_rfl) (fun _ _ _ h => h) (by kernel_rfl) (by assumption) ?_; simp only [List.set_cons_zero, List.set_cons_succ])
          (refine held_skip 14 31 rfl (by kernel_rfl) (by kernel_rfl) (by kernel_rfl) (by kernel_rfl) (fun _ _ _ h => h) (by kernel_rfl) (by assumption) ?_; simp only [List.set_cons_zero, List.set_cons_succ])
          (refine held_skip 15 32 rfl (by kernel_rfl) (by kernel_rfl) (by kernel_rfl) (by kernel_rfl) (fun _ _ _ h => h) (by kernel_rfl) (by assumption) ?_; simp only [List.set_cons_zero, List.set_cons_succ])
          (refine held_skip 16 33 rfl (by kernel_rfl) (by kernel_rfl) (by kernel_rfl) (by kernel_rfl) (fun _ _ _ h => h) (by kernel_rfl) (by assumption) ?_; simp only [List.set_cons_zero, List.set_cons_succ])
          (refine held_skip 17 34 rfl (by kernel_rfl) (by kernel_rfl) (by kernel_rfl) (by kernel_rfl) (fun _ _ _ h => h) (by kernel_rfl) (by assumption) ?_; simp only [List.set_cons_zero, List.set_cons_succ])
          (refine held_skip 18 35 rfl (by kernel_rfl) (by kernel_rfl) (by kernel_rfl) (by kernel_rfl) (fun _ _ _ h => h) (by kernel_rfl) (by assumption) ?_; simp only [List.set_cons_zero, List.set_cons_succ])
          (refine held_skip 19 36 rfl (by kernel_rfl) (by kernel_rfl) (by kernel_rfl) (by kernel_rfl) (fun _ _ _ h => h) (by kernel_rfl) (by assumption) ?_; simp only [List.set_cons_zero, List.set_cons_succ])
          (refine held_skip 20 37 rfl (by kernel_rfl) (by kernel_rfl) (by kernel_rfl) (by kernel_rfl) (fun _ _ _ h => h) (by kernel_rfl) (by assumption) ?_; simp only [List.set_cons_zero, List.set_cons_succ])
          (refine held_skip 21 38 rfl (by kernel_rfl) (by kernel_rfl) (by kernel_rfl) (by kernel_rfl) (fun _ _ _ h => h) (by kernel_rfl) (by assumption) ?_; simp only [List.set_cons_zero, List.set_cons_succ])
          (refine held_skip 22 39 rfl (by kernel_rfl) (by kernel_rfl) (by kernel_rfl) (by kernel_rfl) (fun _ _ _ h => h) (by kernel_rfl) (by assumption) ?_; simp only [List.set_cons_zero, List.set_cons_succ])
          (refine held_skip 23 40 rfl (by kernel_rfl) (by kernel_rfl) (by kernel_rfl) (by kernel_rfl) (fun _ _ _ h => h) (by kernel_rfl) (by assumption) ?_; simp only [List.set_cons_zero, List.set_cons_succ])
          (refine held_take 24 41 ?_ rfl (by kernel_rfl) (by kernel_rfl) (by kernel_rfl) (by kernel_rfl) (fun _ _ _ h => h) (by kernel_rfl) ?_ (by assumption) ?_; rotate_left; (intro w hSw; clear hSw; go_simp); (try with_reducible rfl); simp only [List.set_cons_zero, List.set_cons_succ])
          refine wpAnyH_done (by kernel_rfl) ?_ _
          go_wp2
          go_ret
          exact ⟨ret_bool (decide_eq_false HXY.out).symm, HBW.out.trans (HS.out.mono HBW.out.size)⟩
      · have hki : ¬ ((k : Int) < (N : Int)) := by omega
        have hkN : k = N := by omega
        have HE := Lib.hid (show la = lb from by
          have h := HRT.out
          rw [hkN, List.take_of_length_le (by rw [HNL.out]; omega), List.take_of_length_le (by rw [HML.out]; omega)] at h
          exact h)
        clear hkN
        go_wp2
        go_ret
        exact ⟨ret_bool (decide_eq_true HE.out).symm, HBW.out⟩
  · have hll : ((N : Int) != (M : Int)) = true := by simp; omega
    have HE := Lib.hid (show la ≠ lb from fun e => hl (by rw [← HNL.out, ← HML.out, e]))
    clear hl
    go_enter Tryd.func12, Tryd.ntmps12; (try simp only [List.append_eq, List.cons_append, List.nil_append])
    go_wp2
    go_ret
    exact ⟨ret_bool (decide_eq_false HE.out).symm, Below.refl _ _⟩
end Go.Proofs.YtgmdlnobajmjfaaDoor
