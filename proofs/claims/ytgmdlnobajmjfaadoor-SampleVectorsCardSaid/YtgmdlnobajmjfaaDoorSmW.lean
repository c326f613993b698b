/- label.Check, label.Compare, once more: nothing that was there turns, and no draw is taken back. Printed by wip/gen_smw.py. -/
import Derived.Test.YtgmdlnobajmjfaaDoorSm2
import Derived.Sort.Grow
namespace Go.Proofs.YtgmdlnobajmjfaaDoor
open Go.RowKit
set_option linter.unusedSimpArgs false
set_option linter.unusedVariables false

structure Bw (w w' : World) : Prop where
  b : Below w.heap.size w w'
  d : w.drawn ≤ w'.drawn
theorem Bw.refl (w : World) : Bw w w := ⟨Below.refl _ _, Nat.le_refl _⟩
theorem Bw.trans {a b c : World} (h : Bw a b) (k : Bw b c) : Bw a c := ⟨h.b.trans (k.b.mono h.b.size), Nat.le_trans h.d k.d⟩
theorem Bw.alloc {a w : World} (h : Bw a w) (o : Obj) : Bw a (w.alloc o) := ⟨h.b.alloc h.b.size o, h.d⟩
theorem Bw.drew {a w : World} (h : Bw a w) : Bw a w.drew := ⟨h.b.drew, Nat.le_trans h.d (Nat.le_succ _)⟩
theorem Bw.grow {w w' : World} (h : Bw w w') : ∃ q os, w' = Go.Sort.grow (w.drewN q) os := by
  refine ⟨w'.drawn - w.drawn, w'.heap.extract w.heap.size w'.heap.size, ?_⟩
  obtain ⟨hb, hd⟩ := h
  have h1 := hb.os; have h2 := hb.tape; have h3 := hb.output
  have hh : w'.heap = w.heap ++ w'.heap.extract w.heap.size w'.heap.size := by
    refine Array.ext' ?_
    have hl : w'.heap.toList.take w.heap.size = w.heap.toList := by
      refine List.ext_getElem? fun k => ?_
      by_cases hk : k < w.heap.size
      · rw [List.getElem?_take_of_lt hk]
        have := hb.block k hk
        simpa using this
      · rw [List.getElem?_eq_none (by rw [List.length_take]; omega), List.getElem?_eq_none (by simp; omega)]
    rw [Array.toList_append, Array.toList_extract]
    conv => lhs; rw [← List.take_append_drop w.heap.size w'.heap.toList, hl]
    congr 1
    rw [List.extract_eq_take_drop]
    rw [List.take_of_length_le (by simp)]
  cases w'
  cases w
  simp only at h1 h2 h3 hh hd
  subst h1 h2 h3
  unfold Go.Sort.grow World.drewN
  simp only [World.mk.injEq, and_true, true_and]
  exact ⟨hh, by omega⟩
set_option maxHeartbeats 1000000 in
theorem wCheck (l : List Lab) (v : Value) (n : Nat) (w : World) (hn : n ≤ w.heap.size) (h : IsLabs n w v l) :
    Calls Tryd.prog 31 #[v] w fun e w' => e = .returned (.int .i64 (checkL l)) ∧ Bw w w' := by
  obtain ⟨p, cap, rfl, _, _, hl⟩ := h.open
  unfold maxLen at hl
  go_enter Tryd.func31, Tryd.ntmps31; (try simp only [List.append_eq, List.cons_append, List.nil_append])
  by_cases h8 : 8 < l.length
  · go_wp2
    go_ret
    exact ⟨ret_int (checkL_long h8).symm, Bw.refl _⟩
  · go_wp2
    go_loopw [3, 11] (fun s i wr => ∃ k : Nat, k ≤ l.length ∧ i = .int .i64 k ∧ s = .string (lastN ByteArray.empty (l.take k)) ∧ rising ByteArray.empty (l.take k) = true ∧ Bw w wr) (fun _ i _ => l.length - (intOf i).toNat)
    case atStart => exact ⟨0, Nat.zero_le _, rfl, rfl, rfl, Bw.refl _⟩
    case round =>
      obtain ⟨k, hk, rfl, rfl, hr, hb⟩ := hrel
      have Hr := Lib.hid hr; clear hr
      have Hb := Lib.hid hb; clear hb
      by_cases hlt : k < l.length
      · have hstep := Lib.hid (lastN_step hlt)
        have hgood := fun h1 h2 => rising_step Hr.out hlt h1 h2
        have hbad := fun hx => checkL_bad h8 (rising_bad hlt hx)
        have Hgood := Lib.hid hgood; clear hgood
        have Hbad := Lib.hid hbad; clear hbad
        obtain ⟨last, hlast⟩ : ∃ s, lastN ByteArray.empty (l.take k) = s := ⟨_, rfl⟩
        rw [hlast] at Hgood Hbad ⊢
        clear hlast
        obtain ⟨b, off, rfl, hbn, h1, h2, hs1, hs2⟩ := (h.mono (Hb.out.b.mono hn) (Nat.le_refl _)).get hlt
        obtain ⟨x, hx⟩ : ∃ x, l[k] = x := ⟨_, rfl⟩
        rw [hx] at Hgood Hbad hstep h1 h2 hs1 hs2
        clear hx
        have Hh := Lib.hid h; clear h
        have Hs1 := Lib.hid hs1; clear hs1
        unfold maxLen at hs2
        go_wp2_with (go_at_call 54; refine (lName _ _ Hs1.out).mono ?_; rintro e w' ⟨rfl, rfl⟩)
        · go_ret
          exact ⟨ret_int (Eq.symm (Hbad.out (.inl (labB_name (by assumption))))), Hb.out.alloc _⟩
        · go_ret
          exact ⟨ret_int (Eq.symm (Hbad.out (.inr (sle_yes (by assumption))))), Hb.out.alloc _⟩
        · go_ret
          exact ⟨ret_int (Eq.symm (Hbad.out (.inl (labB_text (.inl (txt_none (by assumption))))))), Hb.out.alloc _⟩
        · go_ret
          exact ⟨ret_int (Eq.symm (Hbad.out (.inl (labB_text (.inr (by omega)))))), Hb.out.alloc _⟩
        · exact ⟨⟨k + 1, by omega, by go_num, by rw [hstep.out], Hgood.out (labB_ok (by assumption) (txt_some (by assumption)) (by omega)) (sle_no (by assumption)), Hb.out.alloc _⟩, by simp [intOf]; omega⟩
      · go_wp2
        go_ret
        rw [List.take_of_length_le (by omega)] at Hr
        exact ⟨ret_int (checkL_ok h8 Hr.out).symm, Hb.out⟩
set_option maxRecDepth 100000 in
set_option maxHeartbeats 4000000 in
theorem wCmp (x y : Lab) (W : World) : Calls Tryd.prog 51 #[.agg #[.string x.name, .string x.text], .agg #[.string y.name, .string y.text]] W fun e w' => e = .returned (.int .i64 (cmpLab x y)) ∧ Bw W w' := by
  have HE := Lib.hid (show orI (cmpW x.name y.name) (cmpW x.text y.text) = cmpLab x y from rfl)
  go_enter Tryd.func51, Tryd.ntmps51; (try simp only [List.append_eq, List.cons_append, List.nil_append])
  go_upto_region 1 with fail
  have hB0 := ((Bw.refl W).alloc (.cells #[.string x.name, .string x.text] 43)).alloc (.cells #[.string y.name, .string y.text] 43)
  have hb1 := two_at W [.string x.name, .string x.text] [.string y.name, .string y.text] 43 43
  have hb2 := two_at' W (.cells #[.string x.name, .string x.text] 43) [.string y.name, .string y.text] 43
  obtain ⟨X, hX⟩ : ∃ z, (W.alloc (.cells #[.string x.name, .string x.text] 43)).alloc (.cells #[.string y.name, .string y.text] 43) = z := ⟨_, rfl⟩
  rw [show (W.alloc (.cells ([.string x.name, .string x.text] : List Value).toArray 43)).alloc (.cells ([.string y.name, .string y.text] : List Value).toArray 43) = X from hX] at hb1
  rw [show (W.alloc (.cells #[.string x.name, .string x.text] 43)).alloc (.cells ([.string y.name, .string y.text] : List Value).toArray 43) = X from hX] at hb2
  rw [hX] at hB0 ⊢
  clear hX
  have HB0 := Lib.hid hB0; have HB1 := Lib.hid hb1; have HB2 := Lib.hid hb2; have HB0w := Lib.hid hB0
  clear hB0 hb1 hb2
  obtain ⟨g, hg⟩ : ∃ z, W.heap.size = z := ⟨_, rfl⟩
  rw [hg] at HB1 HB2 ⊢
  clear hg
  refine wp_region_held_drew (S := fun w => Bw X w) (by kernel_rfl) (Bw.refl _).drew (fun hHeld => ?_)
  have HS := Lib.hid ((Bw.refl X).drew)
  try clear hHeld
  have hSS := HS.out
  obtain ⟨X2, hX2⟩ : ∃ z, X.drew = z := ⟨_, rfl⟩
  rw [hX2] at HS hSS ⊢
  clear hX2
  (refine held_take 0 5 ?_ rfl (by kernel_rfl) (by kernel_rfl) (by kernel_rfl) (by kernel_rfl) (fun _ _ _ h => h) (by kernel_rfl) ?_ (by assumption) ?_; rotate_left; (intro w hSw; clear hSw; go_simp); (try with_reducible rfl); simp only [List.set_cons_zero, List.set_cons_succ])
  (refine held_take 1 6 (.string x.name) rfl rfl (by kernel_rfl) (by kernel_rfl) (by kernel_rfl) (fun _ _ _ h => h) (by kernel_rfl) ?_ (by assumption) ?_; (intro w hSw; have e0 := (HB1.out.keep hSw.b).cell 0 _ rfl; clear hSw; go_simp); simp only [List.set_cons_zero, List.set_cons_succ])
  (refine held_take 2 7 ?_ rfl (by kernel_rfl) (by kernel_rfl) (by kernel_rfl) (by kernel_rfl) (fun _ _ _ h => h) (by kernel_rfl) ?_ (by assumption) ?_; rotate_left; (intro w hSw; clear hSw; go_simp); (try with_reducible rfl); simp only [List.set_cons_zero, List.set_cons_succ])
  (refine held_take 3 8 (.string y.name) rfl rfl (by kernel_rfl) (by kernel_rfl) (by kernel_rfl) (fun _ _ _ h => h) (by kernel_rfl) ?_ (by assumption) ?_; (intro w hSw; have e0 := (HB2.out.keep hSw.b).cell 0 _ rfl; clear hSw; go_simp); simp only [List.set_cons_zero, List.set_cons_succ])
  (refine held_take 5 10 ?_ rfl (by kernel_rfl) (by kernel_rfl) (by kernel_rfl) (by kernel_rfl) (fun _ _ _ h => h) (by kernel_rfl) ?_ (by assumption) ?_; rotate_left; (intro w hSw; clear hSw; go_simp); (try with_reducible rfl); simp only [List.set_cons_zero, List.set_cons_succ])
  (refine held_take 6 11 (.string x.text) rfl rfl (by kernel_rfl) (by kernel_rfl) (by kernel_rfl) (fun _ _ _ h => h) (by kernel_rfl) ?_ (by assumption) ?_; (intro w hSw; have e0 := (HB1.out.keep hSw.b).cell 1 _ rfl; clear hSw; go_simp); simp only [List.set_cons_zero, List.set_cons_succ])
  (refine held_take 7 12 ?_ rfl (by kernel_rfl) (by kernel_rfl) (by kernel_rfl) (by kernel_rfl) (fun _ _ _ h => h) (by kernel_rfl) ?_ (by assumption) ?_; rotate_left; (intro w hSw; clear hSw; go_simp); (try with_reducible rfl); simp only [List.set_cons_zero, List.set_cons_succ])
  (refine held_take 8 13 (.string y.text) rfl rfl (by kernel_rfl) (by kernel_rfl) (by kernel_rfl) (fun _ _ _ h => h) (by kernel_rfl) ?_ (by assumption) ?_; (intro w hSw; have e0 := (HB2.out.keep hSw.b).cell 1 _ rfl; clear hSw; go_simp); simp only [List.set_cons_zero, List.set_cons_succ])
  refine wpAnyH_ready (rs := [4]) (by kernel_rfl) (by simp) (.cons rfl (fun K hK => ?_) .nil)
  rw [if_pos (by kernel_rfl)]
  go_simp
  refine (sCmp _ _ _).mono ?_
  rintro e w1 ⟨rfl, rfl⟩
  refine hK.out _ _ HS.out (fun hHeld => ?_)
  clear hK K
  (try simp only [Act.put, List.setIfInBounds_toArray, List.set_cons_zero, List.set_cons_succ])
  refine wpAnyH_ready (rs := [9]) (by kernel_rfl) (by simp) (.cons rfl (fun K hK => ?_) .nil)
  rw [if_pos (by kernel_rfl)]
  go_simp
  refine (sCmp _ _ _).mono ?_
  rintro e w1 ⟨rfl, rfl⟩
  refine hK.out _ _ HS.out (fun hHeld => ?_)
  clear hK K
  (try simp only [Act.put, List.setIfInBounds_toArray, List.set_cons_zero, List.set_cons_succ])
  refine wpAnyH_ready (rs := [10]) (by kernel_rfl) (by simp) (.cons rfl (fun K hK => ?_) .nil)
  rw [if_pos (by kernel_rfl)]
  go_simp
  obtain ⟨c1, hc1⟩ : ∃ z, cmpW x.name y.name = z := ⟨_, rfl⟩
  obtain ⟨c2, hc2⟩ : ∃ z, cmpW x.text y.text = z := ⟨_, rfl⟩
  rw [hc1, hc2] at HE
  rw [hc1, hc2]
  clear hc1 hc2
  have hB3 := (Bw.refl w1).alloc (.cells #[.int .i64 c1, .int .i64 c2] 3)
  have hb3 := Blk.new w1 [.int .i64 c1, .int .i64 c2] 3
  have HS3 := Lib.hid (HS.out.trans hB3)
  have HB3 := Lib.hid hb3
  clear hB3 hb3
  refine hK.out _ _ HS3.out (fun hHeld => ?_)
  clear hK K hSS HS
  have hSS := HS3.out
  (try simp only [Act.put, List.setIfInBounds_toArray, List.set_cons_zero, List.set_cons_succ])
  refine wpAnyH_ready (rs := [11]) (by kernel_rfl) (by simp) (.cons rfl (fun K hK => ?_) .nil)
  rw [if_pos (by kernel_rfl)]
  go_simp
  refine (sOr c1 c2 w1.heap.size _ (HB3.out.cell 0 _ rfl) (HB3.out.cell 1 _ rfl) HB3.out.lt).mono ?_
  rintro e w2 ⟨rfl, rfl⟩
  refine hK.out _ _ HS3.out (fun hHeld => ?_)
  clear hK K
  (try simp only [Act.put, List.setIfInBounds_toArray, List.set_cons_zero, List.set_cons_succ])
  (refine held_take 12 4 ?_ rfl (by kernel_rfl) (by kernel_rfl) (by kernel_rfl) (by kernel_rfl) (fun _ _ _ h => h) (by kernel_rfl) ?_ (by assumption) ?_; rotate_left; (intro w hSw; clear hSw; go_simp); (try with_reducible rfl); simp only [List.set_cons_zero, List.set_cons_succ])
  refine wpAnyH_done (by kernel_rfl) ?_ _
  go_wp2
  go_ret
  exact ⟨by rw [HE.out]; rfl, HB0w.out.trans HS3.out⟩
set_option maxRecDepth 100000 in
set_option maxHeartbeats 4000000 in
theorem wCompareF {la lb : List Lab} {va vb : Value} {n : Nat} {W : World} (hn : n ≤ W.heap.size) (ha : IsLabs n W va la) (hb : IsLabs n W vb lb) :
    Calls Tryd.prog 50 #[va, vb, .func (.func 51) #[] #[]] W fun e w' => e = .returned (.int .i64 (orderL la lb)) ∧ Bw W w' := by
  obtain ⟨p, cap, rfl, _, _, hla⟩ := ha.open
  obtain ⟨q, cbp, rfl, _, _, hlb⟩ := hb.open
  unfold maxLen at hla hlb
  have HA := Lib.hid ha; have HB := Lib.hid hb; have HN := Lib.hid hn
  clear ha hb hn
  obtain ⟨N, hN⟩ : ∃ z, la.length = z := ⟨_, rfl⟩
  obtain ⟨M, hM⟩ : ∃ z, lb.length = z := ⟨_, rfl⟩
  rw [hN] at hla HA ⊢
  rw [hM] at hlb HB ⊢
  have hla2 : (N : Int) ≤ 9223372036854775807 := by omega
  have hlb2 : (M : Int) ≤ 9223372036854775807 := by omega
  have HNL := Lib.hid hN; have HML := Lib.hid hM
  clear hN hM
  go_enter Tryd.func50, Tryd.ntmps50; (try simp only [List.append_eq, List.cons_append, List.nil_append])
  go_wp2
  go_loopw [13] (fun j wr => ∃ k : Nat, k ≤ N ∧ k ≤ M ∧ j = .int .i64 k ∧ orderL la lb = orderL (la.drop k) (lb.drop k) ∧ Bw W wr) (fun j _ => N - (intOf j).toNat)
  case atStart => exact ⟨0, Nat.zero_le _, Nat.zero_le _, rfl, rfl, Bw.refl _⟩
  case round =>
    obtain ⟨k, hk, hkm, rfl, ho, hb⟩ := hrel
    have HO := Lib.hid ho; have HBW := Lib.hid hb
    have hsz := hb.b.size
    clear ho hb
    by_cases hlt : k < N
    · have hki : (k : Int) < (N : Int) := by omega
      have hka : k < la.length := by have := HNL.out; omega
      obtain ⟨b1, o1, rfl, hb1, d0, d1, -, -⟩ := (HA.out.mono (HBW.out.b.mono HN.out) (Nat.le_refl _)).get hka
      have HX := Lib.hid (List.getElem?_eq_getElem hka)
      obtain ⟨x, hx⟩ : ∃ x, la[k] = x := ⟨_, rfl⟩
      rw [hx] at d0 d1 HX
      clear hx hka
      have hb1w : b1 < wr.heap.size := by have := HN.out; omega
      go_upto_region 4 with (refine wpList_store_new rfl 43 _ _ rfl #[.string x.name, .string x.text] _ _ rfl rfl (by kernel_rfl) rfl (by kernel_rfl) ?_)
      have ho1 := (Bw.refl wr).alloc (.cells #[.string x.name, .string x.text] 43)
      have hk1 := Blk.new wr [.string x.name, .string x.text] 43
      obtain ⟨g1, hg1⟩ : ∃ z, wr.heap.size = z := ⟨_, rfl⟩
      obtain ⟨w1, hw1⟩ : ∃ z, wr.alloc (.cells #[.string x.name, .string x.text] 43) = z := ⟨_, rfl⟩
      rw [show wr.alloc (.cells ([.string x.name, .string x.text] : List Value).toArray 43) = w1 from hw1] at hk1
      rw [hw1] at ho1 ⊢
      have HB1 := Lib.hid (HBW.out.trans ho1)
      rw [hg1] at hk1 ⊢
      have HK1 := Lib.hid hk1
      clear hw1 hg1 ho1 hk1 d0 d1 hb1w hb1
      by_cases hlt2 : k < M
      · have hkj : ¬ ((M : Int) ≤ (k : Int)) := by omega
        have hkj2 : (k : Int) < (M : Int) := by omega
        have hkb : k < lb.length := by have := HML.out; omega
        obtain ⟨b2, o2, rfl, hb2, d0, d1, -, -⟩ := (HB.out.mono (HB1.out.b.mono HN.out) (Nat.le_refl _)).get hkb
        have HY := Lib.hid (List.getElem?_eq_getElem hkb)
        obtain ⟨y, hy⟩ : ∃ y, lb[k] = y := ⟨_, rfl⟩
        rw [hy] at d0 d1 HY
        clear hy hkb
        have hb2w : b2 < w1.heap.size := by have := HN.out; have := HB1.out.b.size; omega
        go_upto_region 7 with (refine wpList_store_new rfl 43 _ _ rfl #[.string y.name, .string y.text] _ _ rfl rfl (by kernel_rfl) rfl (by kernel_rfl) ?_)
        have ho1 := (Bw.refl w1).alloc (.cells #[.string y.name, .string y.text] 43)
        have hk2 := Blk.new w1 [.string y.name, .string y.text] 43
        obtain ⟨g2, hg2⟩ : ∃ z, w1.heap.size = z := ⟨_, rfl⟩
        obtain ⟨w2, hw2⟩ : ∃ z, w1.alloc (.cells #[.string y.name, .string y.text] 43) = z := ⟨_, rfl⟩
        rw [show w1.alloc (.cells ([.string y.name, .string y.text] : List Value).toArray 43) = w2 from hw2] at hk2
        have HK1 := Lib.hid (HK1.out.keep ho1.b)
        have HB2 := Lib.hid (HB1.out.trans ho1)
        rw [hw2] at HK1 HB2 ⊢
        rw [hg2] at hk2 ⊢
        clear hw2 hg2 ho1 d0 d1 hb2w hb2
        have e0 := HK1.out.cell 0 _ rfl; have e1 := HK1.out.cell 1 _ rfl; have e2 := hk2.cell 0 _ rfl; have e3 := hk2.cell 1 _ rfl
        have l1 := HK1.out.lt; have l2 := hk2.lt
        clear hk2
        have HS := Lib.hid (order_step HX.out HY.out)
        go_wp2_with fail
        refine (wCmp x y _).mono ?_
        rintro e w3 ⟨rfl, hb3⟩
        have HB3 := Lib.hid (HB2.out.trans hb3)
        clear hb3 e0 e1 e2 e3
        obtain ⟨c, hc⟩ : ∃ z, cmpLab x y = z := ⟨_, rfl⟩
        rw [hc] at HS ⊢
        clear hc
        by_cases hz : c = 0
        · have hx : (c != 0) = false := by simp [hz]
          have HZ := Lib.hid hz
          clear hz
          go_wp2
          exact ⟨⟨k + 1, by omega, by omega, by go_num, by rw [HO.out, HS.out, if_pos HZ.out], HB3.out⟩, by simp [intOf]; omega⟩
        · have hx : (c != 0) = true := by simp [hz]
          have HZ := Lib.hid hz
          clear hz
          go_wp2
          go_ret
          exact ⟨by rw [HO.out, HS.out, if_neg HZ.out]; rfl, HB3.out⟩
      · have hkj : (M : Int) ≤ (k : Int) := by omega
        have HE := Lib.hid (order_end (la := la) (lb := lb) (k := k) (by have := HNL.out; omega) (by have := HML.out; omega) (.inr (by have := HML.out; omega)))
        go_wp2
        go_ret
        exact ⟨by rw [HO.out, HE.out, if_pos (by have := HNL.out; omega)]; rfl, HB1.out⟩
    · have hki : ¬ ((k : Int) < (N : Int)) := by omega
      have HE := Lib.hid (order_end (la := la) (lb := lb) (k := k) (by have := HNL.out; omega) (by have := HML.out; omega) (.inl (by have := HNL.out; omega)))
      by_cases hnm : N < M
      · have hnm2 : (N : Int) < (M : Int) := by omega
        go_wp2
        go_ret
        exact ⟨by rw [HO.out, HE.out, if_neg (by have := HNL.out; omega), if_pos (by have := HML.out; omega)]; rfl, HBW.out⟩
      · have hnm2 : ¬ ((N : Int) < (M : Int)) := by omega
        go_wp2
        go_ret
        exact ⟨by rw [HO.out, HE.out, if_neg (by have := HNL.out; omega), if_neg (by have := HML.out; omega)]; rfl, HBW.out⟩
set_option maxHeartbeats 1000000 in
theorem wCompare {la lb : List Lab} {va vb : Value} {n : Nat} {W : World} (hn : n ≤ W.heap.size) (ha : IsLabs n W va la) (hb : IsLabs n W vb lb) :
    Calls Tryd.prog 27 #[va, vb] W fun e w' => e = .returned (.int .i64 (compareL la lb)) ∧ Bw W w' := by
  have HA := Lib.hid ha; have HB := Lib.hid hb; have HN := Lib.hid hn
  have HC := Lib.hid (show compareL la lb = if checkL la = 0 ∧ checkL lb = 0 then orderL la lb else 0 from rfl)
  clear ha hb hn
  go_enter Tryd.func27, Tryd.ntmps27; (try simp only [List.append_eq, List.cons_append, List.nil_append])
  go_wp2_with fail
  refine (wCheck la va n W HN.out HA.out).mono ?_
  rintro e w1 ⟨rfl, hb1⟩
  have HB1 := Lib.hid hb1
  clear hb1
  obtain ⟨c1, hc1⟩ : ∃ z, checkL la = z := ⟨_, rfl⟩
  rw [hc1] at HC ⊢
  clear hc1
  by_cases h1 : c1 = 0
  · subst h1
    go_wp2_with fail
    refine (wCheck lb vb n w1 (Nat.le_trans HN.out HB1.out.b.size) (HB.out.mono (HB1.out.b.mono HN.out) (Nat.le_refl _))).mono ?_
    rintro e w2 ⟨rfl, hb2⟩
    have HB2 := Lib.hid (HB1.out.trans hb2)
    clear hb2
    obtain ⟨c2, hc2⟩ : ∃ z, checkL lb = z := ⟨_, rfl⟩
    rw [hc2] at HC ⊢
    clear hc2
    by_cases h2 : c2 = 0
    · subst h2
      go_wp2_with fail
      refine (wCompareF (Nat.le_trans HN.out HB2.out.b.size) (HA.out.mono (HB2.out.b.mono HN.out) (Nat.le_refl _)) (HB.out.mono (HB2.out.b.mono HN.out) (Nat.le_refl _))).mono ?_
      rintro e w3 ⟨rfl, hb3⟩
      have HB3 := Lib.hid (HB2.out.trans hb3)
      clear hb3
      go_wp2
      go_ret
      exact ⟨by rw [HC.out, if_pos (by simp)]; rfl, HB3.out⟩
    · have hx : (c2 != 0) = true := by simp [h2]
      have HZ := Lib.hid h2
      clear h2
      go_wp2
      go_ret
      exact ⟨by rw [HC.out, if_neg (fun h => HZ.out h.2)]; rfl, HB2.out⟩
  · have hx : (c1 != 0) = true := by simp [h1]
    have HZ := Lib.hid h1
    clear h1
    go_wp2
    go_ret
    exact ⟨by rw [HC.out, if_neg (fun h => HZ.out h.1)]; rfl, HB1.out⟩
set_option maxHeartbeats 1000000 in
theorem sortCl {r s : Rs} {p q : Option Addr} {c d n : Nat} {W : World} (hn : n ≤ W.heap.size) (h1 : IsLabs n W (.slice p r.labs.length c) r.labs) (h2 : IsLabs n W (.slice q s.labs.length d) s.labs) :
    Calls Tryd.prog 26 #[.agg #[.slice p r.labs.length c, .int .i64 r.n, .bool r.over], .agg #[.slice q s.labs.length d, .int .i64 s.n, .bool s.over]] W fun e w' => e = .returned (.int .i64 (compareL r.labs s.labs)) ∧ Bw W w' := by
  have H1 := Lib.hid h1; have H2 := Lib.hid h2; have HN := Lib.hid hn
  clear h1 h2 hn
  obtain ⟨l1, x1, y1⟩ := r
  obtain ⟨l2, x2, y2⟩ := s
  simp only at H1 H2 ⊢
  obtain ⟨m1, hm1⟩ : ∃ z, l1.length = z := ⟨_, rfl⟩
  obtain ⟨m2, hm2⟩ : ∃ z, l2.length = z := ⟨_, rfl⟩
  rw [hm1] at H1 ⊢
  rw [hm2] at H2 ⊢
  clear hm1 hm2
  go_enter Tryd.func26, Tryd.ntmps26; (try simp only [List.append_eq, List.cons_append, List.nil_append])
  go_upto_region 1 with fail
  have hB0 := ((Bw.refl W).alloc (.cells #[.slice p m1 c, .int .i64 x1, .bool y1] 39)).alloc (.cells #[.slice q m2 d, .int .i64 x2, .bool y2] 39)
  have hb1 := two_at W [.slice p m1 c, .int .i64 x1, .bool y1] [.slice q m2 d, .int .i64 x2, .bool y2] 39 39
  have hb2 := two_at' W (.cells #[.slice p m1 c, .int .i64 x1, .bool y1] 39) [.slice q m2 d, .int .i64 x2, .bool y2] 39
  obtain ⟨X, hX⟩ : ∃ z, (W.alloc (.cells #[.slice p m1 c, .int .i64 x1, .bool y1] 39)).alloc (.cells #[.slice q m2 d, .int .i64 x2, .bool y2] 39) = z := ⟨_, rfl⟩
  rw [show (W.alloc (.cells ([.slice p m1 c, .int .i64 x1, .bool y1] : List Value).toArray 39)).alloc (.cells ([.slice q m2 d, .int .i64 x2, .bool y2] : List Value).toArray 39) = X from hX] at hb1
  rw [show (W.alloc (.cells #[.slice p m1 c, .int .i64 x1, .bool y1] 39)).alloc (.cells ([.slice q m2 d, .int .i64 x2, .bool y2] : List Value).toArray 39) = X from hX] at hb2
  rw [hX] at hB0 ⊢
  clear hX
  have HB0 := Lib.hid hB0
  obtain ⟨g, hg⟩ : ∃ z, W.heap.size = z := ⟨_, rfl⟩
  rw [hg] at hb1 hb2 ⊢
  have HG := Lib.hid hg
  have e0 := hb1.cell 0 _ rfl; have gl1 := hb1.lt
  have f0 := hb2.cell 0 _ rfl; have gl2 := hb2.lt
  clear hB0 hb1 hb2 hg
  go_wp2_with fail
  refine (wCompare (Nat.le_trans HN.out HB0.out.b.size) (H1.out.mono (HB0.out.b.mono HN.out) (Nat.le_refl _)) (H2.out.mono (HB0.out.b.mono HN.out) (Nat.le_refl _))).mono ?_
  rintro e w1 ⟨rfl, hb1⟩
  have HB1 := Lib.hid (HB0.out.trans hb1)
  clear hb1 e0 f0
  go_wp2
  go_ret
  exact ⟨rfl, HB1.out⟩
end Go.Proofs.YtgmdlnobajmjfaaDoor
