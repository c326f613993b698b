/- cmp.Compare at texts, cmp.Or, label.compare, slices.CompareFunc, label.Compare. -/
import Derived.Test.YtfmolimnnheaoaaGreatK3
import Derived.Test.YtfmolimnnheaoaaGreatK1
import Derived.Deep.CutRange
import Derived.Deep.CutBlock
import Derived.Deep.QuietTactic
import Derived.BigQuiet
namespace Go.Proofs.YtfmolimnnheaoaaGreat
open Go.RowKit
set_option linter.unusedSimpArgs false
set_option linter.unusedVariables false

theorem sNaN (x : ByteArray) (W : World) : Calls Tryz.prog 109 #[.string x] W fun e w' => e = .returned (.bool false) ∧ w' = W := by
  go_enter Tryz.func109, Tryz.ntmps109; (try simp only [List.append_eq, List.cons_append, List.nil_append])
  go_wp2
  go_ret
  exact ⟨by simp, rfl⟩
theorem sCmp (a b : ByteArray) (W : World) : Calls Tryz.prog 96 #[.string a, .string b] W fun e w' => e = .returned (.int .i64 (cmpW a b)) ∧ w' = W := by
  unfold cmpW
  by_cases h1 : sless a b = true
  · rw [if_pos h1]
    have h1' : Op.bytesLess a.toList b.toList = true := h1
    clear h1
    go_enter Tryz.func96, Tryz.ntmps96; (try simp only [List.append_eq, List.cons_append, List.nil_append])
    go_wp2_with fail
    refine (sNaN a _).mono ?_
    rintro e w1 ⟨rfl, rfl⟩
    go_wp2_with fail
    refine (sNaN b _).mono ?_
    rintro e w1 ⟨rfl, rfl⟩
    go_wp2
    go_ret
    exact ⟨rfl, rfl⟩
  · have h1' : Op.bytesLess a.toList b.toList = false := by have h := h1; unfold sless at h; simpa using h
    rw [if_neg h1]
    by_cases h2 : sless b a = true
    · rw [if_pos h2]
      have h2' : (a.toList == b.toList) = false := by rw [toList_beq]; exact decide_eq_false (fun e => by subst e; rw [sless_irrefl] at h2; cases h2)
      go_enter Tryz.func96, Tryz.ntmps96; (try simp only [List.append_eq, List.cons_append, List.nil_append])
      go_wp2_with fail
      refine (sNaN a _).mono ?_
      rintro e w1 ⟨rfl, rfl⟩
      go_wp2_with fail
      refine (sNaN b _).mono ?_
      rintro e w1 ⟨rfl, rfl⟩
      go_wp2
      go_ret
      exact ⟨rfl, rfl⟩
    · have h2' : (a.toList == b.toList) = true := by
        rw [toList_beq]
        refine decide_eq_true ?_
        rcases sless_tri a b with h | h | h
        · exact absurd h h1
        · exact h
        · exact absurd h h2
      rw [if_neg h2]
      go_enter Tryz.func96, Tryz.ntmps96; (try simp only [List.append_eq, List.cons_append, List.nil_append])
      go_wp2_with fail
      refine (sNaN a _).mono ?_
      rintro e w1 ⟨rfl, rfl⟩
      go_wp2_with fail
      refine (sNaN b _).mono ?_
      rintro e w1 ⟨rfl, rfl⟩
      go_wp2
      go_ret
      exact ⟨rfl, rfl⟩
def orI (a b : Int) : Int := if a = 0 then b else a
def OrR (a b : Int) (W : World) (j : Value) (wr : World) : Prop := ∃ k : Nat, k ≤ 2 ∧ j = .int .i64 k ∧ (1 ≤ k → a = 0) ∧ (2 ≤ k → b = 0) ∧ wr = W
set_option maxHeartbeats 1000000 in
theorem sOr (a b : Int) (g : Nat) (W : World) (h0 : W.cell? ⟨g, 0, none⟩ = some (.int .i64 a)) (h1 : W.cell? ⟨g, 1, none⟩ = some (.int .i64 b)) (hg : g < W.heap.size) :
    Calls Tryz.prog 95 #[.slice (some ⟨g, 0, none⟩) 2 2] W fun e w' => e = .returned (.int .i64 (orI a b)) ∧ w' = W := by
  go_enter Tryz.func95, Tryz.ntmps95; (try simp only [List.append_eq, List.cons_append, List.nil_append])
  go_wp2
  go_loopw [8] (fun j wr => OrR a b W j wr) (fun j _ => 2 - (intOf j).toNat)
  case atStart => exact ⟨0, by omega, rfl, fun h => by omega, fun h => by omega, rfl⟩
  case round =>
    obtain ⟨k, hk, rfl, ha, hb, hw⟩ := hrel
    subst hw
    have Ha := Lib.hid ha; have Hb := Lib.hid hb
    clear ha hb
    match k, hk with
    | 0, _ =>
      by_cases h : a = 0
      · have hx : (a != 0) = false := by simp [h]
        have HH := Lib.hid h
        clear h
        go_wp2
        exact ⟨⟨1, by omega, by go_num, fun _ => HH.out, fun h => by omega, rfl⟩, by simp [intOf]⟩
      · have hx : (a != 0) = true := by simp [h]
        have HH := Lib.hid (show orI a b = a from if_neg h)
        clear h
        go_wp2
        go_ret
        exact ⟨by rw [HH.out]; rfl, rfl⟩
    | 1, _ =>
      have HH := Lib.hid (Ha.out (by omega))
      have HO := Lib.hid (show orI a b = b from if_pos HH.out)
      by_cases h : b = 0
      · have hx : (b != 0) = false := by simp [h]
        have HH2 := Lib.hid h
        clear h
        go_wp2
        exact ⟨⟨2, by omega, by go_num, fun _ => HH.out, fun _ => HH2.out, rfl⟩, by simp [intOf]⟩
      · have hx : (b != 0) = true := by simp [h]
        have HH2 := Lib.hid h
        clear h
        go_wp2
        go_ret
        exact ⟨by rw [HO.out]; rfl, rfl⟩
    | 2, _ =>
      have HO := Lib.hid (show orI a b = 0 from (if_pos (Ha.out (by omega))).trans (Hb.out (by omega)))
      go_wp2
      go_ret
      exact ⟨by rw [HO.out]; rfl, rfl⟩
set_option maxRecDepth 100000 in
set_option maxHeartbeats 4000000 in
theorem lCmp (x y : Lab) (W : World) : Calls Tryz.prog 87 #[.agg #[.string x.name, .string x.text], .agg #[.string y.name, .string y.text]] W fun e w' => e = .returned (.int .i64 (cmpLab x y)) ∧ Below W.heap.size W w' := by
  have HE := Lib.hid (show orI (cmpW x.name y.name) (cmpW x.text y.text) = cmpLab x y from rfl)
  go_enter Tryz.func87, Tryz.ntmps87; (try simp only [List.append_eq, List.cons_append, List.nil_append])
  go_upto_region 1 with fail
  have hB0 := two_below W (.cells #[.string x.name, .string x.text] 106) (.cells #[.string y.name, .string y.text] 106)
  have hb1 := two_at W [.string x.name, .string x.text] [.string y.name, .string y.text] 106 106
  have hb2 := two_at' W (.cells #[.string x.name, .string x.text] 106) [.string y.name, .string y.text] 106
  obtain ⟨X, hX⟩ : ∃ z, (W.alloc (.cells #[.string x.name, .string x.text] 106)).alloc (.cells #[.string y.name, .string y.text] 106) = z := ⟨_, rfl⟩
  rw [show (W.alloc (.cells ([.string x.name, .string x.text] : List Value).toArray 106)).alloc (.cells ([.string y.name, .string y.text] : List Value).toArray 106) = X from hX] at hb1
  rw [show (W.alloc (.cells #[.string x.name, .string x.text] 106)).alloc (.cells ([.string y.name, .string y.text] : List Value).toArray 106) = X from hX] at hb2
  rw [hX] at hB0 ⊢
  clear hX
  have HB0 := Lib.hid hB0; have HB1 := Lib.hid hb1; have HB2 := Lib.hid hb2; have HB0w := Lib.hid hB0
  clear hB0 hb1 hb2
  obtain ⟨g, hg⟩ : ∃ z, W.heap.size = z := ⟨_, rfl⟩
  rw [hg] at HB0 HB1 HB2 ⊢
  clear hg
  refine wp_region_held_drew (S := fun w => Below X.heap.size X w) (by kernel_rfl) (Below.drew (Below.refl _ _)) (fun hHeld => ?_)
  have HS := Lib.hid (Below.drew (Below.refl X.heap.size X))
  try clear hHeld
  have hSS := HS.out
  obtain ⟨X2, hX2⟩ : ∃ z, X.drew = z := ⟨_, rfl⟩
  rw [hX2] at HS hSS ⊢
  clear hX2
  (refine htk 0 5 ?_ rfl ?_ ?_; rotate_left; (intro w hSw; clear hSw; go_simp); (try with_reducible rfl); simp only [lsz, lss])
  (refine htk 1 6 (.string x.name) rfl ?_ ?_; (intro w hSw; have e0 := (HB1.out.keep hSw).cell 0 _ rfl; clear hSw; go_simp); simp only [lsz, lss])
  (refine htk 2 7 ?_ rfl ?_ ?_; rotate_left; (intro w hSw; clear hSw; go_simp); (try with_reducible rfl); simp only [lsz, lss])
  (refine htk 3 8 (.string y.name) rfl ?_ ?_; (intro w hSw; have e0 := (HB2.out.keep hSw).cell 0 _ rfl; clear hSw; go_simp); simp only [lsz, lss])
  (refine htk 5 10 ?_ rfl ?_ ?_; rotate_left; (intro w hSw; clear hSw; go_simp); (try with_reducible rfl); simp only [lsz, lss])
  (refine htk 6 11 (.string x.text) rfl ?_ ?_; (intro w hSw; have e0 := (HB1.out.keep hSw).cell 1 _ rfl; clear hSw; go_simp); simp only [lsz, lss])
  (refine htk 7 12 ?_ rfl ?_ ?_; rotate_left; (intro w hSw; clear hSw; go_simp); (try with_reducible rfl); simp only [lsz, lss])
  (refine htk 8 13 (.string y.text) rfl ?_ ?_; (intro w hSw; have e0 := (HB2.out.keep hSw).cell 1 _ rfl; clear hSw; go_simp); simp only [lsz, lss])
  refine hrd 4 rfl (fun K hK => ?_)
  rw [if_pos (by kernel_rfl)]
  go_simp
  refine (sCmp _ _ _).mono ?_
  rintro e w1 ⟨rfl, rfl⟩
  refine hK.out _ _ HS.out (fun hHeld => ?_)
  clear hK K
  (try simp only [Act.put, lsa, lsz, lss])
  refine hrd 9 rfl (fun K hK => ?_)
  rw [if_pos (by kernel_rfl)]
  go_simp
  refine (sCmp _ _ _).mono ?_
  rintro e w1 ⟨rfl, rfl⟩
  refine hK.out _ _ HS.out (fun hHeld => ?_)
  clear hK K
  (try simp only [Act.put, lsa, lsz, lss])
  refine hrd 10 rfl (fun K hK => ?_)
  rw [if_pos (by kernel_rfl)]
  go_simp
  obtain ⟨c1, hc1⟩ : ∃ z, cmpW x.name y.name = z := ⟨_, rfl⟩
  obtain ⟨c2, hc2⟩ : ∃ z, cmpW x.text y.text = z := ⟨_, rfl⟩
  rw [hc1, hc2] at HE
  rw [hc1, hc2]
  clear hc1 hc2
  have hB3 := (Below.refl w1.heap.size w1).alloc (Nat.le_refl _) (.cells #[.int .i64 c1, .int .i64 c2] 3)
  have hb3 := Blk.new w1 [.int .i64 c1, .int .i64 c2] 3
  have HS3 := Lib.hid (HS.out.trans (hB3.mono HS.out.size))
  have HB3 := Lib.hid hb3
  clear hB3 hb3
  refine hK.out _ _ HS3.out (fun hHeld => ?_)
  clear hK K hSS HS
  have hSS := HS3.out
  (try simp only [Act.put, lsa, lsz, lss])
  refine hrd 11 rfl (fun K hK => ?_)
  rw [if_pos (by kernel_rfl)]
  go_simp
  refine (sOr c1 c2 w1.heap.size _ (HB3.out.cell 0 _ rfl) (HB3.out.cell 1 _ rfl) HB3.out.lt).mono ?_
  rintro e w2 ⟨rfl, rfl⟩
  refine hK.out _ _ HS3.out (fun hHeld => ?_)
  clear hK K
  (try simp only [Act.put, lsa, lsz, lss])
  (refine htk 12 4 ?_ rfl ?_ ?_; rotate_left; (intro w hSw; clear hSw; go_simp); (try with_reducible rfl); simp only [lsz, lss])
  refine wpAnyH_done (by kernel_rfl) ?_ _
  go_wp2
  go_ret
  exact ⟨by rw [HE.out]; rfl, HB0w.out.trans (HS3.out.mono HB0w.out.size)⟩
theorem order_step {la lb : List Lab} {k : Nat} {x y : Lab} (hx : la[k]? = some x) (hy : lb[k]? = some y) : orderL (la.drop k) (lb.drop k) = if cmpLab x y = 0 then orderL (la.drop (k + 1)) (lb.drop (k + 1)) else cmpLab x y := by
  obtain ⟨h1, e1⟩ := List.getElem?_eq_some_iff.1 hx
  obtain ⟨h2, e2⟩ := List.getElem?_eq_some_iff.1 hy
  rw [List.drop_eq_getElem_cons h1, List.drop_eq_getElem_cons h2, e1, e2]
  rfl
theorem order_end {la lb : List Lab} {k : Nat} (h1 : k ≤ la.length) (h2 : k ≤ lb.length) (h : la.length ≤ k ∨ lb.length ≤ k) : orderL (la.drop k) (lb.drop k) = if k < la.length then 1 else if k < lb.length then -1 else 0 := by
  by_cases ha : k < la.length
  · rw [if_pos ha, List.drop_eq_getElem_cons ha, List.drop_eq_nil_of_le (show lb.length ≤ k by omega)]; rfl
  · rw [if_neg ha, List.drop_eq_nil_of_le (show la.length ≤ k by omega)]
    by_cases hb : k < lb.length
    · rw [if_pos hb, List.drop_eq_getElem_cons hb]; rfl
    · rw [if_neg hb, List.drop_eq_nil_of_le (by omega)]; rfl
set_option maxRecDepth 100000 in
set_option maxHeartbeats 4000000 in
theorem lCompareF {la lb : List Lab} {va vb : Value} {n : Nat} {W : World} (hn : n ≤ W.heap.size) (ha : IsLabs n W va la) (hb : IsLabs n W vb lb) :
    Calls Tryz.prog 86 #[va, vb, .func (.func 87) #[] #[]] W fun e w' => e = .returned (.int .i64 (orderL la lb)) ∧ Below W.heap.size W w' := by
  obtain ⟨p, cap, rfl, _, _, hla⟩ := ha.open
  obtain ⟨q, cbp, rfl, _, _, hlb⟩ := hb.open
  unfold maxLen at hla hlb
  have HA := Lib.hid ha; have HB := Lib.hid hb; have HN := Lib.hid hn
  clear ha hb hn
  obtain ⟨N, hN⟩ : ∃ z, la.length = z := ⟨_, rfl⟩
  obtain ⟨M, hM⟩ : ∃ z, lb.length = z := ⟨_, rfl⟩
  rw [hN] at hla HA ⊢
  rw [hM] at hlb HB ⊢
  have hla2 : (N : Int) ≤ 9223372036854775807 := by omega
  have hlb2 : (M : Int) ≤ 9223372036854775807 := by omega
  have HNL := Lib.hid hN; have HML := Lib.hid hM
  clear hN hM
  go_enter Tryz.func86, Tryz.ntmps86; (try simp only [List.append_eq, List.cons_append, List.nil_append])
  go_wp2
  go_loopw [13] (fun j wr => ∃ k : Nat, k ≤ N ∧ k ≤ M ∧ j = .int .i64 k ∧ orderL la lb = orderL (la.drop k) (lb.drop k) ∧ Below W.heap.size W wr) (fun j _ => N - (intOf j).toNat)
  case atStart => exact ⟨0, Nat.zero_le _, Nat.zero_le _, rfl, rfl, Below.refl _ _⟩
  case round =>
    obtain ⟨k, hk, hkm, rfl, ho, hb⟩ := hrel
    have HO := Lib.hid ho; have HBW := Lib.hid hb
    have hsz := hb.size
    clear ho hb
    by_cases hlt : k < N
    · have hki : (k : Int) < (N : Int) := by omega
      have hka : k < la.length := by have := HNL.out; omega
      obtain ⟨b1, o1, rfl, hb1, d0, d1, -, -⟩ := (HA.out.mono (HBW.out.mono HN.out) (Nat.le_refl _)).get hka
      have HX := Lib.hid (List.getElem?_eq_getElem hka)
      obtain ⟨x, hx⟩ : ∃ x, la[k] = x := ⟨_, rfl⟩
      rw [hx] at d0 d1 HX
      clear hx hka
      have hb1w : b1 < wr.heap.size := by have := HN.out; omega
      go_upto_region 4 with (refine wpList_store_new rfl 106 _ _ rfl #[.string x.name, .string x.text] _ _ rfl rfl (by kernel_rfl) rfl (by kernel_rfl) ?_)
      have ho1 := (Below.refl wr.heap.size wr).alloc (Nat.le_refl _) (.cells #[.string x.name, .string x.text] 106)
      have hk1 := Blk.new wr [.string x.name, .string x.text] 106
      obtain ⟨g1, hg1⟩ : ∃ z, wr.heap.size = z := ⟨_, rfl⟩
      obtain ⟨w1, hw1⟩ : ∃ z, wr.alloc (.cells #[.string x.name, .string x.text] 106) = z := ⟨_, rfl⟩
      rw [show wr.alloc (.cells ([.string x.name, .string x.text] : List Value).toArray 106) = w1 from hw1] at hk1
      rw [hw1] at ho1 ⊢
      have HB1 := Lib.hid (HBW.out.trans (ho1.mono hsz))
      rw [hg1] at hk1 ⊢
      have HK1 := Lib.hid hk1
      clear hw1 hg1 ho1 hk1 d0 d1 hb1w hb1
      by_cases hlt2 : k < M
      · have hkj : ¬ ((M : Int) ≤ (k : Int)) := by omega
        have hkj2 : (k : Int) < (M : Int) := by omega
        have hkb : k < lb.length := by have := HML.out; omega
        obtain ⟨b2, o2, rfl, hb2, d0, d1, -, -⟩ := (HB.out.mono (HB1.out.mono HN.out) (Nat.le_refl _)).get hkb
        have HY := Lib.hid (List.getElem?_eq_getElem hkb)
        obtain ⟨y, hy⟩ : ∃ y, lb[k] = y := ⟨_, rfl⟩
        rw [hy] at d0 d1 HY
        clear hy hkb
        have hb2w : b2 < w1.heap.size := by have := HN.out; have := HB1.out.size; omega
        go_upto_region 7 with (refine wpList_store_new rfl 106 _ _ rfl #[.string y.name, .string y.text] _ _ rfl rfl (by kernel_rfl) rfl (by kernel_rfl) ?_)
        have ho1 := (Below.refl w1.heap.size w1).alloc (Nat.le_refl _) (.cells #[.string y.name, .string y.text] 106)
        have hk2 := Blk.new w1 [.string y.name, .string y.text] 106
        obtain ⟨g2, hg2⟩ : ∃ z, w1.heap.size = z := ⟨_, rfl⟩
        obtain ⟨w2, hw2⟩ : ∃ z, w1.alloc (.cells #[.string y.name, .string y.text] 106) = z := ⟨_, rfl⟩
        rw [show w1.alloc (.cells ([.string y.name, .string y.text] : List Value).toArray 106) = w2 from hw2] at hk2
        have HK1 := Lib.hid (HK1.out.keep ho1)
        have HB2 := Lib.hid (HB1.out.trans (ho1.mono HB1.out.size))
        rw [hw2] at HK1 HB2 ⊢
        rw [hg2] at hk2 ⊢
        clear hw2 hg2 ho1 d0 d1 hb2w hb2
        have e0 := HK1.out.cell 0 _ rfl; have e1 := HK1.out.cell 1 _ rfl; have e2 := hk2.cell 0 _ rfl; have e3 := hk2.cell 1 _ rfl
        have l1 := HK1.out.lt; have l2 := hk2.lt
        clear hk2
        have HS := Lib.hid (order_step HX.out HY.out)
        go_wp2_with fail
        refine (lCmp x y _).mono ?_
        rintro e w3 ⟨rfl, hb3⟩
        have HB3 := Lib.hid (HB2.out.trans (hb3.mono HB2.out.size))
        clear hb3 e0 e1 e2 e3
        obtain ⟨c, hc⟩ : ∃ z, cmpLab x y = z := ⟨_, rfl⟩
        rw [hc] at HS ⊢
        clear hc
        by_cases hz : c = 0
        · have hx : (c != 0) = false := by simp [hz]
          have HZ := Lib.hid hz
          clear hz
          go_wp2
          exact ⟨⟨k + 1, by omega, by omega, by go_num, by rw [HO.out, HS.out, if_pos HZ.out], HB3.out⟩, by simp [intOf]; omega⟩
        · have hx : (c != 0) = true := by simp [hz]
          have HZ := Lib.hid hz
          clear hz
          go_wp2
          go_ret
          exact ⟨by rw [HO.out, HS.out, if_neg HZ.out]; rfl, HB3.out⟩
      · have hkj : (M : Int) ≤ (k : Int) := by omega
        have HE := Lib.hid (order_end (la := la) (lb := lb) (k := k) (by have := HNL.out; omega) (by have := HML.out; omega) (.inr (by have := HML.out; omega)))
        go_wp2
        go_ret
        exact ⟨by rw [HO.out, HE.out, if_pos (by have := HNL.out; omega)]; rfl, HB1.out⟩
    · have hki : ¬ ((k : Int) < (N : Int)) := by omega
      have HE := Lib.hid (order_end (la := la) (lb := lb) (k := k) (by have := HNL.out; omega) (by have := HML.out; omega) (.inl (by have := HNL.out; omega)))
      by_cases hnm : N < M
      · have hnm2 : (N : Int) < (M : Int) := by omega
        go_wp2
        go_ret
        exact ⟨by rw [HO.out, HE.out, if_neg (by have := HNL.out; omega), if_pos (by have := HML.out; omega)]; rfl, HBW.out⟩
      · have hnm2 : ¬ ((N : Int) < (M : Int)) := by omega
        go_wp2
        go_ret
        exact ⟨by rw [HO.out, HE.out, if_neg (by have := HNL.out; omega), if_neg (by have := HML.out; omega)]; rfl, HBW.out⟩
set_option maxHeartbeats 1000000 in
theorem lCompare {la lb : List Lab} {va vb : Value} {n : Nat} {W : World} (hn : n ≤ W.heap.size) (ha : IsLabs n W va la) (hb : IsLabs n W vb lb) :
    Calls Tryz.prog 74 #[va, vb] W fun e w' => e = .returned (.int .i64 (compareL la lb)) ∧ Below W.heap.size W w' := by
  have HA := Lib.hid ha; have HB := Lib.hid hb; have HN := Lib.hid hn
  have HC := Lib.hid (show compareL la lb = if checkL la = 0 ∧ checkL lb = 0 then orderL la lb else 0 from rfl)
  clear ha hb hn
  go_enter Tryz.func74, Tryz.ntmps74; (try simp only [List.append_eq, List.cons_append, List.nil_append])
  go_wp2_with fail
  refine (lCheck la va n W HN.out HA.out).mono ?_
  rintro e w1 ⟨rfl, hb1⟩
  have HB1 := Lib.hid hb1
  clear hb1
  obtain ⟨c1, hc1⟩ : ∃ z, checkL la = z := ⟨_, rfl⟩
  rw [hc1] at HC ⊢
  clear hc1
  by_cases h1 : c1 = 0
  · subst h1
    go_wp2_with fail
    refine (lCheck lb vb n w1 (Nat.le_trans HN.out HB1.out.size) (HB.out.mono (HB1.out.mono HN.out) (Nat.le_refl _))).mono ?_
    rintro e w2 ⟨rfl, hb2⟩
    have HB2 := Lib.hid (HB1.out.trans (hb2.mono HB1.out.size))
    clear hb2
    obtain ⟨c2, hc2⟩ : ∃ z, checkL lb = z := ⟨_, rfl⟩
    rw [hc2] at HC ⊢
    clear hc2
    by_cases h2 : c2 = 0
    · subst h2
      go_wp2_with fail
      refine (lCompareF (Nat.le_trans HN.out HB2.out.size) (HA.out.mono (HB2.out.mono HN.out) (Nat.le_refl _)) (HB.out.mono (HB2.out.mono HN.out) (Nat.le_refl _))).mono ?_
      rintro e w3 ⟨rfl, hb3⟩
      have HB3 := Lib.hid (HB2.out.trans (hb3.mono HB2.out.size))
      clear hb3
      go_wp2
      go_ret
      exact ⟨by rw [HC.out, if_pos (by simp)]; rfl, HB3.out⟩
    · have hx : (c2 != 0) = true := by simp [h2]
      have HZ := Lib.hid h2
      clear h2
      go_wp2
      go_ret
      exact ⟨by rw [HC.out, if_neg (fun h => HZ.out h.2)]; rfl, HB2.out⟩
  · have hx : (c1 != 0) = true := by simp [h1]
    have HZ := Lib.hid h1
    clear h1
    go_wp2
    go_ret
    exact ⟨by rw [HC.out, if_neg (fun h => HZ.out h.1)]; rfl, HB1.out⟩
end Go.Proofs.YtfmolimnnheaoaaGreat
