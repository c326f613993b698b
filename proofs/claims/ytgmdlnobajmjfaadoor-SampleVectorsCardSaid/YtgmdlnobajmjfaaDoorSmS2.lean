/- SampleVectors' walk. -/
import Derived.Test.YtgmdlnobajmjfaaDoorSmS1
import Derived.Outline
namespace Go.Proofs.YtgmdlnobajmjfaaDoor
open Go.RowKit
set_option linter.unusedSimpArgs false
set_option linter.unusedVariables false

theorem wpList_append_srcN {P : Program} (w : World) {ops : Array Oper} {rest : List Oper} {o : Oper} {a : Act} {Q : Exit → Act → World → Prop} (hgd : o.guard = none) (s x : Operand) (t : TypeId)
    (ho : o.op = .call { callee := .builtin .append, args := #[s, x], argTypes := #[t, t] })
    (base : Nat) (e : TypeId) (i : TypeInfo) (z : Value) (size bytes : Nat) (ht : P.underlying t = some (.slice e)) (hi : P.info? e = some i) (hz : i.zero = some z)
    (hsize : i.size = size) (hby : i.bytes = bytes) (hzs : z.cells.size = size) (hsz : 0 < size)
    (v : Value) (n : Nat) (xs : List Value) (hs : a.eval s = v) (hown : w.ownsRow base e size v n xs)
    (src : Value) (m : Nat) (news : List Value) (hx : a.eval x = src) (hsrc : SrcN w src size m news) (h1 : ∀ u ∈ news, u.oneCell' = true)
    (h63 : n + m ≤ maxLen) (hbytes : (n + m) * bytes ≤ 140737488355328) (hbase : base ≤ w.heap.size)
    (h : ∀ v' w', w'.ownsRow base e size v' (n + m) (xs ++ news) → w.grownBy w' v.ownBlock → (v'.ownBlock = v.ownBlock ∨ v'.ownBlock = some w.heap.size) → wpList P ops Q rest (a.put o.dst v') w') :
    wpList P ops Q (o :: rest) a w :=
  wpList_plain hgd fun _ hK => wp_append_srcN w s x t ho base e i z size bytes ht hi hz hsize hby hzs hsz v n xs hs hown src m news hx hsrc h1 h63 hbytes hbase fun v' w' h2 h3 h5 => hK _ _ (h v' w' h2 h3 h5)
set_option maxRecDepth 100000 in
set_option maxHeartbeats 16000000 in
theorem wVectors {v w : List Rs} {l : List Lab} {va vb vl : Value} {W : World} (ha : IsRes W.heap.size W va v) (hb : IsRes W.heap.size W vb w) (hl : IsLabs W.heap.size W vl l) (hT : TB W.heap.size W) :
    Calls Tryd.prog 3 #[va, vb, vl] W fun e w' => e = .returned (.bool true) ∧ Below W.heap.size W w' := by
  obtain ⟨p, cap, rfl, hc1, hc2⟩ := ha.open
  obtain ⟨q, cbp, rfl, hd1, hd2⟩ := hb.open
  unfold maxLen at hc2 hd2
  have HA := Lib.hid ha; have HB := Lib.hid hb; have HL := Lib.hid hl; have HT := Lib.hid hT
  clear ha hb hl hT
  obtain ⟨N, hN⟩ : ∃ z, v.length = z := ⟨_, rfl⟩
  obtain ⟨M, hM⟩ : ∃ z, w.length = z := ⟨_, rfl⟩
  rw [hN] at HA hc1 ⊢
  rw [hM] at HB hd1 ⊢
  have HNL := Lib.hid hN; have HML := Lib.hid hM
  have hN2 : (N : Int) ≤ 9223372036854775807 := by omega
  have hM2 : (M : Int) ≤ 9223372036854775807 := by omega
  clear hN hM
  go_enter Tryd.func3, Tryd.ntmps3; (try simp only [List.append_eq, List.cons_append, List.nil_append])
  go_wp2_with fail
  refine (lLives W HT.out).mono ?_
  rintro e w0 ⟨rfl, hb0⟩
  have HW := Lib.hid hb0
  clear hb0
  go_wp2_with fail
  refine (kLightVector (m := 60) HW.out.size (HA.out.mono HW.out (Nat.le_refl _)) (by decide)).mono ?_
  rintro e w1 ⟨⟨r1, rfl, hr1⟩, hb1⟩
  have HW := Lib.hid (HW.out.trans (hb1.mono HW.out.size))
  clear hb1
  cases r1 with
  | false =>
    clear hr1
    go_wp2
    go_ret
    exact ⟨rfl, HW.out⟩
  | true =>
  have HN60 := Lib.hid (hr1 rfl)
  clear hr1
  go_wp2_with fail
  refine (kLightVector (m := 60) HW.out.size (HB.out.mono HW.out (Nat.le_refl _)) (by decide)).mono ?_
  rintro e w2 ⟨⟨r2, rfl, hr2⟩, hb1⟩
  have HW := Lib.hid (HW.out.trans (hb1.mono HW.out.size))
  clear hb1
  cases r2 with
  | false =>
    clear hr2
    go_wp2
    go_ret
    exact ⟨rfl, HW.out⟩
  | true =>
  clear hr2
  go_wp2_with fail
  refine (kLightLabels HW.out.size (HL.out.mono HW.out (Nat.le_refl _))).mono ?_
  rintro e w3 ⟨⟨bl, rfl⟩, hw3⟩
  subst hw3
  cases bl with
  | false =>
    go_wp2
    go_ret
    exact ⟨rfl, HW.out⟩
  | true =>
  obtain ⟨X0, rfl⟩ : ∃ z, z = w3 := ⟨_, rfl⟩
  -- append([]api.Result{}, v...)
  have hA0 := HA.out.mono HW.out HW.out.size
  obtain ⟨rows, hArr, hrl, hrw⟩ := hA0
  obtain ⟨h3, h1c⟩ := rows_one hrl hrw
  have hrN : rows.length = N := by rw [hrl, HNL.out]
  have hN6 : N ≤ 60 := by have := HN60.out; have := HNL.out; omega
  have sV : SrcN X0 (.slice p N cap) 3 N rows.flatten := by
    have := SrcN.of_arr (c := cap) (p := p) (rows := rows) (by rw [hrN]; exact hArr) h3 (by decide)
    rwa [hrN] at this
  have SV := Lib.hid sV; have H1C := Lib.hid h1c
  have FIN := Lib.hid (show ∀ v' w', w'.ownsRow X0.heap.size 39 3 v' N rows.flatten → Below X0.heap.size X0 w' → IsRes w'.heap.size w' v' v from fun v' w' ho hb => by
    rw [← hrN] at ho
    exact own_res ho hrl hrw hb hb.size)
  obtain ⟨j0, hj, hw0, hw1, hw2⟩ := info_parts infoRes
  clear sV h1c h3 hArr hrw hrl hrN
  go_upto_region 5 with fail
  go_wp2_with (at_builtin; refine wpList_append_srcN _ rfl _ _ _ rfl X0.heap.size 39 j0 _ 3 40 Tryd.underlying22 hj hw0 hw1 hw2 rfl (by decide) _ 0 [] rfl (own_empty0 39 3 X0) _ N rows.flatten rfl (SV.out.below ((Below.refl _ _).alloc (Nat.le_refl _) _)) H1C.out (by unfold maxLen; omega) (by omega) (by simp) ?_; intro v4 w4 ho4 hg4 _; have hb4 := below_app ((Below.refl X0.heap.size X0).alloc (Nat.le_refl _) (.cells #[] 39)) (own_empty0 39 3 X0) hg4 (Nat.le_refl _) (by simp); rw [Nat.zero_add, List.nil_append] at ho4; have HV4 := Lib.hid (FIN.out _ _ ho4 hb4); have HW4 := Lib.hid (HW.out.trans (hb4.mono HW.out.size)); clear ho4 hg4 hb4)
  clear FIN SV H1C hj hw0 hw1 hw2
  have HW := Lib.hid (show Below W.heap.size W w4 from HW4.out)
  go_wp2_with fail
  refine (sSort (Nat.le_refl _) HV4.out).mono ?_
  rintro e w5 ⟨x5, l5, c5, rfl, hres5, hb5, hP⟩
  have HW := Lib.hid (HW.out.trans (hb5.mono HW.out.size))
  have HP := Lib.hid hP; have HX5 := Lib.hid hres5
  clear hb5 hP hres5 HW4
  go_wp2_with fail
  refine (rSort HW.out.size (HA.out.mono HW.out (Nat.le_refl _))).mono ?_
  rintro e w6 ⟨x6, l6, c6, rfl, hres6, hb6, hQ⟩
  obtain ⟨rfl, rfl⟩ := sort_agree HP.out hQ
  have HW := Lib.hid (HW.out.trans (hb6.mono HW.out.size))
  have HX5 := Lib.hid (HX5.out.mono hb6 hb6.size)
  have HX6 := Lib.hid hres6
  clear hb6 hQ hres6 HP HV4
  obtain ⟨f1, hf1⟩ : ∃ z, (findR v l).1 = z := ⟨_, rfl⟩
  obtain ⟨f2, hf2⟩ : ∃ z, (findR v l).2.1 = z := ⟨_, rfl⟩
  obtain ⟨f3, hf3⟩ : ∃ z, (findR v l).2.2 = z := ⟨_, rfl⟩
  have HS := Lib.hid (fun (X : World) (hX : Below W.heap.size W X) => (sFind (W := X) hX.size (HA.out.mono hX (Nat.le_refl _)) (HL.out.mono hX (Nat.le_refl _))))
  have HR := Lib.hid (fun (X : World) (hX : Below W.heap.size W X) => (rFind (W := X) hX.size (HA.out.mono hX (Nat.le_refl _)) (HL.out.mono hX (Nat.le_refl _))))
  rw [hf1, hf2, hf3] at HS HR
  clear hf1 hf2 hf3
  go_wp2_with fail
  refine (HS.out _ HW.out).mono ?_
  rintro e w7 ⟨rfl, hb7⟩
  have HW := Lib.hid (HW.out.trans (hb7.mono HW.out.size))
  have HX5 := Lib.hid (HX5.out.mono hb7 hb7.size); have HX6 := Lib.hid (HX6.out.mono hb7 hb7.size)
  clear hb7 HS
  go_upto_region 8 with (refine wpList_store_new rfl 31 _ _ rfl #[.int .i64 f1, .bool f2] _ _ rfl rfl (by kernel_rfl) rfl (by kernel_rfl) ?_)
  have k1 := Blk.new w7 [.int .i64 f1, .bool f2] 31
  have b1 : Below w7.heap.size w7 (w7.alloc (.cells #[.int .i64 f1, .bool f2] 31)) := (Below.refl _ _).alloc (Nat.le_refl _) _
  have HW := Lib.hid (HW.out.trans (b1.mono HW.out.size))
  have HX5 := Lib.hid (HX5.out.mono b1 b1.size); have HX6 := Lib.hid (HX6.out.mono b1 b1.size)
  obtain ⟨g1, hg1⟩ : ∃ z, w7.heap.size = z := ⟨_, rfl⟩
  obtain ⟨Y, hY⟩ : ∃ z, w7.alloc (.cells #[.int .i64 f1, .bool f2] 31) = z := ⟨_, rfl⟩
  rw [show w7.alloc (.cells ([.int .i64 f1, .bool f2] : List Value).toArray 31) = Y from hY] at k1
  rw [hY] at HW HX5 HX6 ⊢
  rw [hg1] at k1 ⊢
  have K1 := Lib.hid k1
  clear hY hg1 b1 k1
  go_wp2_with fail
  refine (HR.out _ HW.out).mono ?_
  rintro e w8 ⟨rfl, hb8⟩
  have HW := Lib.hid (HW.out.trans (hb8.mono HW.out.size))
  have HX5 := Lib.hid (HX5.out.mono hb8 hb8.size); have HX6 := Lib.hid (HX6.out.mono hb8 hb8.size)
  have K1 := Lib.hid (K1.out.keep hb8)
  clear hb8 HR
  go_upto_region 9 with (refine wpList_store_new rfl 31 _ _ rfl #[.int .i64 f1, .bool f2] _ _ rfl rfl (by kernel_rfl) rfl (by kernel_rfl) ?_)
  have k2 := Blk.new w8 [.int .i64 f1, .bool f2] 31
  have b2 : Below w8.heap.size w8 (w8.alloc (.cells #[.int .i64 f1, .bool f2] 31)) := (Below.refl _ _).alloc (Nat.le_refl _) _
  have HW := Lib.hid (HW.out.trans (b2.mono HW.out.size))
  have HX5 := Lib.hid (HX5.out.mono b2 b2.size); have HX6 := Lib.hid (HX6.out.mono b2 b2.size)
  have K1 := Lib.hid (K1.out.keep b2)
  obtain ⟨g2, hg2⟩ : ∃ z, w8.heap.size = z := ⟨_, rfl⟩
  obtain ⟨Z, hZ⟩ : ∃ z, w8.alloc (.cells #[.int .i64 f1, .bool f2] 31) = z := ⟨_, rfl⟩
  rw [show w8.alloc (.cells ([.int .i64 f1, .bool f2] : List Value).toArray 31) = Z from hZ] at k2
  rw [hZ] at HW HX5 HX6 K1 ⊢
  rw [hg2] at k2 ⊢
  have K2 := Lib.hid k2
  clear hZ hg2 b2 k2
  go_wp2_with fail
  refine (kVector (Nat.le_refl _) HX5.out HX6.out).mono ?_
  rintro e z1 ⟨rfl, hb1⟩
  rw [decide_eq_true rfl]
  have HW := Lib.hid (HW.out.trans (hb1.mono HW.out.size))
  have k1 := K1.out.keep hb1
  have k2 := K2.out.keep hb1
  have e0 := k1.cell 0 _ rfl; have e1 := k1.cell 1 _ rfl; have l1 := k1.lt
  have d0 := k2.cell 0 _ rfl; have d1 := k2.cell 1 _ rfl; have l2 := k2.lt
  clear hb1 HX5 HX6 K1 K2 k1 k2
  have hcc : (c5 == c5) = true := by simp
  have hve := fun w => valEq f1 f1 f2 f2 w
  have hee : decide (f1 = f1 ∧ f2 = f2) = true := by simp
  have hff : (f3 == f3) = true := by simp
  go_wp2_with fail
  refine (sCheckV HW.out.size (HA.out.mono HW.out (Nat.le_refl _))).mono ?_
  rintro e z2 ⟨rfl, hb1⟩
  have HW := Lib.hid (HW.out.trans (hb1.mono HW.out.size))
  clear hb1 e0 e1 d0 d1 l1 l2 hcc hve hee hff
  go_wp2_with fail
  refine (rCheckV HW.out.size (HA.out.mono HW.out (Nat.le_refl _))).mono ?_
  rintro e z3 ⟨rfl, hb1⟩
  have HW := Lib.hid (HW.out.trans (hb1.mono HW.out.size))
  clear hb1
  obtain ⟨cv, hcv⟩ : ∃ z, checkV v = z := ⟨_, rfl⟩
  rw [hcv]
  clear hcv
  have hcc : (cv == cv) = true := by simp
  go_wp2_with fail
  refine (sSame HW.out.size (HA.out.mono HW.out (Nat.le_refl _)) (HB.out.mono HW.out (Nat.le_refl _))).mono ?_
  rintro e z4 ⟨rfl, hb1⟩
  have HW := Lib.hid (HW.out.trans (hb1.mono HW.out.size))
  clear hb1 hcc
  go_wp2_with fail
  refine (rSame HW.out.size (HA.out.mono HW.out (Nat.le_refl _)) (HB.out.mono HW.out (Nat.le_refl _))).mono ?_
  rintro e z5 ⟨rfl, hb1⟩
  have HW := Lib.hid (HW.out.trans (hb1.mono HW.out.size))
  clear hb1
  obtain ⟨bv, hbv⟩ : ∃ z, decide (v = w) = z := ⟨_, rfl⟩
  rw [hbv]
  clear hbv
  have hcc : (bv == bv) = true := by simp
  go_wp2_with fail
  refine (sSame HW.out.size (HA.out.mono HW.out (Nat.le_refl _)) (HA.out.mono HW.out (Nat.le_refl _))).mono ?_
  rintro e z6 ⟨rfl, hb1⟩
  rw [decide_eq_true rfl]
  have HW := Lib.hid (HW.out.trans (hb1.mono HW.out.size))
  clear hb1 hcc
  have HT8 := Lib.hid ((HT.out.on HW.out).less HW.out.size)
  have hN2 : v.length ≤ 200 := by have := HN60.out; omega
  have HN2 := Lib.hid hN2
  clear hN2 hN6
  go_wp2_with fail
  refine (sLines HW.out.size (HA.out.mono HW.out (Nat.le_refl _)) (Nat.le_trans HN2.out (by decide)) HT8.out).mono ?_
  rintro e z7 ⟨rfl, hb1⟩
  have HW := Lib.hid (HW.out.trans (hb1.mono HW.out.size))
  clear hb1
  go_wp2_with fail
  refine (rLines HW.out.size (HA.out.mono HW.out (Nat.le_refl _)) HN2.out).mono ?_
  rintro e z8 ⟨rfl, hb1⟩
  have HW := Lib.hid (HW.out.trans (hb1.mono HW.out.size))
  clear hb1
  obtain ⟨S, hS⟩ : ∃ z, (⟨(linesT v).toArray⟩ : ByteArray) = z := ⟨_, rfl⟩
  rw [hS]
  clear hS
  have hcc : (S.toList == S.toList) = true := by simp
  go_wp2
  go_ret
  exact ⟨rfl, HW.out⟩
end Go.Proofs.YtgmdlnobajmjfaaDoor
