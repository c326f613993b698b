/- A table: Len, Series; kit.Series, Win, Ints, Set; a table that nobody made. -/
import Derived.Test.YtkheeiipkdeihaaNt10
import Derived.Test.YtkheeiipkdeihaaIter4
import Derived.Test.YtkheeiipkdeihaaLa7
namespace Go.Proofs.Ytkheeiipkdeihaa
open Go.RowKit
set_option linter.unusedSimpArgs false
set_option linter.unusedVariables false
open Go.Maps

set_option maxHeartbeats 1000000 in
theorem kInts (la lb : List Int) (va vb : Value) (n : Nat) (w : World) (hn : n ≤ w.heap.size) (ha : IsInts n w va la) (hb : IsInts n w vb lb) :
    Calls Try.prog 19 #[va, vb] w fun e w' => e = .returned (.bool (decide (la = lb))) ∧ Below w.heap.size w w' := by
  obtain ⟨p, cap, rfl, _, _, hla⟩ := ha.open
  obtain ⟨q, cbp, rfl, _, _, hlb⟩ := hb.open
  unfold maxLen at hla hlb
  by_cases hl : la.length = lb.length
  · have Hl := Lib.hid hl; clear hl
    have hl : ((la.length : Int) != (lb.length : Int)) = false := by simp [Hl.out]
    go_enter Try.func19, Try.ntmps19; (try simp only [List.append_eq, List.cons_append, List.nil_append])
    go_wp2
    go_loopw [5] (fun i wr => ∃ k : Nat, k ≤ la.length ∧ i = .int .i64 k ∧ la.take k = lb.take k ∧ Below w.heap.size w wr) (fun i _ => la.length - (intOf i).toNat)
    case atStart => exact ⟨0, Nat.zero_le _, rfl, by simp, Below.refl _ _⟩
    case round =>
      obtain ⟨k, hk, rfl, hr, hbl⟩ := hrel
      have Hr := Lib.hid hr; clear hr
      have Hb := Lib.hid hbl; clear hbl
      by_cases hlt : k < la.length
      · have hltb : k < lb.length := by have := Hl.out; omega
        obtain ⟨b, off, rfl, hbn, h1⟩ := (ha.mono (Hb.out.mono hn) (Nat.le_refl _)).get hlt
        obtain ⟨b', off', rfl, hbn', h1'⟩ := (hb.mono (Hb.out.mono hn) (Nat.le_refl _)).get hltb
        have Ha := Lib.hid ha; clear ha
        have Hbb := Lib.hid hb; clear hb
        have Hno := Lib.hid (fun h => ne_of_at' (a := la) (b := lb) (k := k) hlt hltb h)
        have Hyes := Lib.hid (fun h => take_eq_step' (a := la) (b := lb) (k := k) Hr.out hlt hltb h)
        generalize la[k] = x at *
        generalize lb[k] = y at *
        by_cases e1 : x = y
        · have g1 : (x != y) = false := by simp [e1]
          have E1 := Lib.hid e1; clear e1
          go_wp2
          go_quiet (fail)
          go_wp2
          exact ⟨⟨k + 1, by omega, by go_num, Hyes.out E1.out, below_drewN Hb.out _⟩, by simp [intOf]; omega⟩
        · have g1 : (x != y) = true := by simp [e1]
          have E1 := Lib.hid e1; clear e1
          go_wp2
          go_quiet (fail)
          go_wp2
          go_ret
          exact ⟨ret_bool (Eq.symm (decide_eq_false (Hno.out E1.out))), below_drewN Hb.out _⟩
      · go_wp2
        go_ret
        refine ⟨ret_bool (Eq.symm (decide_eq_true ?_)), Hb.out⟩
        have hk' : k = la.length := by omega
        subst hk'
        exact eq_of_upto' Hl.out Hr.out
  · have hl' : ((la.length : Int) != (lb.length : Int)) = true := by simp; omega
    go_enter Try.func19, Try.ntmps19; (try simp only [List.append_eq, List.cons_append, List.nil_append])
    go_wp2
    go_ret
    exact ⟨ret_bool (Eq.symm (decide_eq_false (fun e => hl (by rw [e])))), Below.refl _ _⟩

def laX : Lab := ⟨⟨#[97]⟩, ⟨#[120]⟩⟩
def SetX (W : World) (e : Ending) (w' : World) : Prop := ∃ p c, e = .returned (.slice p 1 c) ∧ OwnL W.heap.size w' (.slice p 1 c) [laX] ∧ Below W.heap.size W w'
set_option maxRecDepth 100000 in
set_option maxHeartbeats 1000000 in
theorem kSetX (W : World) : Calls Try.prog 37 #[.string ⟨#[120]⟩, .string ⟨#[]⟩] W (SetX W) := by
  obtain ⟨i0, hi, hz0, hz1, hz2⟩ := info_parts infoLab
  go_enter Try.func37, Try.ntmps37; (try simp only [List.append_eq, List.cons_append, List.nil_append])
  go_wp2_with (at_builtin; refine wpList_append_src _ rfl _ _ _ rfl W.heap.size 63 i0 _ 2 32 Try.underlying31 hi hz0 hz1 hz2 rfl (by decide) (.slice none 0 0) 0 [] rfl (World.ownsRow_nil _ _ _ _) (.slice (some ⟨W.heap.size, 0, none⟩) 1 1) 1 [.string ⟨#[97]⟩, .string ⟨#[120]⟩] rfl (srcB (Blk.new W [.string ⟨#[97]⟩, .string ⟨#[120]⟩] 63) rfl) (by intro u hu; simp at hu; rcases hu with rfl | rfl <;> rfl) (by decide) (by decide) (by simp) ?_)
  intro v3 w3 hown3 hgr3 _
  have hb := ((Below.refl W.heap.size W).alloc (Nat.le_refl _) (.cells #[.string ⟨#[97]⟩, .string ⟨#[120]⟩] 63)).grown hgr3 (by simp) (by simp [Value.ownBlock])
  have hown : OwnL W.heap.size w3 v3 [laX] := hown3
  obtain ⟨p, c, rfl⟩ := ownsRow_slice hown
  have HO := Lib.hid hown
  have HB := Lib.hid hb
  clear hown3 hgr3 hb hown
  go_wp2
  go_ret
  exact ⟨p, c, rfl, HO.out, HB.out⟩
def winE (fn span : Int) : Ex := .mk 1 fn 0 0 ⟨#[99, 112, 117]⟩ [] span [] []
theorem win_is2 (fn span : Int) (n : Nat) (w : World) : IsEx n w (winE fn span) [.int .i64 1, .int .i64 fn, .int .i64 0, .int .i64 0, .string ⟨#[99, 112, 117]⟩, .slice none 0 0, .int .i64 span, .slice none 0 0, .slice none 0 0] :=
  .mk (rows := []) (by decide) ⟨Arr.nil _ _ _, by simp⟩ ⟨Arr.nil _ _ _, by simp⟩ (Arr.nil _ _ _) rfl (fun k r e hr _ => by simp at hr)
theorem xWin (fn span : Int) (w : World) : Calls Try.prog 14 #[.int .i64 fn, .int .i64 span] w fun e' w' =>
    e' = .returned (.agg #[.int .i64 1, .int .i64 fn, .int .i64 0, .int .i64 0, .string ⟨#[99, 112, 117]⟩, .slice none 0 0, .int .i64 span, .slice none 0 0, .slice none 0 0]) ∧ Below w.heap.size w w' := by
  go_enter Try.func14, Try.ntmps14; (try simp only [List.append_eq, List.cons_append, List.nil_append])
  go_wp2
  exact bodyPost_agg (g := w.heap.size) (fr := (0, 0)) rfl rfl (World.alloc_heap_new w _) Try.underlying45 rfl (by kernel_rfl) rfl ⟨rfl, (Below.refl _ _).alloc (Nat.le_refl _) _⟩
/-! ### a table that nobody made -/
theorem tLen0 (W : World) : Calls Try.prog 12 #[.pointer none] W fun e w' => e = .returned (.int .i64 0) ∧ w' = W := by
  go_enter Try.func12, Try.ntmps12; (try simp only [List.append_eq, List.cons_append, List.nil_append])
  go_wp2_with fail
  refine (tRight0 W).mono ?_
  rintro e w1 ⟨rfl, rfl⟩
  go_wp2
  go_ret
  exact ⟨rfl, rfl⟩
set_option maxRecDepth 100000 in
theorem tPut0 (m : ByteArray) (v : Value) (hv : v.oneCell' = true) (W : World) : Calls Try.prog 8 #[.pointer none, .agg #[.string m, v]] W fun e w' => e = .returned (.tuple #[.int .i64 0, .int .i64 1]) ∧ Below W.heap.size W w' := by
  go_enter Try.func8, Try.ntmps8; (try simp only [List.append_eq, List.cons_append, List.nil_append])
  go_wp2_with fail
  refine (tRight0 _).mono ?_
  rintro e w1 ⟨rfl, rfl⟩
  go_wp2
  go_ret2
  exact ⟨rfl, (Below.refl _ _).alloc (Nat.le_refl _) _⟩
set_option maxRecDepth 100000 in
theorem tFind0 (m : ByteArray) (v : Value) (hv : v.oneCell' = true) (W : World) : Calls Try.prog 15 #[.pointer none, .agg #[.string m, v]] W fun e w' => e = .returned (.tuple #[.int .i64 0, .bool false]) ∧ Below W.heap.size W w' := by
  go_enter Try.func15, Try.ntmps15; (try simp only [List.append_eq, List.cons_append, List.nil_append])
  go_wp2_with fail
  refine (tRight0 _).mono ?_
  rintro e w1 ⟨rfl, rfl⟩
  go_wp2
  go_ret2
  exact ⟨rfl, (Below.refl _ _).alloc (Nat.le_refl _) _⟩
set_option maxRecDepth 100000 in
theorem tSeries0 (n : Int) (W : World) : Calls Try.prog 10 #[.pointer none, .int .i64 n] W fun e w' => e = .returned (.tuple #[.agg #[.string ⟨#[]⟩, .slice none 0 0], .bool false]) ∧ Below W.heap.size W w' := by
  go_enter Try.func10, Try.ntmps10; (try simp only [List.append_eq, List.cons_append, List.nil_append])
  go_wp2_with fail
  refine (tRight0 _).mono ?_
  rintro e w1 ⟨rfl, rfl⟩
  go_wp2
  exact bodyPost_agg_tmp (d := _) rfl rfl (World.alloc_heap_new W _) Try.underlying33 rfl (by kernel_rfl) rfl ⟨rfl, (Below.refl _ _).alloc (Nat.le_refl _) _⟩
set_option maxRecDepth 100000 in
theorem tTakes0 (fn sp : Int) (W : World) : Calls Try.prog 13 #[.pointer none, .agg #[.int .i64 1, .int .i64 fn, .int .i64 0, .int .i64 0, .string ⟨#[99, 112, 117]⟩, .slice none 0 0, .int .i64 sp, .slice none 0 0, .slice none 0 0]] W fun e w' => e = .returned (.slice none 0 0) ∧ Below W.heap.size W w' := by
  go_enter Try.func13, Try.ntmps13; (try simp only [List.append_eq, List.cons_append, List.nil_append])
  go_wp2_with fail
  refine (tRight0 _).mono ?_
  rintro e w1 ⟨rfl, rfl⟩
  go_wp2
  go_ret
  exact ⟨rfl, ((Below.refl _ _).alloc (Nat.le_refl _) _).alloc (by simp) _⟩
theorem tWith0 (a b : ByteArray) (W : World) : Calls Try.prog 16 #[.pointer none, .string a, .string b] W fun e w' => e = .returned (.slice none 0 0) ∧ w' = W := by
  go_enter Try.func16, Try.ntmps16; (try simp only [List.append_eq, List.cons_append, List.nil_append])
  go_wp2_with fail
  refine (tRight0 W).mono ?_
  rintro e w1 ⟨rfl, rfl⟩
  go_wp2
  go_ret
  exact ⟨rfl, rfl⟩
theorem tBytes0 (W : World) : Calls Try.prog 17 #[.pointer none] W fun e w' => e = .returned (.slice none 0 0) ∧ w' = W := by
  go_enter Try.func17, Try.ntmps17; (try simp only [List.append_eq, List.cons_append, List.nil_append])
  go_wp2_with fail
  refine (tRight0 W).mono ?_
  rintro e w1 ⟨rfl, rfl⟩
  go_wp2
  go_ret
  exact ⟨rfl, rfl⟩
theorem tLen {Fr : Nat → Prop} {W : World} {g c : Nat} {T : List Sr} (h : TabM Fr W g T c) (hT : T.length ≤ 1000) : Calls Try.prog 12 #[.pointer (some ⟨g, 0, none⟩)] W fun e w' => e = .returned (.int .i64 T.length) ∧ w' = W := by
  obtain ⟨lv, hb, hm, hx, G, F, hA⟩ := h
  obtain ⟨A, cA, rfl⟩ := hA.rows.slice
  have HA := Lib.hid hA
  have g0 := hA.blk.cell 0 _ rfl; have hgl := hA.blk.lt
  clear hA
  go_enter Try.func12, Try.ntmps12; (try simp only [List.append_eq, List.cons_append, List.nil_append])
  go_wp2_with fail
  refine (tRight HA.out.blk).mono ?_
  rintro e w1 ⟨rfl, rfl⟩
  go_wp2
  go_ret
  exact ⟨rfl, rfl⟩
def SerP (W : World) (s : Sr) (e : Ending) (w' : World) : Prop := ∃ p c, e = .returned (.tuple #[.agg #[.string s.metric, .slice p s.labs.length c], .bool true]) ∧ OwnL W.heap.size w' (.slice p s.labs.length c) s.labs ∧ Below W.heap.size W w'
set_option maxRecDepth 100000 in
set_option maxHeartbeats 4000000 in
theorem tSeries {Fr : Nat → Prop} {W : World} {g c k : Nat} {T : List Sr} {s : Sr} (h : TabM Fr W g T c) (hT : T.length ≤ 1000) (hk : T[k]? = some s) (hsm : ∀ x ∈ s.labs, x.small) (h8 : s.labs.length ≤ 8) :
    Calls Try.prog 10 #[.pointer (some ⟨g, 0, none⟩), .int .i64 ((k : Int) + 1)] W (SerP W s) := by
  obtain ⟨lv, hb, hm, hx, G, F, hA⟩ := h
  obtain ⟨A, cA, rfl⟩ := hA.rows.slice
  obtain ⟨b, v, rfl, hbl, d0, d1, hL⟩ := hA.rows.get hk
  obtain ⟨p, cp, rfl⟩ := ownsRow_slice hL
  have hkl := (List.getElem?_eq_some_iff.1 hk).1
  have HSM := Lib.hid hsm; have HLAB := Lib.hid hL
  have g0 := hA.blk.cell 0 _ rfl; have hgl := hA.blk.lt
  have HBLK := Lib.hid hA.blk
  obtain ⟨LT, hLT⟩ : ∃ z, T.length = z := ⟨_, rfl⟩
  rw [hLT] at g0 hT hkl
  have hki : (k : Int) < (LT : Int) := by omega
  have hk1 : ¬ ((k : Int) + 1 < 1) := by omega
  have hk2 : ¬ ((LT : Int) < (k : Int) + 1) := by omega
  obtain ⟨m, l⟩ := s
  simp only at d0 d1 hL HSM HLAB h8
  obtain ⟨N, hN⟩ : ∃ z, l.length = z := ⟨_, rfl⟩
  have HNL := Lib.hid hN
  rw [hN] at d1 h8
  rw [hN] at HLAB
  clear hA hk hL hsm hLT hN
  have H0 := Lib.hid (Below.refl W.heap.size W)
  unfold SerP
  simp only
  rw [HNL.out]
  go_enter Try.func10, Try.ntmps10; (try simp only [List.append_eq, List.cons_append, List.nil_append])
  go_upto_region 1 with fail
  have kz := Blk.new W [.string ⟨#[]⟩, .slice none 0 0] 33
  have hr : Below W.heap.size W (W.alloc (.cells #[.string ⟨#[]⟩, .slice none 0 0] 33)) := (Below.refl _ _).alloc (Nat.le_refl _) _
  obtain ⟨B, hB⟩ : ∃ z, W.heap.size = z := ⟨_, rfl⟩
  obtain ⟨Y, hY⟩ : ∃ z, W.alloc (.cells #[.string ⟨#[]⟩, .slice none 0 0] 33) = z := ⟨_, rfl⟩
  rw [show W.alloc (.cells ([.string ⟨#[]⟩, .slice none 0 0] : List Value).toArray 33) = Y from hY] at kz
  rw [hY] at hr ⊢
  have d0 := (hr.cell (p := ⟨b, k * 2, none⟩) hbl).trans d0; have d1 := (hr.cell (p := ⟨b, k * 2 + 1, none⟩) hbl).trans d1
  have g0 := (hr.cell (p := ⟨g, 0, none⟩) hgl).trans g0
  have HBLK := Lib.hid (HBLK.out.keep hr)
  have HLAB := Lib.hid (show OwnL 0 Y (.slice p N cp) l from ownsRow_keep HLAB.out hr)
  have hbl := Nat.lt_of_lt_of_le hbl hr.size; have hgl := Nat.lt_of_lt_of_le hgl hr.size
  have HW := Lib.hid hr
  rw [show (Value.pointer (some ⟨W.heap.size, 0, none⟩)) = .pointer (some ⟨B, 0, none⟩) by rw [hB]]
  rw [hB] at kz
  have HBW := Lib.hid hB
  have KZ := Lib.hid kz
  clear hY hB hr kz
  go_wp2_with fail
  refine (tRight HBLK.out).mono ?_
  rintro e w1 ⟨rfl, hw1⟩
  subst hw1
  obtain ⟨Y, rfl⟩ : ∃ z, z = w1 := ⟨_, rfl⟩
  go_upto_region 4 with fail
  have k6 := Blk.new Y [.string m, .slice p N cp] 33
  have hr : Below Y.heap.size Y (Y.alloc (.cells #[.string m, .slice p N cp] 33)) := (Below.refl _ _).alloc (Nat.le_refl _) _
  have HW1 := Lib.hid (HW.out.trans (hr.mono HW.out.size))
  have KZ1 := Lib.hid (KZ.out.keep hr)
  have HLAB1 := Lib.hid (show OwnL 0 _ (.slice p N cp) l from ownsRow_keep HLAB.out hr)
  have hBY := KZ.out.lt
  obtain ⟨B2, hB2⟩ : ∃ z, Y.heap.size = z := ⟨_, rfl⟩
  obtain ⟨Y2, hY2⟩ : ∃ z, Y.alloc (.cells #[.string m, .slice p N cp] 33) = z := ⟨_, rfl⟩
  rw [show Y.alloc (.cells ([.string m, .slice p N cp] : List Value).toArray 33) = Y2 from hY2] at k6
  rw [hY2] at HW1 KZ1 HLAB1 ⊢
  rw [hB2] at k6 hBY ⊢
  have HWB := Lib.hid (show W.heap.size ≤ B2 by rw [← hB2]; exact HW.out.size)
  have K6 := Lib.hid k6
  have c0 := k6.cell 0 _ rfl; have c1 := k6.cell 1 _ rfl; have hB2l := k6.lt
  clear hY2 hB2 hr k6 d0 d1 g0 hbl hgl HBLK HLAB KZ HW
  go_wp2_with fail
  refine Calls.mono (R := fun e' w' => ∃ v', e' = .returned v' ∧ OwnL Y2.heap.size w' v' l ∧ Below Y2.heap.size Y2 w') (by
    have h := cloneAny (l := l) (p := p) (cap := cp) (n := Y2.heap.size) (w := Y2) (Nat.le_refl _) (by
      have h1 := HLAB1.out
      have h2 := OwnL.labs (m := Y2.heap.size) h1 (Nat.le_refl _) HSM.out
      rw [HNL.out]; exact h2) (by rw [HNL.out]; omega)
    rw [HNL.out] at h
    exact h) ?_
  rintro e w3 ⟨v3, rfl, hown, hb3⟩
  obtain ⟨pv, cv, rfl⟩ := ownsRow_slice hown
  have HW3 := Lib.hid (HW1.out.trans (hb3.mono HW1.out.size))
  have KZ3 := Lib.hid (KZ1.out.keep hb3)
  have K63 := Lib.hid (K6.out.keep hb3)
  have HO3 := Lib.hid (show OwnL W.heap.size w3 (.slice pv l.length cv) l from ownsRow_base hown HW1.out.size)
  rw [HNL.out] at HO3 ⊢
  have hwb2 := HWB.out
  have e1 := K63.out.cell 1 _ rfl; have e1f := K63.out.free 1; have hB3l := K63.out.lt
  clear hown hb3 c0 c1 hB2l KZ1 HLAB1
  go_upto_region 5 with fail
  have k7 := K63.out.set_ 1 (.slice pv N cv)
  simp only [List.set_cons_succ, List.set_cons_zero] at k7
  have hneB : B ≠ B2 := by omega
  have kz7 := KZ3.out.far (p := ⟨B2, 1, none⟩) hneB (.slice pv N cv)
  have hoc := OffM.cell1 w3 B2 1 (.slice pv N cv)
  have ho7 := HO3.out.offM hoc (fun k e cur hk => by
    subst e
    exact absurd (K63.out.ty hk) (by decide))
  have hW7 : Below W.heap.size W (w3.setCell ⟨B2, 1, none⟩ (.slice pv N cv)) := HW3.out.trans (hoc.below (fun k e => by omega) HW3.out.size)
  obtain ⟨w7, hw7⟩ : ∃ z, w3.setCell ⟨B2, 1, none⟩ (.slice pv N cv) = z := ⟨_, rfl⟩
  rw [hw7] at k7 kz7 ho7 hW7 ⊢
  have HK7 := Lib.hid k7; have HZ7 := Lib.hid kz7; have HO7 := Lib.hid ho7; have HW7 := Lib.hid hW7
  have f0 := k7.cell 0 _ rfl; have f1 := k7.cell 1 _ rfl; have f2 := k7.lt
  clear hw7 k7 kz7 ho7 hW7 hoc e1 e1f hB3l
  go_wp2_with (refine wpList_store_row rfl 33 _ _ rfl B #[.string m, .slice pv N cv] rfl rfl 33 #[.string ⟨#[]⟩, .slice none 0 0] HZ7.out (by kernel_rfl) rfl (by kernel_rfl) ?_)
  have hrow := HZ7.out.row [.string m, .slice pv N cv]
  have hor := HO7.out.offM (OffM.row w7 B #[.string m, .slice pv N cv]) (fun k e cur hk => by
    subst e
    exact absurd (HZ7.out.ty hk) (by decide))
  exact bodyPost_agg_tmp (d := _) rfl rfl hrow Try.underlying33 rfl (by kernel_rfl) rfl ⟨pv, cv, rfl, hor, below_setRow HW7.out (by rw [← HBW.out]; exact Nat.le_refl _) _⟩
end Go.Proofs.Ytkheeiipkdeihaa
