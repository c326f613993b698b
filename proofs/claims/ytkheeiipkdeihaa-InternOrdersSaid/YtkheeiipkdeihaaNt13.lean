/- (*Table).Takes of a leaf without matchers: the walk. -/
import Derived.Test.YtkheeiipkdeihaaNt12
namespace Go.Proofs.Ytkheeiipkdeihaa
open Go.RowKit
set_option linter.unusedSimpArgs false
set_option linter.unusedVariables false
open Go.Maps

def GoodIds (T : List Sr) (l : List Int) : Prop := ∀ i ∈ l, ∃ (k : Nat) (s : Sr), i = (k : Int) + 1 ∧ T[k]? = some s ∧ okS s = 0
theorem good_ids {T : List Sr} (h : ∀ s ∈ T, okS s = 0) (m : ByteArray) : GoodIds T (idsOf m T) := fun i hi => by
  obtain ⟨h1, h2⟩ := idsOf_bd hi
  have hl : (i - 1).toNat < T.length := by omega
  exact ⟨(i - 1).toNat, T[(i - 1).toNat], by omega, List.getElem?_eq_getElem hl, h _ (List.getElem_mem hl)⟩
theorem ok_small {s : Sr} (h : okS s = 0) : ∀ x ∈ s.labs, x.small := fun x hx => by
  have := (okS_fit h).labs x hx
  unfold Lab.small maxLen
  omega
set_option maxRecDepth 100000 in
set_option maxHeartbeats 1000000 in
theorem idxT {Fr : Nat → Prop} {W : World} {g c eB tB n : Nat} {T : List Sr} {l : List Int} {v : Value} {cs : List Value} (h : TabM Fr W g T c) (hT : T.length ≤ 1000) (hG : GoodIds T l) (hn : n ≤ W.heap.size) (hv : IsInts n W v l)
    (he : Blk W eB 45 cs) (h5 : cs[5]? = some (.slice none 0 0)) (ht : W.cell? ⟨tB, 0, none⟩ = some (.pointer (some ⟨g, 0, none⟩))) :
    Calls Try.prog 48 #[v, .func (.func 32) #[] #[.pointer (some ⟨eB, 0, none⟩), .pointer (some ⟨tB, 0, none⟩)]] W fun e w' => e = .returned (.int .i64 (-1)) ∧ Below W.heap.size W w' := by
  obtain ⟨p, cap, rfl, _, _, hl⟩ := hv.open
  unfold maxLen at hl
  have htl := World.block_lt_of_cell? W _ ht
  have HC := Lib.hid (fun (k : Nat) (s : Sr) X (hX : Below W.heap.size W X) (hk : T[k]? = some s) (hok : okS s = 0) => tkCl (h.keep hX) hT hk hok (ok_small hok) (he.keep hX) h5 ((hX.cell (p := ⟨tB, 0, none⟩) htl).trans ht))
  have H := Lib.hid hv; have HG := Lib.hid hG; have HN := Lib.hid hn
  clear h hv he ht hT h5 hG hn
  go_enter Try.func48, Try.ntmps48; (try simp only [List.append_eq, List.cons_append, List.nil_append])
  go_upto_region 2 with fail
  go_loopw [8] (fun i wr => ∃ k : Nat, k ≤ l.length ∧ i = .int .i64 k ∧ Below W.heap.size W wr) (fun i _ => l.length - (intOf i).toNat)
  case atStart => exact ⟨0, Nat.zero_le _, rfl, Below.refl _ _⟩
  case round =>
    obtain ⟨k, hk, rfl, hb⟩ := hrel
    have Hb := Lib.hid hb; clear hb
    have hsb := Hb.out.size
    by_cases hlt : k < l.length
    · obtain ⟨b, off, rfl, hbn, h1⟩ := (H.out.mono (Hb.out.mono HN.out) (Nat.le_refl _)).get hlt
      obtain ⟨kk, s, hx, hk1, hk2⟩ := HG.out _ (List.getElem_mem hlt)
      rw [hx] at h1
      have HCx := Lib.hid (HC.out kk s _ Hb.out hk1 hk2)
      clear hk1 hk2 hx
      go_wp2_with (go_at_call 32; refine HCx.out.mono ?_; rintro e w' ⟨rfl, hb⟩; have HB2 := Lib.hid (Hb.out.trans (hb.mono hsb)); clear hb)
      exact ⟨⟨k + 1, by omega, by go_num, HB2.out⟩, by simp [intOf]; omega⟩
    · have hk' : k = l.length := by omega
      subst hk'
      go_wp2
      go_ret
      exact ⟨rfl, Hb.out⟩
set_option maxRecDepth 100000 in
theorem delT {Fr : Nat → Prop} {W : World} {g c eB tB n : Nat} {T : List Sr} {l : List Int} {v : Value} {cs : List Value} (h : TabM Fr W g T c) (hT : T.length ≤ 1000) (hG : GoodIds T l) (hn : n ≤ W.heap.size) (hv : IsInts n W v l)
    (he : Blk W eB 45 cs) (h5 : cs[5]? = some (.slice none 0 0)) (ht : W.cell? ⟨tB, 0, none⟩ = some (.pointer (some ⟨g, 0, none⟩))) :
    Calls Try.prog 30 #[v, .func (.func 32) #[] #[.pointer (some ⟨eB, 0, none⟩), .pointer (some ⟨tB, 0, none⟩)]] W fun e w' => e = .returned v ∧ Below W.heap.size W w' := by
  have HI := Lib.hid (idxT h hT hG hn hv he h5 ht)
  obtain ⟨p, cap, rfl, -, -, -⟩ := hv.open
  clear h hv he ht hT h5 hG hn
  go_enter Try.func30, Try.ntmps30; (try simp only [List.append_eq, List.cons_append, List.nil_append])
  go_wp2_with fail
  refine HI.out.mono ?_
  rintro e w1 ⟨rfl, hb⟩
  have HB := Lib.hid hb; clear hb
  go_wp2
  go_ret
  exact ⟨rfl, HB.out⟩
theorem win_size (fn sp : Int) : (winE fn sp).size ≤ 1000000 := by show 1 + 0 ≤ 1000000; omega
set_option maxRecDepth 100000 in
set_option maxHeartbeats 4000000 in
theorem tTakes {Fr : Nat → Prop} {W : World} {g c : Nat} {T : List Sr} (h : TabM Fr W g T c) (hT : T.length ≤ 1000) (fn sp : Int) (hck : checkExpr (winE fn sp) = 0) :
    Calls Try.prog 13 #[.pointer (some ⟨g, 0, none⟩), .agg #[.int .i64 1, .int .i64 fn, .int .i64 0, .int .i64 0, .string ⟨#[99, 112, 117]⟩, .slice none 0 0, .int .i64 sp, .slice none 0 0, .slice none 0 0]] W fun e w' => ∃ v', e = .returned v' ∧ OwnI 3 W.heap.size w' v' (idsOf ⟨#[99, 112, 117]⟩ T) ∧ Below W.heap.size W w' := by
  have HCE := Lib.hid (fun (X : World) => aCheckExpr (winE fn sp) _ X.heap.size X (Nat.le_refl _) (win_is2 fn sp _ X) (win_size fn sp))
  have HT := Lib.hid h; have HTL := Lib.hid hT
  obtain ⟨L, hL⟩ : ∃ z, idsOf ⟨#[99, 112, 117]⟩ T = z := ⟨_, rfl⟩
  rw [hL]
  have HIL := Lib.hid hL
  clear h hT hL
  go_enter Try.func13, Try.ntmps13; (try simp only [List.append_eq, List.cons_append, List.nil_append])
  go_upto_region 1 with fail
  have kt := Blk.new W [.pointer (some ⟨g, 0, none⟩)] 25
  have b1 : Below W.heap.size W (W.alloc (.cells #[.pointer (some ⟨g, 0, none⟩)] 25)) := (Below.refl _ _).alloc (Nat.le_refl _) _
  have s1 : (W.alloc (.cells #[.pointer (some ⟨g, 0, none⟩)] 25)).heap.size = W.heap.size + 1 := World.size_alloc _ _
  obtain ⟨w1, hw1⟩ : ∃ z, W.alloc (.cells #[.pointer (some ⟨g, 0, none⟩)] 25) = z := ⟨_, rfl⟩
  rw [show W.alloc (.cells ([.pointer (some ⟨g, 0, none⟩)] : List Value).toArray 25) = w1 from hw1] at kt
  rw [hw1] at b1 s1 ⊢
  have ke := Blk.new w1 [.int .i64 1, .int .i64 fn, .int .i64 0, .int .i64 0, .string ⟨#[99, 112, 117]⟩, .slice none 0 0, .int .i64 sp, .slice none 0 0, .slice none 0 0] 45
  have b2 : Below w1.heap.size w1 (w1.alloc (.cells #[.int .i64 1, .int .i64 fn, .int .i64 0, .int .i64 0, .string ⟨#[99, 112, 117]⟩, .slice none 0 0, .int .i64 sp, .slice none 0 0, .slice none 0 0] 45)) := (Below.refl _ _).alloc (Nat.le_refl _) _
  obtain ⟨Y, hY⟩ : ∃ z, w1.alloc (.cells #[.int .i64 1, .int .i64 fn, .int .i64 0, .int .i64 0, .string ⟨#[99, 112, 117]⟩, .slice none 0 0, .int .i64 sp, .slice none 0 0, .slice none 0 0] 45) = z := ⟨_, rfl⟩
  rw [show w1.alloc (.cells ([.int .i64 1, .int .i64 fn, .int .i64 0, .int .i64 0, .string ⟨#[99, 112, 117]⟩, .slice none 0 0, .int .i64 sp, .slice none 0 0, .slice none 0 0] : List Value).toArray 45) = Y from hY] at ke
  rw [hY] at b2 ⊢
  have HKT := Lib.hid (kt.keep b2)
  have HW := Lib.hid (b1.trans (b2.mono b1.size))
  rw [s1] at ke
  have HKE := Lib.hid ke
  have HT1 := Lib.hid (HT.out.keep HW.out)
  obtain ⟨tB, htB⟩ : ∃ z, W.heap.size = z := ⟨_, rfl⟩
  rw [show (Value.pointer (some ⟨W.heap.size, 0, none⟩)) = .pointer (some ⟨tB, 0, none⟩) by rw [htB]]
  rw [show (Value.pointer (some ⟨W.heap.size + 1, 0, none⟩)) = .pointer (some ⟨tB + 1, 0, none⟩) by rw [htB]]
  rw [htB] at HKT HKE
  obtain ⟨eB, heB⟩ : ∃ z, tB + 1 = z := ⟨_, rfl⟩
  rw [heB] at HKE ⊢
  clear kt ke b1 b2 s1 hw1 hY heB htB HT
  have t0 := HKT.out.cell 0 _ rfl; have tl := HKT.out.lt
  have e0 := HKE.out.cell 0 _ rfl; have e1 := HKE.out.cell 1 _ rfl; have e2 := HKE.out.cell 2 _ rfl; have e3 := HKE.out.cell 3 _ rfl; have e4 := HKE.out.cell 4 _ rfl; have e5 := HKE.out.cell 5 _ rfl; have e6 := HKE.out.cell 6 _ rfl; have e7 := HKE.out.cell 7 _ rfl; have e8 := HKE.out.cell 8 _ rfl; have el := HKE.out.lt
  go_wp2_with fail
  refine (show Calls Try.prog 21 _ _ _ from by obtain ⟨lv, hb, hm, hx, G, F, hA⟩ := HT1.out; exact tRight hA.blk).mono ?_
  rintro e w2 ⟨rfl, hw2⟩
  subst hw2
  obtain ⟨Y, rfl⟩ : ∃ z, z = w2 := ⟨_, rfl⟩
  go_wp2_with fail
  refine (HCE.out Y).mono ?_
  rintro e w2 ⟨rfl, hb2⟩
  rw [hck]
  have HW2 := Lib.hid (HW.out.trans (hb2.mono HW.out.size))
  have HKT2 := Lib.hid (HKT.out.keep hb2)
  have HKE2 := Lib.hid (HKE.out.keep hb2)
  have HT2 := Lib.hid (HT1.out.keep hb2)
  clear hb2 t0 tl e0 e1 e2 e3 e4 e5 e6 e7 e8 el HW HKT HKE HT1
  go_upto_region 3 with fail
  obtain ⟨lv, hb, hm, hx, G, F, hA⟩ := id HT2.out
  have g2 := hA.blk.cell 2 _ rfl; have hgl := hA.blk.lt
  obtain ⟨v27, hv27, -, hlk, -⟩ := hA.met.look (m := ⟨#[99, 112, 117]⟩) (by decide)
  have hml := hA.met.lt
  have HGI := Lib.hid (good_ids hA.good ⟨#[99, 112, 117]⟩)
  have HLEN := Lib.hid (Nat.le_trans (idsOf_len ⟨#[99, 112, 117]⟩ T) HTL.out)
  rw [HIL.out] at hv27 HGI HLEN
  obtain ⟨p27, c27, rfl⟩ := ownsRow_slice hv27
  obtain ⟨N, hN⟩ : ∃ z, L.length = z := ⟨_, rfl⟩
  have HNL := Lib.hid hN
  rw [hN] at hlk hv27
  have HV := Lib.hid hv27
  have G2 := Lib.hid g2; have T0 := Lib.hid (HKT2.out.cell 0 _ rfl); have E4 := Lib.hid (HKE2.out.cell 4 _ rfl)
  have htl := HKT2.out.lt; have hel := HKE2.out.lt
  have HLK := Lib.hid hlk
  clear hA g2 hN hv27 hlk
  refine wp_region_held_drew (S := fun w => Below w2.heap.size w2 w) (by kernel_rfl) (Below.drew (Below.refl _ _)) (fun hHeld => ?_)
  have HS := Lib.hid (Below.drew (Below.refl w2.heap.size w2))
  clear hHeld
  have hSS := HS.out
  obtain ⟨X2, hX2⟩ : ∃ z, w2.drew = z := ⟨_, rfl⟩
  rw [hX2] at HS hSS ⊢
  clear hX2
  (refine held_take 0 21 (.pointer (some ⟨g, 0, none⟩)) rfl rfl (by kernel_rfl) (by kernel_rfl) (by kernel_rfl) (fun _ _ _ h => h) (by kernel_rfl) ?_ (by assumption) ?_; (intro w hSw; have f1 := (hSw.cell (p := ⟨tB, 0, none⟩) htl).trans T0.out; clear hSw; first | rfl | go_simp); (try simp only [List.set_cons_zero, List.set_cons_succ]))
  (refine held_take 1 22 (.pointer (some ⟨g, 0, none⟩)) rfl rfl (by kernel_rfl) (by kernel_rfl) (by kernel_rfl) (fun _ _ _ h => h) (by kernel_rfl) ?_ (by assumption) ?_; (intro w hSw; clear hSw; first | rfl | go_simp); (try simp only [List.set_cons_zero, List.set_cons_succ]))
  (refine held_take 2 23 (.pointer (some ⟨g, 2, none⟩)) rfl rfl (by kernel_rfl) (by kernel_rfl) (by kernel_rfl) (fun _ _ _ h => h) (by kernel_rfl) ?_ (by assumption) ?_; (intro w hSw; clear hSw; first | rfl | go_simp); (try simp only [List.set_cons_zero, List.set_cons_succ]))
  (refine held_take 3 24 (.map (some hm)) rfl rfl (by kernel_rfl) (by kernel_rfl) (by kernel_rfl) (fun _ _ _ h => h) (by kernel_rfl) ?_ (by assumption) ?_; (intro w hSw; have f1 := (hSw.cell (p := ⟨g, 2, none⟩) hgl).trans G2.out; clear hSw; first | rfl | go_simp); (try simp only [List.set_cons_zero, List.set_cons_succ]))
  (refine held_take 4 25 (.pointer (some ⟨eB, 4, none⟩)) rfl rfl (by kernel_rfl) (by kernel_rfl) (by kernel_rfl) (fun _ _ _ h => h) (by kernel_rfl) ?_ (by assumption) ?_; (intro w hSw; clear hSw; first | rfl | go_simp); (try simp only [List.set_cons_zero, List.set_cons_succ]))
  (refine held_take 5 26 (.string ⟨#[99, 112, 117]⟩) rfl rfl (by kernel_rfl) (by kernel_rfl) (by kernel_rfl) (fun _ _ _ h => h) (by kernel_rfl) ?_ (by assumption) ?_; (intro w hSw; have f1 := (hSw.cell (p := ⟨eB, 4, none⟩) hel).trans E4.out; clear hSw; first | rfl | go_simp); (try simp only [List.set_cons_zero, List.set_cons_succ]))
  (refine held_take 6 27 (.slice p27 N c27) rfl rfl (by kernel_rfl) (by kernel_rfl) (by kernel_rfl) (fun _ _ _ h => h) (by kernel_rfl) ?_ (by assumption) ?_; (intro w hSw; have f1 := HLK.out w (hSw.block _ hml); clear hSw; first | rfl | go_simp); (try simp only [List.set_cons_zero, List.set_cons_succ]))
  refine wpAnyH_ready (rs := [7]) (by kernel_rfl) (by simp) (.cons rfl (fun K hK => ?_) .nil)
  rw [if_pos (by kernel_rfl)]
  go_simp
  have HS3 := Lib.hid (HS.out.alloc HS.out.size (.cells #[.slice p27 N c27] 39))
  have KB := Lib.hid (Blk.new X2 [.slice p27 N c27] 39)
  have HV3 := Lib.hid (HV.out.keep HS3.out)
  obtain ⟨B, hB⟩ : ∃ z, X2.heap.size = z := ⟨_, rfl⟩
  obtain ⟨X3, hX3⟩ : ∃ z, X2.alloc (.cells #[.slice p27 N c27] 39) = z := ⟨_, rfl⟩
  rw [show X2.alloc (.cells ([.slice p27 N c27] : List Value).toArray 39) = X3 from hX3] at KB
  rw [hX3] at HS3 HV3 ⊢
  rw [hB] at KB ⊢
  have hSS3 := HS3.out
  refine hK.out _ _ HS3.out (fun hHeld => ?_)
  clear hK K hHeld hSS hX3 hB HS
  (try simp only [Act.put, List.setIfInBounds_toArray, List.set_cons_zero, List.set_cons_succ])
  (refine held_take 8 5 (.slice (some ⟨B, 0, none⟩) 1 1) rfl rfl (by kernel_rfl) (by kernel_rfl) (by kernel_rfl) (fun _ _ _ h => h) (by kernel_rfl) ?_ (by assumption) ?_; (intro w hSw; clear hSw; first | rfl | go_simp); (try simp only [List.set_cons_zero, List.set_cons_succ]))
  refine wpAnyH_done (by kernel_rfl) ?_ _
  have HW3 := Lib.hid (HW2.out.trans (HS3.out.mono HW2.out.size))
  have HKT3 := Lib.hid (HKT2.out.keep HS3.out); have HKE3 := Lib.hid (HKE2.out.keep HS3.out); have HT3 := Lib.hid (HT2.out.keep HS3.out)
  clear hSS3 htl hel hgl hml HKT2 HKE2 HT2 HS3 HLK HV G2 T0 E4
  have e5 := HKE3.out.cell 5 _ rfl; have el := HKE3.out.lt
  go_wp2
  go_loopw [5, 32] (fun o j wr => o = .slice (some ⟨B, 0, none⟩) 1 1 ∧ j = .int .i64 0 ∧ wr = X3) (fun _ _ _ => 0)
  case atStart => exact ⟨rfl, rfl, rfl⟩
  case round =>
    obtain ⟨rfl, rfl, hw⟩ := hrel
    subst hw
    obtain ⟨X3, rfl⟩ : ∃ z, z = wr := ⟨_, rfl⟩
    go_wp2_with fail
    refine (cut1 (n := X3.heap.size) (l := L) (Nat.le_refl _) KB.out (HV3.out.ints (Nat.le_refl _)) (by have := HLEN.out; omega)).mono ?_
    rintro e w4 ⟨v4, rfl, hown, hb4⟩
    have HW4 := Lib.hid (HW3.out.trans (hb4.mono HW3.out.size))
    have HO4 := Lib.hid (show OwnI 3 W.heap.size w4 v4 L from ownsRow_base hown HW3.out.size)
    have HKT4 := Lib.hid (HKT3.out.keep hb4); have HKE4 := Lib.hid (HKE3.out.keep hb4); have HT4 := Lib.hid (HT3.out.keep hb4)
    clear hown hb4
    go_wp2_with fail
    have hI4 : IsInts w4.heap.size w4 v4 L := HO4.out.ints (Nat.le_refl _)
    have hk4 : w4.cell? ⟨tB, 0, none⟩ = some (.pointer (some ⟨g, 0, none⟩)) := HKT4.out.cell 0 _ rfl
    have hD := delT (n := w4.heap.size) (l := L) (v := v4) HT4.out HTL.out HGI.out (Nat.le_refl _) hI4 HKE4.out rfl hk4
    refine hD.mono ?_
    clear hD hI4 hk4
    rintro e w5 ⟨rfl, hb5⟩
    have HW5 := Lib.hid (HW4.out.trans (hb5.mono HW4.out.size))
    have HO5 := Lib.hid (HO4.out.keep hb5)
    clear hb5
    go_wp2
    go_ret
    exact ⟨_, rfl, HO5.out, HW5.out⟩
end Go.Proofs.Ytkheeiipkdeihaa
