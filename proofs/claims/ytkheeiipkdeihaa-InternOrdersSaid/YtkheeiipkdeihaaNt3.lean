/- label.Key, sample.CheckSeries, sample.Key. -/
import Derived.Test.YtkheeiipkdeihaaNt2
import Derived.Deep.CutRange
import Derived.Deep.CutBlock
import Derived.Deep.QuietTactic
import Derived.BigQuiet
namespace Go.Proofs.Ytkheeiipkdeihaa
open Go.RowKit
set_option linter.unusedSimpArgs false
set_option linter.unusedVariables false

theorem encL_take {l : List Lab} {k : Nat} {x : Lab} (h : l[k]? = some x) : encL (l.take (k + 1)) = (encL (l.take k) ++ encT x.name) ++ encT x.text := by
  unfold encL
  rw [List.take_add_one, h, List.map_append, List.flatten_append]
  simp
set_option maxRecDepth 100000 in
set_option maxHeartbeats 8000000 in
theorem lKey {l : List Lab} {v : Value} {n : Nat} {W : World} (hn : n ≤ W.heap.size) (h : IsLabs n W v l) (hc : checkL l = 0) :
    Calls Try.prog 40 #[v] W fun e w' => e = .returned (.string ⟨(encL l).toArray⟩) ∧ Below W.heap.size W w' := by
  obtain ⟨hf8, hfit⟩ := checkL_fit hc
  obtain ⟨p, cap, rfl, hc1, hc2, -⟩ := h.open
  unfold maxLen at hc2
  have HH := Lib.hid h; have HN := Lib.hid hn; have HC := Lib.hid hc; have HFT := Lib.hid hfit
  obtain ⟨N, hN⟩ : ∃ z, l.length = z := ⟨_, rfl⟩
  rw [hN] at HH hc1 hf8 ⊢
  have HNL := Lib.hid hN
  clear h hn hc hfit hN
  go_enter Try.func40, Try.ntmps40; (try simp only [List.append_eq, List.cons_append, List.nil_append])
  go_wp2_with fail
  refine (lCheck l _ n W HN.out HH.out).mono ?_
  rintro e w0 ⟨rfl, hb0⟩
  have HB0 := Lib.hid hb0
  clear hb0
  rw [HC.out]
  go_wp2
  go_loopw [3, 11] (fun b j wr => ∃ k : Nat, k ≤ N ∧ j = .int .i64 k ∧ OwnB W.heap.size wr b (encL (l.take k)) ∧ Below W.heap.size W wr) (fun _ j _ => N - (intOf j).toNat)
  case atStart => exact ⟨0, Nat.zero_le _, rfl, by rw [List.take_zero]; exact World.ownsRow_nil _ _ _ _, HB0.out⟩
  case round =>
    obtain ⟨k, hk, rfl, hown, hb⟩ := hrel
    obtain ⟨q, hq⟩ : ∃ z, encL (l.take k) = z := ⟨_, rfl⟩
    rw [hq] at hown
    have HQ := Lib.hid hq
    have hql : q.length ≤ 92 * k := by
      rw [← hq]
      have h1 := encL_len (l := l.take k) (fun x hx => by have := HFT.out x (List.mem_of_mem_take hx); omega)
      have h2 : (l.take k).length ≤ k := List.length_take_le _ _
      omega
    obtain ⟨a2, c2, rfl⟩ := ownB_slice hown
    have HO := Lib.hid hown; have HB := Lib.hid hb
    clear hq hown hb
    by_cases hlt : k < N
    · have hki : (k : Int) < (N : Int) := by omega
      obtain ⟨x, hx⟩ : ∃ x, l[k]? = some x := ⟨_, List.getElem?_eq_getElem (by have := HNL.out; omega)⟩
      have hkl : k < l.length := by have := HNL.out; omega
      obtain ⟨b1, o1, rfl, hb1, d0, d1, -, -⟩ := (HH.out.mono (HB.out.mono HN.out) (Nat.le_refl _)).get hkl
      have hxe : l[k] = x := by rw [List.getElem?_eq_getElem hkl] at hx; exact Option.some.inj hx
      rw [hxe] at d0 d1
      have hfx := HFT.out x (List.mem_of_getElem? hx)
      have HX := Lib.hid (encL_take hx)
      obtain ⟨nm, tx⟩ := x
      simp only at d0 d1 hfx HX
      rw [HQ.out] at HX
      have HFX := Lib.hid hfx
      have hb1w : b1 < wr.heap.size := by have := HN.out; have := HB.out.size; omega
      clear hx hxe hfx hb1 hkl
      obtain ⟨W1, rfl⟩ : ∃ z, z = wr := ⟨_, rfl⟩
      go_upto_region 7 with fail
      have k1 := Blk.new W1 [.string nm, .string tx] 63
      have hr : Below W1.heap.size W1 (W1.alloc (.cells #[.string nm, .string tx] 63)) := (Below.refl _ _).alloc (Nat.le_refl _) _
      have HB1 := Lib.hid (HB.out.trans (hr.mono HB.out.size))
      have HO1 := Lib.hid (HO.out.keep hr)
      obtain ⟨g, hg⟩ : ∃ z, W1.heap.size = z := ⟨_, rfl⟩
      obtain ⟨Y, hY⟩ : ∃ z, W1.alloc (.cells #[.string nm, .string tx] 63) = z := ⟨_, rfl⟩
      rw [show W1.alloc (.cells ([.string nm, .string tx] : List Value).toArray 63) = Y from hY] at k1
      rw [hY] at HB1 HO1 ⊢
      rw [hg] at k1 ⊢
      have K1 := Lib.hid k1
      have c0 := k1.cell 0 _ rfl; have c1' := k1.cell 1 _ rfl; have hgl := k1.lt
      clear hY hg hr k1 d0 d1 hb1w HB HO
      go_wp2_with fail
      refine (wText (Nat.le_refl _) HO1.out.isB (by have := HFX.out; show 1 ≤ nm.size; omega) (by have := HFX.out; show nm.size ≤ 255; omega) (by omega)).mono ?_
      rintro e w2 ⟨v2, rfl, hown2, hb2⟩
      have HB2 := Lib.hid (HB1.out.trans (hb2.mono HB1.out.size))
      have HO2 := Lib.hid (show OwnB W.heap.size w2 v2 (q ++ encT nm) from ownsRow_base hown2 HB1.out.size)
      have k2 := K1.out.keep hb2
      have e1 := k2.cell 1 _ rfl; have hgl2 := k2.lt
      have hq2 : (q ++ encT nm).length ≤ 92 * k + 30 := by have := HFX.out; rw [List.length_append, encT_len]; show q.length + (nm.size + 2) ≤ _; have h9 : nm.size ≤ 24 := this.1.2; omega
      clear hb2 hown2 c0 c1' hgl k2 K1 HO1 HB1
      obtain ⟨q2, hq2e⟩ : ∃ z, q ++ encT nm = z := ⟨_, rfl⟩
      rw [hq2e] at HO2 hq2 HX
      clear hq2e
      obtain ⟨a3, c3, rfl⟩ := ownB_slice HO2.out
      go_wp2_with fail
      refine (wText (Nat.le_refl _) HO2.out.isB (by have := HFX.out; show 1 ≤ tx.size; omega) (by have := HFX.out; show tx.size ≤ 255; have h9 : tx.size ≤ 64 := this.2.2; omega) (by omega)).mono ?_
      rintro e w3 ⟨v3, rfl, hown3, hb3⟩
      have HB3 := Lib.hid (HB2.out.trans (hb3.mono HB2.out.size))
      have HO3 := Lib.hid (show OwnB W.heap.size w3 v3 (q2 ++ encT tx) from ownsRow_base hown3 HB2.out.size)
      clear hb3 hown3 e1 hgl2
      go_wp2
      exact ⟨⟨k + 1, by omega, by go_num, by rw [HX.out]; exact HO3.out, HB3.out⟩, by simp [intOf]; omega⟩
    · have hkN : k = N := by omega
      subst hkN
      have hki : ¬ ((k : Int) < (k : Int)) := by omega
      have HE := Lib.hid (show encL l = q from by rw [← HQ.out, List.take_of_length_le (by rw [HNL.out]; exact Nat.le_refl _)])
      have hcv := ownB_convert HO.out
      go_wp2
      go_ret
      exact ⟨by rw [HE.out]; rfl, HB.out⟩
set_option maxHeartbeats 2000000 in
theorem sCheckS {s : Sr} {p : Option Addr} {c n : Nat} {W : World} (hn : n ≤ W.heap.size) (h : IsLabs n W (.slice p s.labs.length c) s.labs) (hm : s.metric.size ≤ maxLen) :
    Calls Try.prog 22 #[.agg #[.string s.metric, .slice p s.labs.length c]] W fun e w' => e = .returned (.int .i64 (okS s)) ∧ Below W.heap.size W w' := by
  have HH := Lib.hid h; have HN := Lib.hid hn; have HM := Lib.hid hm
  have HOK := Lib.hid (show okS s = if nameB s.metric = true then checkL s.labs else 2 from rfl)
  clear h hn hm
  obtain ⟨m, l⟩ := s
  simp only at HH HM HOK ⊢
  obtain ⟨N, hN⟩ : ∃ z, l.length = z := ⟨_, rfl⟩
  rw [hN] at HH ⊢
  clear hN
  go_enter Try.func22, Try.ntmps22; (try simp only [List.append_eq, List.cons_append, List.nil_append])
  go_upto_region 1 with fail
  have k1 := Blk.new W [.string m, .slice p N c] 33
  have hr : Below W.heap.size W (W.alloc (.cells #[.string m, .slice p N c] 33)) := (Below.refl _ _).alloc (Nat.le_refl _) _
  have HB1 := Lib.hid hr
  obtain ⟨g, hg⟩ : ∃ z, W.heap.size = z := ⟨_, rfl⟩
  obtain ⟨Y, hY⟩ : ∃ z, W.alloc (.cells #[.string m, .slice p N c] 33) = z := ⟨_, rfl⟩
  rw [show W.alloc (.cells ([.string m, .slice p N c] : List Value).toArray 33) = Y from hY] at k1
  rw [hY] at HB1 ⊢
  have hgW := hg
  rw [hg] at k1 ⊢
  have HGW := Lib.hid hgW
  have c0 := k1.cell 0 _ rfl; have c1' := k1.cell 1 _ rfl; have hgl := k1.lt
  clear hY hg hr k1 hgW
  have HNM := Lib.hid (fun X => lName m X HM.out)
  obtain ⟨nb, hnb⟩ : ∃ z, nameB m = z := ⟨_, rfl⟩
  rw [hnb] at HNM HOK
  clear hnb
  go_wp2_with fail
  refine (HNM.out Y).mono ?_
  rintro e w1 ⟨rfl, hw1⟩
  subst hw1
  cases nb with
  | false =>
    simp only [Bool.false_eq_true, if_false] at HOK
    go_wp2
    go_ret
    exact ⟨by rw [HOK.out]; rfl, by have h := HB1.out; rwa [HGW.out] at h⟩
  | true =>
    simp only [if_true] at HOK
    go_wp2_with fail
    refine (lCheck l _ n _ (Nat.le_trans HN.out HB1.out.size) (HH.out.mono (HB1.out.mono HN.out) (Nat.le_refl _))).mono ?_
    rintro e w2 ⟨rfl, hb2⟩
    have HB2 := Lib.hid (HB1.out.trans (hb2.mono HB1.out.size))
    clear hb2
    go_wp2
    go_ret
    exact ⟨by rw [HOK.out]; rfl, by have h := HB2.out; rwa [HGW.out] at h⟩
set_option maxHeartbeats 4000000 in
theorem sKey {s : Sr} {p : Option Addr} {c n : Nat} {W : World} (hn : n ≤ W.heap.size) (h : IsLabs n W (.slice p s.labs.length c) s.labs) (hok : okS s = 0) :
    Calls Try.prog 23 #[.agg #[.string s.metric, .slice p s.labs.length c]] W fun e w' => e = .returned (.string ⟨(keyS s).toArray⟩) ∧ Below W.heap.size W w' := by
  have hfit := okS_fit hok
  have HM := Lib.hid hfit.metric
  have HC := Lib.hid (fun (X : World) (hX : Below W.heap.size W X) => sCheckS (s := s) (p := p) (c := c) (W := X) (n := n) (Nat.le_trans hn hX.size) (h.mono (hX.mono hn) (Nat.le_refl _)) (by have := hfit.metric; unfold maxLen; omega))
  have HL := Lib.hid (fun (X : World) (hX : Below W.heap.size W X) => lKey (l := s.labs) (v := .slice p s.labs.length c) (W := X) (n := n) (Nat.le_trans hn hX.size) (h.mono (hX.mono hn) (Nat.le_refl _)) (okS_parts hok).2)
  rw [hok] at HC
  have HKS := Lib.hid (show (⟨(keyS s).toArray⟩ : ByteArray) = ⟨(encT s.metric).toArray⟩ ++ ⟨(encL s.labs).toArray⟩ from by unfold keyS; apply ByteArray.ext; simp)
  have HSZ := Lib.hid (show (encT s.metric).length + (encL s.labs).length ≤ 1000 from by
    have := keyS_len hfit
    unfold keyS at this
    rwa [List.length_append] at this)
  clear hfit h hn hok
  obtain ⟨m, l⟩ := s
  simp only at HM HC HL HKS HSZ ⊢
  obtain ⟨N, hN⟩ : ∃ z, l.length = z := ⟨_, rfl⟩
  rw [hN] at HC HL ⊢
  clear hN
  go_enter Try.func23, Try.ntmps23; (try simp only [List.append_eq, List.cons_append, List.nil_append])
  go_upto_region 1 with fail
  have k1 := Blk.new W [.string m, .slice p N c] 33
  have hr : Below W.heap.size W (W.alloc (.cells #[.string m, .slice p N c] 33)) := (Below.refl _ _).alloc (Nat.le_refl _) _
  obtain ⟨g, hg⟩ : ∃ z, W.heap.size = z := ⟨_, rfl⟩
  obtain ⟨Y, hY⟩ : ∃ z, W.alloc (.cells #[.string m, .slice p N c] 33) = z := ⟨_, rfl⟩
  rw [show W.alloc (.cells ([.string m, .slice p N c] : List Value).toArray 33) = Y from hY] at k1
  rw [hY] at hr ⊢
  have HB1 := Lib.hid hr
  rw [show (Value.pointer (some ⟨W.heap.size, 0, none⟩)) = .pointer (some ⟨g, 0, none⟩) by rw [hg]]
  rw [hg] at k1
  have K1 := Lib.hid k1
  have c0 := k1.cell 0 _ rfl; have c1' := k1.cell 1 _ rfl; have hgl := k1.lt
  clear hY hg hr k1
  go_wp2_with fail
  refine (HC.out Y HB1.out).mono ?_
  rintro e w1 ⟨rfl, hb1⟩
  have HB2 := Lib.hid (HB1.out.trans (hb1.mono HB1.out.size))
  have k2 := K1.out.keep hb1
  have K2 := Lib.hid k2
  have d0 := k2.cell 0 _ rfl; have hgl2 := k2.lt
  clear hb1 c0 c1' hgl k2 K1
  go_wp2_with fail
  refine (wText (n := 0) (Nat.zero_le _) (IsB.nil _ _) HM.out.1 (by have := HM.out; omega) (by simp)).mono ?_
  rintro e w2 ⟨v2, rfl, hown, hb2⟩
  have HB3 := Lib.hid (HB2.out.trans (hb2.mono HB2.out.size))
  rw [List.nil_append] at hown
  obtain ⟨a2, c2, rfl⟩ := ownB_slice hown
  have HO := Lib.hid hown
  have k3 := K2.out.keep hb2
  have d0 := k3.cell 0 _ rfl; have d1 := k3.cell 1 _ rfl; have hgl3 := k3.lt
  have K3 := Lib.hid k3
  clear hb2 hown k3 hgl2
  obtain ⟨l3, hl3⟩ : ∃ z, (encT m).length = z := ⟨_, rfl⟩
  rw [hl3] at HO ⊢
  clear hl3
  go_upto_region 4 with fail
  refine wp_region_held_drew (S := fun w => Below w2.heap.size w2 w) (by kernel_rfl) (Below.drew (Below.refl _ _)) (fun hHeld => ?_)
  have HS := Lib.hid (Below.drew (Below.refl w2.heap.size w2))
  clear hHeld
  have hSS := HS.out
  obtain ⟨X2, hX2⟩ : ∃ z, w2.drew = z := ⟨_, rfl⟩
  rw [hX2] at HS hSS ⊢
  clear hX2
  (refine held_take 0 14 ?_ rfl (by kernel_rfl) (by kernel_rfl) (by kernel_rfl) (by kernel_rfl) (fun _ _ _ h => h) (by kernel_rfl) ?_ (by assumption) ?_; rotate_left; (intro w hSw; clear hSw; go_simp); (try with_reducible rfl); simp only [List.set_cons_zero, List.set_cons_succ])
  (refine held_take 1 15 (.string ⟨(encT m).toArray⟩) rfl rfl (by kernel_rfl) (by kernel_rfl) (by kernel_rfl) (fun _ _ _ h => h) (by kernel_rfl) ?_ (by assumption) ?_; (intro w hSw; have hcv := ownB_convert (HO.out.keep hSw); clear hSw d0 d1; go_simp); simp only [List.set_cons_zero, List.set_cons_succ])
  (refine held_take 2 16 ?_ rfl (by kernel_rfl) (by kernel_rfl) (by kernel_rfl) (by kernel_rfl) (fun _ _ _ h => h) (by kernel_rfl) ?_ (by assumption) ?_; rotate_left; (intro w hSw; clear hSw; go_simp); (try with_reducible rfl); simp only [List.set_cons_zero, List.set_cons_succ])
  (refine held_take 3 17 (.slice p N c) rfl rfl (by kernel_rfl) (by kernel_rfl) (by kernel_rfl) (fun _ _ _ h => h) (by kernel_rfl) ?_ (by assumption) ?_; (intro w hSw; have f1 := (hSw.cell (p := ⟨g, 1, none⟩) hgl3).trans d1; clear hSw d0 d1; go_simp); simp only [List.set_cons_zero, List.set_cons_succ])
  refine wpAnyH_ready (rs := [4]) (by kernel_rfl) (by simp) (.cons rfl (fun K hK => ?_) .nil)
  rw [if_pos (by kernel_rfl)]
  go_simp
  refine (HL.out X2 (HB3.out.trans (HS.out.mono HB3.out.size))).mono ?_
  rintro e w9 ⟨rfl, hb9⟩
  have HS := Lib.hid (HS.out.trans (hb9.mono HS.out.size))
  clear hb9
  have hSS := HS.out
  refine hK.out _ _ HS.out (fun hHeld => ?_)
  clear hK K
  (try simp only [Act.put, List.setIfInBounds_toArray, List.set_cons_zero, List.set_cons_succ])
  have hsz := HSZ.out
  (refine held_take 5 19 (.string (⟨(encT m).toArray⟩ ++ ⟨(encL l).toArray⟩)) rfl rfl (by kernel_rfl) (by kernel_rfl) (by kernel_rfl) (fun _ _ _ h => h) (by kernel_rfl) ?_ (by assumption) ?_; (intro w hSw; clear hSw d0 d1; go_simp; omega); simp only [List.set_cons_zero, List.set_cons_succ])
  (refine held_take 6 2 ?_ rfl (by kernel_rfl) (by kernel_rfl) (by kernel_rfl) (by kernel_rfl) (fun _ _ _ h => h) (by kernel_rfl) ?_ (by assumption) ?_; rotate_left; (intro w hSw; clear hSw; go_simp); (try with_reducible rfl); simp only [List.set_cons_zero, List.set_cons_succ])
  refine wpAnyH_done (by kernel_rfl) ?_ _
  go_wp2
  go_ret
  exact ⟨by rw [HKS.out]; rfl, HB3.out.trans (HS.out.mono HB3.out.size)⟩
end Go.Proofs.Ytkheeiipkdeihaa
