/- (*Table).Put. Printed by wip/gen_nt10.py out of wip/nt10.tmpl. -/
import Derived.Test.YtkheeiipkdeihaaNt9
import Derived.IntWalk
namespace Go.Proofs.Ytkheeiipkdeihaa
open Go.RowKit
set_option linter.unusedSimpArgs false
set_option linter.unusedVariables false
open Go.Maps

theorem cellO {M : Nat → Prop} {w w' : World} (ho : OffM M w w') {b : Nat} (hb : b < w.heap.size) (hM : ¬ M b) (o : Nat) : w'.cell? ⟨b, o, none⟩ = w.cell? ⟨b, o, none⟩ := by
  unfold World.cell?
  rw [ho.block b hb hM]
theorem src_cells {w : World} {g t : Nat} {cs : List Value} (h : Blk w g t cs) : ∀ j u, cs[j]? = some u → w.cell? ((⟨g, 0, none⟩ : Addr).add j) = some u := fun j u hu => by
  rw [add_off, Nat.zero_add]
  exact h.cell j u hu
theorem infoSer : (Try.prog.info? 33).map (fun i => (i.zero, i.size, i.bytes)) = some (some (.agg #[.string ⟨#[]⟩, .slice none 0 0]), 2, 40) := by kernel_rfl
theorem Blk.offN {w w' : World} {M : Nat → Prop} {b t : Nat} {cs : List Value} (h : Blk w b t cs) (ho : OffM M w w') (hM : ¬ M b) : Blk w' b t cs := (ho.block b h.lt hM).trans h
theorem offX {Fr M : Nat → Prop} {W w w' : World} (h : OffM Fr W w) (k : OffM M w w') (hM : ∀ i, M i → Fr i ∨ W.heap.size ≤ i) : OffM Fr W w' := h.trans k (fun i hi hm => (hM i hm).resolve_right (by omega))
theorem Blk.ty {w : World} {b t : Nat} {cs : List Value} (h : Blk w b t cs) {t' : Nat} {cur : Array Value} {fr : Nat × Nat} (hk : w.heap[b]? = some (.cells cur t' fr)) : t = t' := by
  have h' : w.heap[b]? = _ := h
  rw [h'] at hk
  simp at hk
  exact hk.2.1
theorem Blk.nomap {w : World} {b t : Nat} {cs : List Value} (h : Blk w b t cs) {es : Array MapEntry} {ck : Nat} (hk : w.heap[b]? = some (.map es ck)) : False := by
  have h' : w.heap[b]? = _ := h
  rw [h'] at hk
  cases hk
def LoopI (Fr : Nat → Prop) (W : World) (g c : Nat) (T : List Sr) (lv : Value) (hb hm hx : Nat) (G : Nat → Prop) (lb : Value) (labs : List Lab) (k : Nat) (wr : World) : Prop :=
  ∃ F', TabX (fun k => Fr k ∨ W.heap.size ≤ k) wr g T T T (c + 2 + 2 * k) lv hb hm hx G F' ∧ OffM Fr W wr ∧ OwnL 0 wr lb labs
def PutR (Fr : Nat → Prop) (W : World) (g : Nat) (T : List Sr) (c : Nat) (s : Sr) (e : Ending) (w' : World) : Prop :=
  ∃ n err : Int, e = .returned (.tuple #[.int .i64 n, .int .i64 err]) ∧ ((okS s ≠ 0 ∧ n = 0 ∧ err = okS s) ∨ (okS s = 0 ∧ err = 0 ∧ n = idS (putS T s) s)) ∧ TabM (fun k => (Fr k ∨ W.heap.size ≤ k) ∧ k < w'.heap.size) w' g (putS T s) (c + 30) ∧ OffM Fr W w'
theorem TabM.more {Fr Fr' : Nat → Prop} {w : World} {g c c' : Nat} {T : List Sr} (h : TabM Fr w g T c) (hF : ∀ k, Fr k → Fr' k) (hl : ∀ k, Fr' k → k < w.heap.size) (hc : c ≤ c') : TabM Fr' w g T c' := by
  obtain ⟨lv, hb, hm, hx, G, F, h⟩ := h
  have hx' := h.x hF
  obtain ⟨f1, f2, f3, f4, f5, f6⟩ := hx'.fr
  obtain ⟨h0, m, D, hm', hO⟩ := h.idx
  exact ⟨lv, hb, hm, hx, G, F, h.blk, h.rows, h.by_.mono hc, h.met.mono hc, ⟨h0, m, D, by omega, OutM.shape hO h0 (fun _ h => h) hc (fun _ _ _ _ _ => rfl) (fun k cur _ hh => ⟨cur, hh, rfl⟩)⟩, h.ne, h.fb, h.gf, h.lf, hx'.fr, hl, h.good, h.fn⟩
theorem putR_same {Fr : Nat → Prop} {W w' : World} {g c : Nat} {T : List Sr} {s : Sr} {n err : Int} (hT : TabM Fr W g T c) (hb : Below W.heap.size W w') (hp : putS T s = T) (h : (okS s ≠ 0 ∧ n = 0 ∧ err = okS s) ∨ (okS s = 0 ∧ err = 0 ∧ n = idS (putS T s) s)) :
    PutR Fr W g T c s (.returned (.tuple #[.int .i64 n, .int .i64 err])) w' := by
  refine ⟨n, err, rfl, h, ?_, OffM.of hb⟩
  rw [hp]
  have h1 := hT.keep hb
  refine h1.more (fun k hk => ⟨.inl hk, ?_⟩) (fun k hk => hk.2) (by omega)
  obtain ⟨lv, hb', hm, hx, G, F, hA⟩ := h1
  exact hA.lt k hk
set_option maxRecDepth 100000 in
set_option maxHeartbeats 32000000 in
theorem tPut {Fr : Nat → Prop} {W : World} {g c cp n : Nat} {T : List Sr} {s : Sr} {p : Option Addr} (hT : TabM Fr W g T c) (hn : n ≤ W.heap.size) (hL : IsLabs n W (.slice p s.labs.length cp) s.labs) (hms : s.metric.size ≤ maxLen) (hlen : T.length ≤ 200) (hc : c ≤ 50000) :
    Calls Try.prog 8 #[.pointer (some ⟨g, 0, none⟩), .agg #[.string s.metric, .slice p s.labs.length cp]] W (PutR Fr W g T c s) := by
  obtain ⟨lv, hb, hmm, hx, G, F, hA⟩ := id hT
  have HT := Lib.hid hT; have HN := Lib.hid hn; have HL := Lib.hid hL; have HMS := Lib.hid hms
  have HCK := Lib.hid (fun (X : World) (hX : Below W.heap.size W X) => sCheckS (s := s) (p := p) (c := cp) (W := X) (n := n) (Nat.le_trans hn hX.size) (hL.mono (hX.mono hn) (Nat.le_refl _)) hms)
  have HKY := Lib.hid (fun (X : World) (hX : Below W.heap.size W X) (ho : okS s = 0) => sKey (s := s) (p := p) (c := cp) (W := X) (n := n) (Nat.le_trans hn hX.size) (hL.mono (hX.mono hn) (Nat.le_refl _)) ho)
  have HCL := Lib.hid (fun (X : World) (hX : Below W.heap.size W X) (h8 : s.labs.length ≤ 8) => cloneAny (l := s.labs) (p := p) (cap := cp) (n := n) (w := X) (Nat.le_trans hn hX.size) (hL.mono (hX.mono hn) (Nat.le_refl _)) (by omega))
  have HSMALL := Lib.hid hL.2
  have HFB := Lib.hid (show ¬ Fr W.heap.size from fun h => by have := hA.lt _ h; omega)
  have HGD := Lib.hid hA.good
  have HA := Lib.hid hA
  have HFRF := Lib.hid hA.fr
  clear hT hn hL hms hA
  obtain ⟨m, hm⟩ : ∃ z, s.metric = z := ⟨_, rfl⟩
  obtain ⟨N, hN⟩ : ∃ z, s.labs.length = z := ⟨_, rfl⟩
  rw [hm, hN] at HCK HKY
  rw [hN] at HCL
  rw [hm] at HMS
  rw [hN] at HL
  rw [hm, hN]
  have HSM := Lib.hid hm; have HNL := Lib.hid hN
  clear hm hN
  go_enter Try.func8, Try.ntmps8; (try simp only [List.append_eq, List.cons_append, List.nil_append])
  go_upto_region 1 with fail
  have k3 := Blk.new W [.string m, .slice p N cp] 33
  have hr : Below W.heap.size W (W.alloc (.cells #[.string m, .slice p N cp] 33)) := (Below.refl _ _).alloc (Nat.le_refl _) _
  obtain ⟨B, hB⟩ : ∃ z, W.heap.size = z := ⟨_, rfl⟩
  obtain ⟨Y, hY⟩ : ∃ z, W.alloc (.cells #[.string m, .slice p N cp] 33) = z := ⟨_, rfl⟩
  rw [show W.alloc (.cells ([.string m, .slice p N cp] : List Value).toArray 33) = Y from hY] at k3
  rw [hY] at hr ⊢
  have HW := Lib.hid hr
  have HA1 := Lib.hid (HA.out.keep hr)
  rw [show (Value.pointer (some ⟨W.heap.size, 0, none⟩)) = .pointer (some ⟨B, 0, none⟩) by rw [hB]]
  rw [hB] at k3 HFB
  have HBW := Lib.hid hB
  have K3 := Lib.hid k3
  clear hY hB hr k3 HA
  go_wp2_with fail
  refine (tRight HA1.out.blk).mono ?_
  rintro e w1 ⟨rfl, hw1⟩
  subst hw1
  obtain ⟨Y, rfl⟩ : ∃ z, z = w1 := ⟨_, rfl⟩
  have c0 := K3.out.cell 0 _ rfl; have c1 := K3.out.cell 1 _ rfl; have hBl := K3.out.lt
  go_wp2_with fail
  refine (HCK.out Y HW.out).mono ?_
  rintro e w1 ⟨rfl, hb1⟩
  have HW1 := Lib.hid (HW.out.trans (hb1.mono HW.out.size))
  have HA2 := Lib.hid (HA1.out.keep hb1)
  have K4 := Lib.hid (K3.out.keep hb1)
  clear hb1 c0 c1 hBl HA1 K3 HW
  obtain ⟨ck, hck⟩ : ∃ z, okS s = z := ⟨_, rfl⟩
  have HOK := Lib.hid hck
  rw [hck]
  clear hck
  by_cases h0 : ck = 0
  case neg =>
    have hx' : (ck != 0) = true := by simp [h0]
    have HZ := Lib.hid h0
    clear h0
    go_wp2
    go_ret2
    exact putR_same HT.out HW1.out (putS_bad (by rw [HOK.out]; exact HZ.out)) (.inl ⟨by rw [HOK.out]; exact HZ.out, rfl, HOK.out.symm⟩)
  subst h0
  have c0 := K4.out.cell 0 _ rfl; have c1 := K4.out.cell 1 _ rfl; have hBl := K4.out.lt
  go_wp2_with fail
  refine (HKY.out w1 HW1.out HOK.out).mono ?_
  rintro e w2 ⟨rfl, hb2⟩
  have HW2 := Lib.hid (HW1.out.trans (hb2.mono HW1.out.size))
  have HA3 := Lib.hid (HA2.out.keep hb2)
  have K5 := Lib.hid (K4.out.keep hb2)
  clear hb2 c0 c1 hBl HA2 K4 HCK HKY
  have hlk := HA3.out.by_.look HOK.out
  rw [show (⟨(keyS s).toArray⟩ : ByteArray) = keyB s from rfl]
  obtain ⟨kb, hkb⟩ : ∃ z, keyB s = z := ⟨_, rfl⟩
  rw [hkb] at hlk ⊢
  have HKB := Lib.hid hkb
  clear hkb
  have g1 := HA3.out.blk.cell 1 _ rfl; have g0 := HA3.out.blk.cell 0 _ rfl; have hgl := HA3.out.blk.lt
  obtain ⟨A, cA, hlv⟩ := HA3.out.rows.slice
  subst hlv
  obtain ⟨LT, hLT⟩ : ∃ z, T.length = z := ⟨_, rfl⟩
  rw [hLT] at HA3 g0 hlen
  have HLT := Lib.hid hLT
  clear hLT
  obtain ⟨oj, hoj⟩ : ∃ z, idxS s T = z := ⟨_, rfl⟩
  have HOJ := Lib.hid hoj
  rw [hoj] at hlk
  clear hoj
  cases oj with
  | some j =>
    have HID := Lib.hid (show idS T s = idS (putS T s) s by rw [putS_old HOK.out HOJ.out])
    rw [HID.out] at hlk
    simp only [Option.isSome_some] at hlk
    obtain ⟨nn, hnn⟩ : ∃ z, idS (putS T s) s = z := ⟨_, rfl⟩
    rw [hnn] at hlk
    have HNN := Lib.hid hnn
    clear hnn
    go_wp2
    go_ret2
    exact putR_same HT.out HW2.out (putS_old HOK.out HOJ.out) (.inr ⟨HOK.out, rfl, HNN.out.symm⟩)
  | none =>
  simp only [Option.isSome_none] at hlk
  obtain ⟨id0, hid0⟩ : ∃ z, idS T s = z := ⟨_, rfl⟩
  rw [hid0] at hlk
  clear hid0
  have hl10 : ((LT : Int) == 1024) = false := by simp; omega
  have c1 := K5.out.cell 1 _ rfl; have c1f := K5.out.free 1; have hBl := K5.out.lt
  go_upto_region 12 with fail
  clear hlk
  go_wp2_with fail
  have hN8 : N ≤ 8 := by have h := (checkL_fit (okS_parts HOK.out).2).1; rw [HNL.out] at h; exact h
  refine (HCL.out w2 HW2.out hN8).mono ?_
  rintro e w3 ⟨v3, rfl, hcl, hb3⟩
  obtain ⟨pv, cv, rfl⟩ := ownsRow_slice hcl
  have hv3 : World.ownsRow w3 w2.heap.size 63 2 (.slice pv s.labs.length cv) s.labs.length (flat s.labs) := hcl
  have HW3 := Lib.hid (HW2.out.trans (hb3.mono HW2.out.size))
  have HA4 := Lib.hid (HA3.out.keep hb3)
  have K6 := Lib.hid (K5.out.keep hb3)
  have HOL := Lib.hid (show OwnL 0 w3 (.slice pv s.labs.length cv) s.labs from ownsRow_base hv3 (Nat.zero_le _))
  rw [HNL.out] at HOL ⊢
  clear hcl hv3 hb3 c1 c1f hBl hgl g0 g1 HA3 K5 HCL
  have c1 := K6.out.cell 1 _ rfl; have c1f := K6.out.free 1; have hBl := K6.out.lt
  go_upto_region 13 with fail
  -- the box has the labels of the table's own
  have k7 := K6.out.set_ 1 (.slice pv N cv)
  simp only [List.set_cons_succ, List.set_cons_zero] at k7
  have ho4 := OffM.cell1 w3 B 1 (.slice pv N cv)
  have hnl4 : NoLab (fun k => k = B) w3 := fun k e cur hk => by
    subst e
    have h : w3.heap[k]? = _ := K6.out
    rw [h] at hk
    simp at hk
  have HOL4 := Lib.hid (HOL.out.offM ho4 hnl4)
  have hA5 := HA4.out.offM ho4 (fun k e => by rw [e]; exact HFB.out) hnl4
  have HOW4 := Lib.hid (show OffM Fr W (w3.setCell ⟨B, 1, none⟩ (.slice pv N cv)) from (OffM.of (M := Fr) HW3.out).trans ho4 (fun i hi e => by rw [e, ← HBW.out] at hi; omega))
  have hA6 := hA5.x (Fr' := fun k => Fr k ∨ W.heap.size ≤ k) (fun _ h => .inl h)
  have hFBl : ∀ k, Fr k → k ≠ B := fun k h e => HFB.out (by rw [← e]; exact h)
  have hlvB : ¬ (Value.slice A LT cA).ownBlock = some B := fun e => HFB.out (hA5.fr.2.2.2.1 B e)
  obtain ⟨w4, hw4⟩ : ∃ z, w3.setCell ⟨B, 1, none⟩ (.slice pv N cv) = z := ⟨_, rfl⟩
  rw [hw4] at k7 HOL4 hA6 HOW4 ⊢
  have K7 := Lib.hid k7
  have HX := Lib.hid hA6
  have HLB := Lib.hid hlvB
  have hB1 : W.heap.size ≤ w4.heap.size := HOW4.out.size
  clear hw4 hA5 hA6 ho4 hnl4 hFBl hlvB k7 c1 c1f hBl HA4 K6 HOL
  -- the rows
  obtain ⟨xs, hxs, hrw⟩ := HX.out.rows.own
  rw [HLT.out] at hxs hrw
  obtain ⟨i0, hi, hz0, hz1', hz2⟩ := info_parts infoSer
  have HXS := Lib.hid hxs; have HRW := Lib.hid hrw
  have HBLK := Lib.hid HX.out.blk
  have hgl := HX.out.blk.lt
  have HG0 := Lib.hid (HX.out.blk.cell 0 _ rfl)
  have hBl := K7.out.lt
  have HBN := HLB
  have HB30 := Lib.hid (K7.out.cell 0 _ rfl); have HB31 := Lib.hid (K7.out.cell 1 _ rfl)
  have HGN := Lib.hid (show ¬ (Value.slice A LT cA).ownBlock = some g from fun e => by
    obtain ⟨cur, hc⟩ := HX.out.rows.cells e
    have h : w4.heap[g]? = _ := HX.out.blk
    rw [h] at hc
    simp at hc)
  clear hxs hrw
  refine wp_region_late [10] (fun X => OffM (fun k => (Value.slice A LT cA).ownBlock = some k) w4 X) (by kernel_rfl) ?_
  have hSd : OffM (fun k => (Value.slice A LT cA).ownBlock = some k) w4 w4.drew := OffM.of (Below.drew (Below.refl _ _))
  obtain ⟨Z0, hZ0⟩ : ∃ z, w4.drew = z := ⟨_, rfl⟩
  have HB0 := Lib.hid (show Below w4.heap.size w4 Z0 from by rw [← hZ0]; exact Below.drew (Below.refl _ _))
  rw [hZ0] at hSd ⊢
  clear hZ0
  (refine late_take 0 44 (.pointer (some ⟨g, 0, none⟩)) rfl rfl (by as_aux_lemma => kernel_rfl) (by as_aux_lemma => kernel_rfl) (by as_aux_lemma => kernel_rfl) rfl (by as_aux_lemma => kernel_rfl) (fun _ _ _ h => h) (by kernel_rfl) ?_ hSd ?_; (intro w' hSw; clear hSw; go_simp); simp only [List.set_cons_zero, List.set_cons_succ])
  (refine late_take 1 45 (.pointer (some ⟨g, 0, none⟩)) rfl rfl (by as_aux_lemma => kernel_rfl) (by as_aux_lemma => kernel_rfl) (by as_aux_lemma => kernel_rfl) rfl (by as_aux_lemma => kernel_rfl) (fun _ _ _ h => h) (by kernel_rfl) ?_ hSd ?_; (intro w' hSw; clear hSw; go_simp); simp only [List.set_cons_zero, List.set_cons_succ])
  (refine late_take 2 46 (.pointer (some ⟨g, 0, none⟩)) rfl rfl (by as_aux_lemma => kernel_rfl) (by as_aux_lemma => kernel_rfl) (by as_aux_lemma => kernel_rfl) rfl (by as_aux_lemma => kernel_rfl) (fun _ _ _ h => h) (by kernel_rfl) ?_ hSd ?_; (intro w' hSw; clear hSw; go_simp); simp only [List.set_cons_zero, List.set_cons_succ])
  (refine late_take 3 47 (.pointer (some ⟨g, 0, none⟩)) rfl rfl (by as_aux_lemma => kernel_rfl) (by as_aux_lemma => kernel_rfl) (by as_aux_lemma => kernel_rfl) rfl (by as_aux_lemma => kernel_rfl) (fun _ _ _ h => h) (by kernel_rfl) ?_ hSd ?_; (intro w' hSw; clear hSw; go_simp); simp only [List.set_cons_zero, List.set_cons_succ])
  (refine late_take 4 48 (.slice A LT cA) rfl rfl (by as_aux_lemma => kernel_rfl) (by as_aux_lemma => kernel_rfl) (by as_aux_lemma => kernel_rfl) rfl (by as_aux_lemma => kernel_rfl) (fun _ _ _ h => h) (by kernel_rfl) ?_ hSd ?_; (intro w' hSw; have f0 := (cellO hSw hgl HGN.out 0).trans HG0.out; clear hSw; go_simp); simp only [List.set_cons_zero, List.set_cons_succ])
  (refine late_take 5 49 (.agg #[.string m, .slice pv N cv]) rfl rfl (by as_aux_lemma => kernel_rfl) (by as_aux_lemma => kernel_rfl) (by as_aux_lemma => kernel_rfl) rfl (by as_aux_lemma => kernel_rfl) (fun _ _ _ h => h) (by kernel_rfl) ?_ hSd ?_; (intro w' hSw; have f0 := (cellO hSw hBl HBN.out 0).trans HB30.out; have f1 := (cellO hSw hBl HBN.out 1).trans HB31.out; clear hSw; go_simp); simp only [List.set_cons_zero, List.set_cons_succ])
  refine late_ready (rs := [6]) (by as_aux_lemma => kernel_rfl) (by simp) (.cons rfl true rfl (fun K hK => ?_) .nil)
  rw [if_pos (by kernel_rfl)]
  go_simp
  have hSd1 : OffM (fun k => (Value.slice A LT cA).ownBlock = some k) w4 (Z0.alloc (.cells #[.string m, .slice pv N cv] 33)) := hSd.trans (OffM.of ((Below.refl _ _).alloc (Nat.le_refl _) _)) (fun _ _ h => h)
  refine hK.out _ _ (fun _ => hSd1) ?_
  clear hK K
  (try simp only [Act.put, List.setIfInBounds_toArray, List.set_cons_zero, List.set_cons_succ])
  have hown1 := ownsRow_keep HXS.out (HB0.out.alloc HB0.out.size (.cells #[.string m, .slice pv N cv] 33))
  have hnew := Blk.new Z0 [.string m, .slice pv N cv] 33
  have hb1 := HB0.out.alloc HB0.out.size (.cells #[.string m, .slice pv N cv] 33)
  have hz1 : (Z0.alloc (.cells #[.string m, .slice pv N cv] 33)).heap.size = Z0.heap.size + 1 := World.size_alloc _ _
  obtain ⟨gz, hgz⟩ : ∃ z, Z0.heap.size = z := ⟨_, rfl⟩
  have hgzl : w4.heap.size ≤ gz := by rw [← hgz]; exact HB0.out.size
  obtain ⟨Z1, hZ1⟩ : ∃ z, Z0.alloc (.cells #[.string m, .slice pv N cv] 33) = z := ⟨_, rfl⟩
  rw [show Z0.alloc (.cells ([.string m, .slice pv N cv] : List Value).toArray 33) = Z1 from hZ1] at hnew
  rw [hZ1] at hSd1 hown1 hb1 hz1 ⊢
  rw [hgz] at hnew hz1 ⊢
  clear hZ1 hSd hgz
  have HSD1 := Lib.hid hSd1; have HO1 := Lib.hid hown1; have HB1 := Lib.hid hb1; have HNEW := Lib.hid hnew
  clear hSd1 hown1 hb1 hnew
  refine late_ready (rs := [7]) (by as_aux_lemma => kernel_rfl) (by simp) (.cons rfl true rfl (fun K hK => ?_) .nil)
  rw [if_pos (by kernel_rfl)]
  obtain ⟨v6, w6, hr6, ho6, hgr6, -, hat6⟩ := run_append_own_at (P := Try.prog) (w := Z1) 0 22 22 33 i0 (.agg #[.string ⟨#[]⟩, .slice none 0 0]) 2 40 Try.underlying22 hi hz0 hz1' hz2 rfl (by decide) (.slice A LT cA) LT xs HO1.out ⟨gz, 0, none⟩ 1 1 [.string m, .slice pv N cv] rfl (src_cells HNEW.out) (by intro u hu; simp at hu; rcases hu with rfl | rfl <;> rfl) (by unfold maxLen; omega) (by omega) (Nat.zero_le _)
  refine wp_append_run _ _ _ _ rfl _ _ v6 w6 rfl rfl hr6 ?_
  have hS6 : OffM (fun k => (Value.slice A LT cA).ownBlock = some k) w4 w6 := HSD1.out.trans (OffM.grown hgr6) (fun _ _ h => h)
  refine hK.out _ _ (fun _ => hS6) ?_
  clear hK K
  (try simp only [Act.put, List.setIfInBounds_toArray, List.set_cons_zero, List.set_cons_succ])
  obtain ⟨a6, c6, rfl⟩ := ownsRow_slice ho6
  have HS6 := Lib.hid hS6; have HO6 := Lib.hid ho6; have HAT := Lib.hid hat6; have hSd := hS6
  clear hr6 hgr6 hS6 ho6 hat6
  have k6 : Blk w6 g 59 (tabC (.slice A LT cA) hb hmm hx) := (HS6.out.block g hgl HGN.out).trans HBLK.out
  have HK6 := Lib.hid k6
  refine late_ready (rs := [8]) (by as_aux_lemma => kernel_rfl) (by simp) (.cons rfl true rfl (fun K hK => ?_) .nil)
  rw [if_pos (by kernel_rfl)]
  go_simp
  refine hK.out _ _ (fun _ => hSd) ?_
  clear hK K
  (try simp only [Act.put, List.setIfInBounds_toArray, List.set_cons_zero, List.set_cons_succ])
  (refine late_take 9 53 (.pointer (some ⟨g, 0, none⟩)) rfl rfl (by as_aux_lemma => kernel_rfl) (by as_aux_lemma => kernel_rfl) (by as_aux_lemma => kernel_rfl) rfl (by as_aux_lemma => kernel_rfl) (fun _ _ _ h => h) (by kernel_rfl) ?_ hSd ?_; (intro w' hSw; clear hSw; go_simp); simp only [List.set_cons_zero, List.set_cons_succ])
  have e60 := k6.cell 0 _ rfl; have e61 := k6.free 0; have e62 := k6.lt
  clear k6
  refine late_ready (rs := [10]) (by as_aux_lemma => kernel_rfl) (by simp) (.cons rfl false rfl (fun K hK => ?_) .nil)
  rw [if_pos (by kernel_rfl)]
  go_simp
  refine hK.out _ _ (fun h => by cases h) ?_
  clear hK K
  (try simp only [Act.put, List.setIfInBounds_toArray, List.set_cons_zero, List.set_cons_succ])
  refine late_done (by kernel_rfl) ?_ _
  go_upto_region 14 with fail
  have hv6g : ¬ (Value.slice a6 (LT + 1) c6).ownBlock = some g := HK6.out.not_own HO6.out (by decide)
  have hoc := OffM.cell1 w6 g 0 (.slice a6 (LT + 1) c6)
  have ho7 : OffM (fun k => (Value.slice A LT cA).ownBlock = some k ∨ k = g) w4 (w6.setCell ⟨g, 0, none⟩ (.slice a6 (LT + 1) c6)) := (HS6.out.more (fun _ _ e => .inl e)).trans hoc (fun _ _ e => .inr e)
  have kg7 := HK6.out.set_ 0 (.slice a6 (LT + 1) c6)
  have hown7 := ownsRow_offM HO6.out hoc (fun k hk e => hv6g (by rw [hk, e]))
  have hnl7 : NoLab (fun k => (Value.slice A LT cA).ownBlock = some k ∨ k = g) w4 := fun k e cur hk => by
    rcases e with e | e
    · obtain ⟨cur2, hc⟩ := HX.out.rows.cells e
      rw [hc] at hk
      simp at hk
    · subst e
      exact absurd (HBLK.out.ty hk) (by decide)
  have hol7 := HOL4.out.offM ho7 hnl7
  have hlv7 : ∀ k, (Value.slice a6 (LT + 1) c6).ownBlock = some k → (Value.slice A LT cA).ownBlock = some k ∨ ((Fr k ∨ W.heap.size ≤ k) ∧ ¬ F k) := fun k hk => by
    rcases HAT.out with e | e
    · exact .inl (by rw [← e]; exact hk)
    · rw [e] at hk
      have e1 := Option.some.inj hk
      refine .inr ⟨.inr (by omega), fun hF => ?_⟩
      have := HX.out.fl k hF
      omega
  have hB7 : ¬ ((Value.slice A LT cA).ownBlock = some B ∨ B = g) := fun e => by
    rcases e with e | e
    · exact HLB.out e
    · have h1 := K7.out
      rw [e] at h1
      exact absurd (h1.ty (show w4.heap[g]? = _ from HBLK.out)) (by decide)
  have K8 := Lib.hid (K7.out.offN ho7 hB7)
  have HOW7 := Lib.hid (offX HOW4.out ho7 (fun i e => by
    rcases e with e | e
    · exact HX.out.fr.2.2.2.1 i e
    · rw [e]; exact HX.out.fr.1))
  obtain ⟨w7, hw7⟩ : ∃ z, w6.setCell ⟨g, 0, none⟩ (.slice a6 (LT + 1) c6) = z := ⟨_, rfl⟩
  rw [hw7] at ho7 kg7 hown7 hol7 K8 HOW7 ⊢
  clear hw7 hoc
  simp only [tabC, List.set_cons_zero] at kg7
  have hr7 := HRW.out _ w7 _ s _ (by rw [HSM.out]; exact hown7) ho7 hnl7 hol7
  have HX7 := Lib.hid (HX.out.row ho7 kg7 hr7 hlv7)
  have HOL7 := Lib.hid hol7
  clear ho7 kg7 hown7 hnl7 hol7 hlv7 hB7 hv6g hr7 e60 e61 e62 HXS HRW HBLK HG0 HBN HB30 HB31 HGN HB0 HSD1 HO1 HB1 HNEW HS6 HO6 HAT HK6 hSd hgl hBl HX HOL4 K7 HOW4 hz1 hgzl
  -- the number
  obtain ⟨L1, hL1⟩ : ∃ z, LT + 1 = z := ⟨_, rfl⟩
  have HL1 := Lib.hid (show ((T.length : Int) + 1) = (L1 : Int) by rw [HLT.out]; omega)
  rw [hL1] at HX7 ⊢
  have hL1b : L1 ≤ 201 := by omega
  clear hL1
  obtain ⟨y8, hr8, hB8, hg8⟩ := HX7.out.by_.put (by omega) HOK.out HOJ.out (by rw [HLT.out]; omega)
  rw [HKB.out, HL1.out] at hr8
  have HX8 := Lib.hid (HX7.out.by2 hg8 hB8)
  have hbmap := HX7.out.by_.map
  have hB8n : ¬ some hb = some B := fun e => by
    cases e
    obtain ⟨es, ck, hk⟩ := hbmap
    exact K8.out.nomap hk
  have hnl8 : NoLab (fun k => some hb = some k) w7 := fun k e cur hk => by
    cases e
    obtain ⟨es, ck, hk2⟩ := hbmap
    rw [hk2] at hk; cases hk
  have K9 := Lib.hid (K8.out.offN (OffM.grown hg8) hB8n)
  have HOL8 := Lib.hid (HOL7.out.offM (OffM.grown hg8) hnl8)
  have HOW8 := Lib.hid (offX HOW7.out (OffM.grown hg8) (fun i e => by cases e; exact HX7.out.fr.2.1))
  have g70 := HX7.out.blk.cell 0 _ rfl; have g71 := HX7.out.blk.cell 1 _ rfl; have hgl := HX7.out.blk.lt
  clear hB8 hg8 hbmap hB8n hnl8
  go_upto_region 16 with fail
  obtain ⟨Y, rfl⟩ : ∃ z, z = y8 := ⟨_, rfl⟩
  clear hr8 g70 g71 hgl HX7 K8 HOL7 HOW7
  obtain ⟨v2, hv2, hv2G, hlk2, hput⟩ := HX8.out.met.look HMS.out
  obtain ⟨j0, hj, hy0, hy1, hy2⟩ := info_parts infoInt
  have HLK := Lib.hid hlk2; have HPUT := Lib.hid hput; have HVG := Lib.hid hv2G
  have HV2 := Lib.hid (show World.ownsRow Y 0 3 1 v2 (idsOf m T).length ((idsOf m T).map fun i => Value.int .i64 i) from hv2)
  have hidl : (idsOf m T).length ≤ 200 := Nat.le_trans (idsOf_len m T) (by rw [HLT.out]; exact hlen)
  have hgl := HX8.out.blk.lt
  have HG2 := Lib.hid (HX8.out.blk.cell 2 _ rfl)
  have hBl := K9.out.lt
  have HB30 := Lib.hid (K9.out.cell 0 _ rfl)
  have hhmlt := HX8.out.met.lt
  have HGN := Lib.hid (show ¬ v2.ownBlock = some g from HX8.out.blk.not_own HV2.out (by decide))
  have HBN := Lib.hid (show ¬ v2.ownBlock = some B from K9.out.not_own HV2.out (by decide))
  have HMN := Lib.hid (show ¬ v2.ownBlock = some hmm from fun e => by
    obtain ⟨cur, hc⟩ := own_cells HV2.out e
    obtain ⟨es, ck, hk⟩ := HX8.out.met.map
    rw [hk] at hc; cases hc)
  clear hv2 hv2G hlk2 hput
  refine wp_region_late [16] (fun X => OffM (fun k => v2.ownBlock = some k) Y X) (by kernel_rfl) ?_
  have hSd : OffM (fun k => v2.ownBlock = some k) Y Y.drew := OffM.of (Below.drew (Below.refl _ _))
  obtain ⟨Z0, hZ0⟩ : ∃ z, Y.drew = z := ⟨_, rfl⟩
  have HB0 := Lib.hid (show Below Y.heap.size Y Z0 from by rw [← hZ0]; exact Below.drew (Below.refl _ _))
  rw [hZ0] at hSd ⊢
  clear hZ0
  (refine late_take 0 65 (.pointer (some ⟨g, 0, none⟩)) rfl rfl (by as_aux_lemma => kernel_rfl) (by as_aux_lemma => kernel_rfl) (by as_aux_lemma => kernel_rfl) rfl (by as_aux_lemma => kernel_rfl) (fun _ _ _ h => h) (by kernel_rfl) ?_ hSd ?_; (intro w' hSw; clear hSw; go_simp); simp only [List.set_cons_zero, List.set_cons_succ])
  (refine late_take 1 66 (.pointer (some ⟨g, 0, none⟩)) rfl rfl (by as_aux_lemma => kernel_rfl) (by as_aux_lemma => kernel_rfl) (by as_aux_lemma => kernel_rfl) rfl (by as_aux_lemma => kernel_rfl) (fun _ _ _ h => h) (by kernel_rfl) ?_ hSd ?_; (intro w' hSw; clear hSw; go_simp); simp only [List.set_cons_zero, List.set_cons_succ])
  (refine late_take 2 67 (.pointer (some ⟨g, 2, none⟩)) rfl rfl (by as_aux_lemma => kernel_rfl) (by as_aux_lemma => kernel_rfl) (by as_aux_lemma => kernel_rfl) rfl (by as_aux_lemma => kernel_rfl) (fun _ _ _ h => h) (by kernel_rfl) ?_ hSd ?_; (intro w' hSw; clear hSw; go_simp); simp only [List.set_cons_zero, List.set_cons_succ])
  (refine late_take 3 68 (.map (some hmm)) rfl rfl (by as_aux_lemma => kernel_rfl) (by as_aux_lemma => kernel_rfl) (by as_aux_lemma => kernel_rfl) rfl (by as_aux_lemma => kernel_rfl) (fun _ _ _ h => h) (by kernel_rfl) ?_ hSd ?_; (intro w' hSw; have f0 := (cellO hSw hgl HGN.out 2).trans HG2.out; clear hSw; go_simp); simp only [List.set_cons_zero, List.set_cons_succ])
  (refine late_take 4 69 (.pointer (some ⟨B, 0, none⟩)) rfl rfl (by as_aux_lemma => kernel_rfl) (by as_aux_lemma => kernel_rfl) (by as_aux_lemma => kernel_rfl) rfl (by as_aux_lemma => kernel_rfl) (fun _ _ _ h => h) (by kernel_rfl) ?_ hSd ?_; (intro w' hSw; clear hSw; go_simp); simp only [List.set_cons_zero, List.set_cons_succ])
  (refine late_take 5 70 (.string m) rfl rfl (by as_aux_lemma => kernel_rfl) (by as_aux_lemma => kernel_rfl) (by as_aux_lemma => kernel_rfl) rfl (by as_aux_lemma => kernel_rfl) (fun _ _ _ h => h) (by kernel_rfl) ?_ hSd ?_; (intro w' hSw; have f0 := (cellO hSw hBl HBN.out 0).trans HB30.out; clear hSw; go_simp); simp only [List.set_cons_zero, List.set_cons_succ])
  (refine late_take 6 71 (.pointer (some ⟨g, 0, none⟩)) rfl rfl (by as_aux_lemma => kernel_rfl) (by as_aux_lemma => kernel_rfl) (by as_aux_lemma => kernel_rfl) rfl (by as_aux_lemma => kernel_rfl) (fun _ _ _ h => h) (by kernel_rfl) ?_ hSd ?_; (intro w' hSw; clear hSw; go_simp); simp only [List.set_cons_zero, List.set_cons_succ])
  (refine late_take 7 72 (.pointer (some ⟨g, 0, none⟩)) rfl rfl (by as_aux_lemma => kernel_rfl) (by as_aux_lemma => kernel_rfl) (by as_aux_lemma => kernel_rfl) rfl (by as_aux_lemma => kernel_rfl) (fun _ _ _ h => h) (by kernel_rfl) ?_ hSd ?_; (intro w' hSw; clear hSw; go_simp); simp only [List.set_cons_zero, List.set_cons_succ])
  (refine late_take 8 73 (.pointer (some ⟨g, 2, none⟩)) rfl rfl (by as_aux_lemma => kernel_rfl) (by as_aux_lemma => kernel_rfl) (by as_aux_lemma => kernel_rfl) rfl (by as_aux_lemma => kernel_rfl) (fun _ _ _ h => h) (by kernel_rfl) ?_ hSd ?_; (intro w' hSw; clear hSw; go_simp); simp only [List.set_cons_zero, List.set_cons_succ])
  (refine late_take 9 74 (.map (some hmm)) rfl rfl (by as_aux_lemma => kernel_rfl) (by as_aux_lemma => kernel_rfl) (by as_aux_lemma => kernel_rfl) rfl (by as_aux_lemma => kernel_rfl) (fun _ _ _ h => h) (by kernel_rfl) ?_ hSd ?_; (intro w' hSw; have f0 := (cellO hSw hgl HGN.out 2).trans HG2.out; clear hSw; go_simp); simp only [List.set_cons_zero, List.set_cons_succ])
  (refine late_take 10 75 (.pointer (some ⟨B, 0, none⟩)) rfl rfl (by as_aux_lemma => kernel_rfl) (by as_aux_lemma => kernel_rfl) (by as_aux_lemma => kernel_rfl) rfl (by as_aux_lemma => kernel_rfl) (fun _ _ _ h => h) (by kernel_rfl) ?_ hSd ?_; (intro w' hSw; clear hSw; go_simp); simp only [List.set_cons_zero, List.set_cons_succ])
  (refine late_take 11 76 (.string m) rfl rfl (by as_aux_lemma => kernel_rfl) (by as_aux_lemma => kernel_rfl) (by as_aux_lemma => kernel_rfl) rfl (by as_aux_lemma => kernel_rfl) (fun _ _ _ h => h) (by kernel_rfl) ?_ hSd ?_; (intro w' hSw; have f0 := (cellO hSw hBl HBN.out 0).trans HB30.out; clear hSw; go_simp); simp only [List.set_cons_zero, List.set_cons_succ])
  (refine late_take 12 77 (v2) rfl rfl (by as_aux_lemma => kernel_rfl) (by as_aux_lemma => kernel_rfl) (by as_aux_lemma => kernel_rfl) rfl (by as_aux_lemma => kernel_rfl) (fun _ _ _ h => h) (by kernel_rfl) ?_ hSd ?_; (intro w' hSw; have hl := HLK.out w' (hSw.block _ hhmlt HMN.out); clear hSw; go_simp); simp only [List.set_cons_zero, List.set_cons_succ])
  (refine late_take 13 78 (.int .i64 (L1 : Int)) rfl rfl (by as_aux_lemma => kernel_rfl) (by as_aux_lemma => kernel_rfl) (by as_aux_lemma => kernel_rfl) rfl (by as_aux_lemma => kernel_rfl) (fun _ _ _ h => h) (by kernel_rfl) ?_ hSd ?_; (intro w' hSw; clear hSw; go_simp); simp only [List.set_cons_zero, List.set_cons_succ])
  refine late_ready (rs := [14]) (by as_aux_lemma => kernel_rfl) (by simp) (.cons rfl true rfl (fun K hK => ?_) .nil)
  rw [if_pos (by kernel_rfl)]
  go_simp
  have hSd1 : OffM (fun k => v2.ownBlock = some k) Y (Z0.alloc (.cells #[.int .i64 (L1 : Int)] 3)) := hSd.trans (OffM.of ((Below.refl _ _).alloc (Nat.le_refl _) _)) (fun _ _ h => h)
  refine hK.out _ _ (fun _ => hSd1) ?_
  clear hK K
  (try simp only [Act.put, List.setIfInBounds_toArray, List.set_cons_zero, List.set_cons_succ])
  have hown1 := ownsRow_keep HV2.out (HB0.out.alloc HB0.out.size (.cells #[.int .i64 (L1 : Int)] 3))
  have hnew := Blk.new Z0 [.int .i64 (L1 : Int)] 3
  have hz1 : (Z0.alloc (.cells #[.int .i64 (L1 : Int)] 3)).heap.size = Z0.heap.size + 1 := World.size_alloc _ _
  obtain ⟨gz, hgz⟩ : ∃ z, Z0.heap.size = z := ⟨_, rfl⟩
  have hgzl : Y.heap.size ≤ gz := by rw [← hgz]; exact HB0.out.size
  obtain ⟨Z1, hZ1⟩ : ∃ z, Z0.alloc (.cells #[.int .i64 (L1 : Int)] 3) = z := ⟨_, rfl⟩
  rw [show Z0.alloc (.cells ([.int .i64 (L1 : Int)] : List Value).toArray 3) = Z1 from hZ1] at hnew
  rw [hZ1] at hSd1 hown1 hz1 ⊢
  rw [hgz] at hnew hz1 ⊢
  clear hZ1 hSd hgz
  have HSD1 := Lib.hid hSd1; have HO1 := Lib.hid hown1; have HNEW := Lib.hid hnew
  clear hSd1 hown1 hnew
  refine late_ready (rs := [15]) (by as_aux_lemma => kernel_rfl) (by simp) (.cons rfl true rfl (fun K hK => ?_) .nil)
  rw [if_pos (by kernel_rfl)]
  obtain ⟨v6, w6, hr6, ho6, hgr6, -, hat6⟩ := run_append_own_at (P := Try.prog) (w := Z1) 0 39 39 3 j0 (.int .i64 0) 1 8 Try.underlying39 hj hy0 hy1 hy2 rfl (by decide) v2 (idsOf m T).length ((idsOf m T).map fun i => Value.int .i64 i) HO1.out ⟨gz, 0, none⟩ 1 1 [.int .i64 (L1 : Int)] rfl (src_cells HNEW.out) (by intro u hu; simp at hu; subst hu; rfl) (by unfold maxLen; omega) (by omega) (Nat.zero_le _)
  refine wp_append_run _ _ _ _ rfl _ _ v6 w6 rfl rfl hr6 ?_
  have hS6 : OffM (fun k => v2.ownBlock = some k) Y w6 := HSD1.out.trans (OffM.grown hgr6) (fun _ _ h => h)
  refine hK.out _ _ (fun _ => hS6) ?_
  clear hK K
  (try simp only [Act.put, List.setIfInBounds_toArray, List.set_cons_zero, List.set_cons_succ])
  have hO6 : OwnI 3 0 w6 v6 (idsOf m T ++ [(T.length : Int) + 1]) := by unfold OwnI; rw [List.length_append, List.map_append, HL1.out]; exact ho6
  obtain ⟨w8, hr8, hM8, hg8⟩ := HPUT.out w6 v6 s HSM.out (by omega) hS6 hO6 (by rcases hat6 with h | h; exact .inl h; exact .inr ⟨_, h, by omega⟩)
  have HS6 := Lib.hid hS6; have HO6 := Lib.hid hO6; have HM8 := Lib.hid hM8; have HG8 := Lib.hid hg8; have HAT := Lib.hid hat6
  clear hr6 hgr6 hS6 ho6 hO6 hM8 hg8 hat6
  refine late_ready (rs := [16]) (by as_aux_lemma => kernel_rfl) (by simp) (.cons rfl false rfl (fun K hK => ?_) .nil)
  rw [if_pos (by kernel_rfl)]
  go_simp
  refine hK.out _ _ (fun h => by cases h) ?_
  clear hK K
  (try simp only [Act.put, List.setIfInBounds_toArray, List.set_cons_zero, List.set_cons_succ])
  refine late_done (by kernel_rfl) ?_ _
  go_upto_region 17 with fail
  have hG16 : ∀ k, (G k ∨ v6.ownBlock = some k) → G k ∨ ((Fr k ∨ W.heap.size ≤ k) ∧ ¬ F k) := fun k e => by
    rcases e with e | e
    · exact .inl e
    · rcases HAT.out with e2 | e2
      · exact .inl (HVG.out k (by rw [← e2]; exact e))
      · rw [e2] at e
        have e1 := Option.some.inj e
        have hWY := HOW8.out.size
        refine .inr ⟨.inr (by omega), fun hF => ?_⟩
        have := HX8.out.fl k hF
        omega
  have hGl16 : ∀ k, (G k ∨ v6.ownBlock = some k) → k < w8.heap.size := fun k e => by
    have h68 := HG8.out.size
    rcases e with e | e
    · have h1 := HX8.out.gl k e
      have h2 := HS6.out.size
      omega
    · have := (ownsRow_block HO6.out k e).2
      omega
  have HX9 := Lib.hid (HX8.out.met3 HV2.out HVG.out HS6.out HG8.out HM8.out hG16 hGl16)
  have hof16 : OffM (fun k => v2.ownBlock = some k ∨ k = hmm) Y w8 := (HS6.out.more (fun _ _ e => .inl e)).trans (OffM.grown HG8.out) (fun k _ e => .inr (by cases e; rfl))
  have hmB : ¬ (v2.ownBlock = some B ∨ B = hmm) := fun e => by
    rcases e with e | e
    · exact HBN.out e
    · obtain ⟨es, ck, hk⟩ := HX8.out.met.map
      rw [← e] at hk
      exact K9.out.nomap hk
  have hnl16 : NoLab (fun k => v2.ownBlock = some k ∨ k = hmm) Y := fun k e cur hk => by
    rcases e with e | e
    · obtain ⟨cur2, hc⟩ := own_cells HV2.out e
      rw [hc] at hk
      simp at hk
    · subst e
      obtain ⟨es, ck, hk2⟩ := HX8.out.met.map
      rw [hk2] at hk; cases hk
  have K10 := Lib.hid (K9.out.offN hof16 hmB)
  have HOL9 := Lib.hid (HOL8.out.offM hof16 hnl16)
  have HOW9 := Lib.hid (offX HOW8.out hof16 (fun i e => by
    rcases e with e | e
    · exact HX8.out.fr.2.2.2.2.1 i (HVG.out i e)
    · rw [e]; exact HX8.out.fr.2.2.1))
  have hl10 := K10.out.cell 1 _ rfl; have hBl := K10.out.lt
  clear hG16 hGl16 hof16 hmB hnl16 HX8 K9 HOL8 HOW8 HLK HPUT HVG HV2 HG2 HB30 HGN HBN HMN HB0 HSD1 HO1 HNEW HS6 HO6 HM8 HG8 HAT hgl hhmlt hz1 hgzl hr8
  obtain ⟨G2, hG2⟩ : ∃ z, (fun k => G k ∨ v6.ownBlock = some k) = z := ⟨_, rfl⟩
  rw [hG2] at HX9
  clear hG2
  obtain ⟨X9, rfl⟩ : ∃ z, z = w8 := ⟨_, rfl⟩
  obtain ⟨lv9, hlv9⟩ : ∃ z, (Value.slice a6 L1 c6) = z := ⟨_, rfl⟩
  rw [hlv9] at HX9
  clear hlv9
  have HTT := Lib.hid (show putS T s = T ++ [s] from putS_new HOK.out HOJ.out)
  have hN8i : (N : Int) ≤ 8 := by omega
  go_wp2
  clear hl10 hBl
  go_loopw [84] (fun j wr => ∃ k : Nat, k ≤ N ∧ j = .int .i64 k ∧ LoopI Fr W g c (T ++ [s]) lv9 hb hmm hx G2 (.slice pv N cv) s.labs k wr) (fun j _ => N - (intOf j).toNat)
  case atStart => exact ⟨0, Nat.zero_le _, rfl, F, HX9.out, HOW9.out, HOL9.out⟩
  case round =>
    obtain ⟨k, hk, rfl, F1, hXk, hOWk, hOLk⟩ := hrel
    obtain ⟨X1, rfl⟩ : ∃ z, z = wr := ⟨_, rfl⟩
    have HXk := Lib.hid hXk; have HOWk := Lib.hid hOWk; have HOLk := Lib.hid hOLk
    clear hXk hOWk hOLk
    by_cases hlt : k < N
    · have hki : (k : Int) < (N : Int) := by omega
      have hkl : k < s.labs.length := by have := HNL.out; omega
      have hILs := HOLk.out.labs (Nat.le_refl _) HSMALL.out
      obtain ⟨b1, o1, rfl, hb1, d0, d1, hsn, hst⟩ := hILs.get hkl
      obtain ⟨x, hx'⟩ : ∃ x, s.labs[k] = x := ⟨_, rfl⟩
      rw [hx'] at d0 d1 hsn hst
      clear hx' hILs hkl
      obtain ⟨nm, tx⟩ := x
      simp only at d0 d1 hsn hst
      have HNS := Lib.hid hsn; have HTS := Lib.hid hst
      clear hsn hst
      go_upto_region 20 with fail
      have kL := Blk.new X1 [.string nm, .string tx] 63
      have hr : Below X1.heap.size X1 (X1.alloc (.cells #[.string nm, .string tx] 63)) := (Below.refl _ _).alloc (Nat.le_refl _) _
      obtain ⟨Lb, hLb⟩ : ∃ z, X1.heap.size = z := ⟨_, rfl⟩
      obtain ⟨Y1, hY1⟩ : ∃ z, X1.alloc (.cells #[.string nm, .string tx] 63) = z := ⟨_, rfl⟩
      rw [show X1.alloc (.cells ([.string nm, .string tx] : List Value).toArray 63) = Y1 from hY1] at kL
      rw [hY1] at hr ⊢
      have HX2 := Lib.hid (HXk.out.keep hr)
      have HOW2 := Lib.hid (offX (M := fun _ => False) HOWk.out (OffM.of hr) (fun _ e => e.elim))
      have HOL2 := Lib.hid (HOLk.out.offM (M := fun _ => False) (OffM.of hr) (fun _ e => e.elim))
      have hLbF : ∀ k, F1 k → k ≠ Lb := fun k hk => by have := HXk.out.fl k hk; omega
      rw [hLb] at kL ⊢
      have KL := Lib.hid kL
      clear hY1 hLb hr kL d0 d1 hb1 HXk HOWk HOLk
      obtain ⟨cc, hcc⟩ : ∃ z, c + 2 + 2 * k = z := ⟨_, rfl⟩
      rw [hcc] at HX2
      have hccb : cc ≤ 60000 := by omega
      have HCC := Lib.hid hcc
      clear hcc
      obtain ⟨hFx, mm, D, hmm', hO⟩ := id HX2.out.idx
      have g3 := HX2.out.blk.cell 3 _ rfl; have hgl := HX2.out.blk.lt
      have l0 := KL.out.cell 0 _ rfl; have hLl := KL.out.lt
      have qE : ∀ (w : World) (r : Option Nat), (Go.binOp .eql 56 (.map r) (.map none)).run Try.prog w = .ok (.bool r.isNone) w := fun w r => run_eql_map_nil w _ _ _ r Try.underlying56
      have hcase := hO.at HNS.out
      have HO := Lib.hid hO; have HFX := Lib.hid hFx
      clear hO hFx
      rcases hcase with ⟨hat, hlk⟩ | ⟨b, hat⟩
      · have hlkn : ∀ n, (Instr.lookup 57 (.map (some hx)) (.string nm) false).run Try.prog (Y1.drewN n) = .ok (.map none) (Y1.drewN n) := fun n => hlk (Y1.drewN n) rfl
        go_quiet (fail)
        have hq : Below Y1.heap.size Y1 (Y1.drewN nq) := below_drewN (Below.refl _ _) _
        have HX3 := Lib.hid (HX2.out.keep hq)
        have HOM := Lib.hid (HO.out.keep HFX.out (fun k hk _ => hq.block k hk))
        have HOW3 := Lib.hid (offX (M := fun _ => False) HOW2.out (OffM.of hq) (fun _ e => e.elim))
        have HOL3 := Lib.hid (HOL2.out.offM (M := fun _ => False) (OffM.of hq) (fun _ e => e.elim))
        have KL3 := Lib.hid (KL.out.keep hq)
        obtain ⟨Y, hYY⟩ : ∃ z, Y1.drewN nq = z := ⟨_, rfl⟩
        rw [hYY] at HX3 HOM HOW3 HOL3 KL3 ⊢
        clear hYY hq hlkn hlk hat g3 hgl l0 hLl HX2 HO HOW2 HOL2 KL
        have hgl := HX3.out.blk.lt; have hLl := KL3.out.lt
        have HG3 := Lib.hid (HX3.out.blk.cell 3 _ rfl); have HC0 := Lib.hid (KL3.out.cell 0 _ rfl)
        go_upto_region 21 with fail
        refine wp_region_late [7] (fun X => OffM (fun _ => False) Y X) (by kernel_rfl) ?_
        have hSd : OffM (fun _ => False) Y Y.drew := OffM.of (Below.drew (Below.refl _ _))
        obtain ⟨Z0, hZ0⟩ : ∃ z, Y.drew = z := ⟨_, rfl⟩
        have HB0 := Lib.hid (show Below Y.heap.size Y Z0 from by rw [← hZ0]; exact Below.drew (Below.refl _ _))
        rw [hZ0] at hSd ⊢
        clear hZ0
        (refine late_take 0 96 (.pointer (some ⟨g, 0, none⟩)) rfl rfl (by as_aux_lemma => kernel_rfl) (by as_aux_lemma => kernel_rfl) (by as_aux_lemma => kernel_rfl) rfl (by as_aux_lemma => kernel_rfl) (fun _ _ _ h => h) (by kernel_rfl) ?_ hSd ?_; (intro w' hSw; clear hSw; go_simp); simp only [List.set_cons_zero, List.set_cons_succ])
        (refine late_take 1 97 (.pointer (some ⟨g, 0, none⟩)) rfl rfl (by as_aux_lemma => kernel_rfl) (by as_aux_lemma => kernel_rfl) (by as_aux_lemma => kernel_rfl) rfl (by as_aux_lemma => kernel_rfl) (fun _ _ _ h => h) (by kernel_rfl) ?_ hSd ?_; (intro w' hSw; clear hSw; go_simp); simp only [List.set_cons_zero, List.set_cons_succ])
        (refine late_take 2 98 (.pointer (some ⟨g, 3, none⟩)) rfl rfl (by as_aux_lemma => kernel_rfl) (by as_aux_lemma => kernel_rfl) (by as_aux_lemma => kernel_rfl) rfl (by as_aux_lemma => kernel_rfl) (fun _ _ _ h => h) (by kernel_rfl) ?_ hSd ?_; (intro w' hSw; clear hSw; go_simp); simp only [List.set_cons_zero, List.set_cons_succ])
        (refine late_take 3 99 (.map (some hx)) rfl rfl (by as_aux_lemma => kernel_rfl) (by as_aux_lemma => kernel_rfl) (by as_aux_lemma => kernel_rfl) rfl (by as_aux_lemma => kernel_rfl) (fun _ _ _ h => h) (by kernel_rfl) ?_ hSd ?_; (intro w' hSw; have f0 := (cellO hSw hgl (fun h => h) 3).trans HG3.out; clear hSw; go_simp); simp only [List.set_cons_zero, List.set_cons_succ])
        (refine late_take 4 100 (.pointer (some ⟨Lb, 0, none⟩)) rfl rfl (by as_aux_lemma => kernel_rfl) (by as_aux_lemma => kernel_rfl) (by as_aux_lemma => kernel_rfl) rfl (by as_aux_lemma => kernel_rfl) (fun _ _ _ h => h) (by kernel_rfl) ?_ hSd ?_; (intro w' hSw; clear hSw; go_simp); simp only [List.set_cons_zero, List.set_cons_succ])
        (refine late_take 5 101 (.string nm) rfl rfl (by as_aux_lemma => kernel_rfl) (by as_aux_lemma => kernel_rfl) (by as_aux_lemma => kernel_rfl) rfl (by as_aux_lemma => kernel_rfl) (fun _ _ _ h => h) (by kernel_rfl) ?_ hSd ?_; (intro w' hSw; have f0 := (cellO hSw hLl (fun h => h) 0).trans HC0.out; clear hSw; go_simp); simp only [List.set_cons_zero, List.set_cons_succ])
        refine late_ready (rs := [6]) (by as_aux_lemma => kernel_rfl) (by simp) (.cons rfl true rfl (fun K hK => ?_) .nil)
        rw [if_pos (by kernel_rfl)]
        go_simp
        have hSd1 : OffM (fun _ => False) Y (Z0.alloc (.map #[] 0)) := hSd.trans (OffM.of ((Below.refl _ _).alloc (Nat.le_refl _) _)) (fun _ _ h => h)
        refine hK.out _ _ (fun _ => hSd1) ?_
        clear hK K
        (try simp only [Act.put, List.setIfInBounds_toArray, List.set_cons_zero, List.set_cons_succ])
        obtain ⟨w8, hr8, hO8, hg8⟩ := idx_make (HOM.out.keep HFX.out (fun k hk _ => HB0.out.block k hk)) HFX.out (by omega) HNS.out
        have HO8 := Lib.hid hO8; have HG8 := Lib.hid hg8
        clear hO8 hg8
        refine late_ready (rs := [7]) (by as_aux_lemma => kernel_rfl) (by simp) (.cons rfl false rfl (fun K hK => ?_) .nil)
        rw [if_pos (by kernel_rfl)]
        go_simp
        refine hK.out _ _ (fun h => by cases h) ?_
        clear hK K
        (try simp only [Act.put, List.setIfInBounds_toArray, List.set_cons_zero, List.set_cons_succ])
        refine late_done (by kernel_rfl) ?_ _
        have hZs : (Z0.alloc (.map #[] 0)).heap.size = Z0.heap.size + 1 := World.size_alloc _ _
        have hof : OffM F1 Y w8 := ((OffM.of (M := F1) HB0.out).trans (OffM.of (M := F1) ((Below.refl _ _).alloc (Nat.le_refl _) (.map #[] 0))) (fun _ _ e => e)).trans (OffM.grown HG8.out) (fun k _ e => by cases e; exact HFX.out)
        have hxm : ∃ es ck, w8.heap[hx]? = some (.map es ck) := by
          obtain ⟨es, ck, hM, -⟩ := HO8.out
          exact ⟨es, ck, hM⟩
        have hnl := nolab_make HX3.out.fn HX3.out.fl HB0.out HG8.out hxm
        have hXc := HX3.out.idx4 (c' := cc + 1) (by omega) hof ⟨.inl HFX.out, mm + 1, _, by omega, HO8.out.shape (.inl HFX.out) (fun _ h => h) (by omega) (fun _ _ _ _ _ => rfl) (fun k cur _ hh => ⟨cur, hh, rfl⟩)⟩ (fun k' e => by
          rcases e with e | e
          · exact .inl e
          · have h1 := HB0.out.size; have h2 := HOW3.out.size
            exact .inr ⟨.inr (by omega), by omega⟩) (fun k' e => by
          have h8 := HG8.out.size
          rcases e with e | e
          · have h1 := HX3.out.fl k' e; have h2 := HB0.out.size; omega
          · omega) hnl
        have HXc := Lib.hid hXc
        have HOWc := Lib.hid (offX HOW3.out hof (fun i e => HX3.out.fr.2.2.2.2.2 i e))
        have HOLc := Lib.hid (HOL3.out.offM hof HX3.out.fn)
        have KLc := Lib.hid (KL3.out.offN hof (fun e => by
          have h : Y.heap[Lb]? = _ := KL3.out
          exact HX3.out.fn Lb e _ h))
        have HAT2 := Lib.hid (at_same HOM.out.isMap HNS.out (.lit (.int .i64 Z0.heap.size)) .nil)
        have HFXX := Lib.hid (show (fun k => F1 k ∨ k = Z0.heap.size) hx from .inl HFX.out)
        obtain ⟨b, hb9⟩ : ∃ z, Z0.heap.size = z := ⟨_, rfl⟩
        obtain ⟨F2, hF2⟩ : ∃ z, (fun k => F1 k ∨ k = Z0.heap.size) = z := ⟨_, rfl⟩
        rw [hF2] at HXc HO8 HFXX
        obtain ⟨D2, hD2⟩ : ∃ z, D.put (.string nm.data.toList) (.lit (.int .i64 (Z0.heap.size : Int))) = z := ⟨_, rfl⟩
        rw [hD2] at HO8 HAT2
        rw [hb9] at HAT2
        obtain ⟨mm2, hmm2⟩ : ∃ z, mm + 1 = z := ⟨_, rfl⟩
        rw [hmm2] at HO8
        have hmm3 : mm2 ≤ cc + 1 := by omega
        clear hF2 hD2 hb9 hmm2 hZs hof hxm hnl hXc HX3 HOM HOW3 HOL3 KL3 HG3 HC0 hgl hLl HFX HG8 hr8 HB0 hSd1
        have HOM := Lib.hid HO8.out; have HFX := Lib.hid HFXX.out
        clear HO8 HFXX
        obtain ⟨Y, rfl⟩ : ∃ z, z = w8 := ⟨_, rfl⟩
        obtain ⟨hP, hlkb⟩ := HOM.out.inner HNS.out HAT2.out
        obtain ⟨hbx, hFb, hinn⟩ := hP
        obtain ⟨v2, hv2, hl2⟩ := hinn.look HTS.out
        have HFBB := Lib.hid hFb
        have HV2 := Lib.hid hv2; have HLK := Lib.hid hlkb; have HL2 := Lib.hid hl2
        have hv2row : ∀ k, v2.ownBlock = some k → F2 k ∧ ∃ cur, Y.heap[k]? = some (.cells cur 3 (0, 0)) := fun k hk => by
          rcases hv2 with rfl | ⟨g1, n1, cap1, cur1, rfl, q0, q1, -⟩
          · cases hk
          · simp [Value.ownBlock] at hk
            subst hk
            exact ⟨q0, cur1, q1⟩
        have hblt : b < Y.heap.size := by
          obtain ⟨m', D', -, hM⟩ := hinn
          exact hM.lt
        have HBN := Lib.hid (show ¬ v2.ownBlock = some b from fun e => by
          obtain ⟨-, cur, hc⟩ := hv2row b e
          obtain ⟨m', D', -, es, ck, hM, -⟩ := hinn
          rw [hM] at hc; cases hc)
        have HXN := Lib.hid (show ¬ v2.ownBlock = some hx from fun e => by
          obtain ⟨-, cur, hc⟩ := hv2row hx e
          obtain ⟨es, ck, hM⟩ := HXc.out.idx.map
          rw [hM] at hc; cases hc)
        have HGN := Lib.hid (show ¬ v2.ownBlock = some g from fun e => by
          obtain ⟨-, cur, hc⟩ := hv2row g e
          exact absurd (HXc.out.blk.ty hc) (by decide))
        have HLN := Lib.hid (show ¬ v2.ownBlock = some Lb from fun e => by
          obtain ⟨-, cur, hc⟩ := hv2row Lb e
          exact absurd (KLc.out.ty hc) (by decide))
        have HV2R := Lib.hid hv2row
        have hhxlt := HOM.out.lt
        have hgl := HXc.out.blk.lt; have hLl := KLc.out.lt
        have HG3 := Lib.hid (HXc.out.blk.cell 3 _ rfl); have HC0 := Lib.hid (KLc.out.cell 0 _ rfl); have HC1 := Lib.hid (KLc.out.cell 1 _ rfl)
        clear hlkb hv2 hl2 hv2row hinn hbx hFb
        go_upto_region 22 with fail
        refine wp_region_late [22] (fun X => OffM (fun k => v2.ownBlock = some k) Y X) (by kernel_rfl) ?_
        have hSd : OffM (fun k => v2.ownBlock = some k) Y Y.drew := OffM.of (Below.drew (Below.refl _ _))
        obtain ⟨Z0, hZ0⟩ : ∃ z, Y.drew = z := ⟨_, rfl⟩
        have HB0 := Lib.hid (show Below Y.heap.size Y Z0 from by rw [← hZ0]; exact Below.drew (Below.refl _ _))
        rw [hZ0] at hSd ⊢
        clear hZ0
        (refine late_take 0 103 (.pointer (some ⟨g, 0, none⟩)) rfl rfl (by as_aux_lemma => kernel_rfl) (by as_aux_lemma => kernel_rfl) (by as_aux_lemma => kernel_rfl) rfl (by as_aux_lemma => kernel_rfl) (fun _ _ _ h => h) (by kernel_rfl) ?_ hSd ?_; (intro w' hSw; clear hSw; go_simp); simp only [List.set_cons_zero, List.set_cons_succ])
        (refine late_take 1 104 (.pointer (some ⟨g, 0, none⟩)) rfl rfl (by as_aux_lemma => kernel_rfl) (by as_aux_lemma => kernel_rfl) (by as_aux_lemma => kernel_rfl) rfl (by as_aux_lemma => kernel_rfl) (fun _ _ _ h => h) (by kernel_rfl) ?_ hSd ?_; (intro w' hSw; clear hSw; go_simp); simp only [List.set_cons_zero, List.set_cons_succ])
        (refine late_take 2 105 (.pointer (some ⟨g, 3, none⟩)) rfl rfl (by as_aux_lemma => kernel_rfl) (by as_aux_lemma => kernel_rfl) (by as_aux_lemma => kernel_rfl) rfl (by as_aux_lemma => kernel_rfl) (fun _ _ _ h => h) (by kernel_rfl) ?_ hSd ?_; (intro w' hSw; clear hSw; go_simp); simp only [List.set_cons_zero, List.set_cons_succ])
        (refine late_take 3 106 (.map (some hx)) rfl rfl (by as_aux_lemma => kernel_rfl) (by as_aux_lemma => kernel_rfl) (by as_aux_lemma => kernel_rfl) rfl (by as_aux_lemma => kernel_rfl) (fun _ _ _ h => h) (by kernel_rfl) ?_ hSd ?_; (intro w' hSw; have f0 := (cellO hSw hgl HGN.out 3).trans HG3.out; clear hSw; go_simp); simp only [List.set_cons_zero, List.set_cons_succ])
        (refine late_take 4 107 (.pointer (some ⟨Lb, 0, none⟩)) rfl rfl (by as_aux_lemma => kernel_rfl) (by as_aux_lemma => kernel_rfl) (by as_aux_lemma => kernel_rfl) rfl (by as_aux_lemma => kernel_rfl) (fun _ _ _ h => h) (by kernel_rfl) ?_ hSd ?_; (intro w' hSw; clear hSw; go_simp); simp only [List.set_cons_zero, List.set_cons_succ])
        (refine late_take 5 108 (.string nm) rfl rfl (by as_aux_lemma => kernel_rfl) (by as_aux_lemma => kernel_rfl) (by as_aux_lemma => kernel_rfl) rfl (by as_aux_lemma => kernel_rfl) (fun _ _ _ h => h) (by kernel_rfl) ?_ hSd ?_; (intro w' hSw; have f0 := (cellO hSw hLl HLN.out 0).trans HC0.out; clear hSw; go_simp); simp only [List.set_cons_zero, List.set_cons_succ])
        (refine late_take 6 109 (.map (some b)) rfl rfl (by as_aux_lemma => kernel_rfl) (by as_aux_lemma => kernel_rfl) (by as_aux_lemma => kernel_rfl) rfl (by as_aux_lemma => kernel_rfl) (fun _ _ _ h => h) (by kernel_rfl) ?_ hSd ?_; (intro w' hSw; have hl := HLK.out w' (hSw.block _ hhxlt HXN.out); clear hSw; go_simp); simp only [List.set_cons_zero, List.set_cons_succ])
        (refine late_take 7 110 (.pointer (some ⟨Lb, 1, none⟩)) rfl rfl (by as_aux_lemma => kernel_rfl) (by as_aux_lemma => kernel_rfl) (by as_aux_lemma => kernel_rfl) rfl (by as_aux_lemma => kernel_rfl) (fun _ _ _ h => h) (by kernel_rfl) ?_ hSd ?_; (intro w' hSw; clear hSw; go_simp); simp only [List.set_cons_zero, List.set_cons_succ])
        (refine late_take 8 111 (.string tx) rfl rfl (by as_aux_lemma => kernel_rfl) (by as_aux_lemma => kernel_rfl) (by as_aux_lemma => kernel_rfl) rfl (by as_aux_lemma => kernel_rfl) (fun _ _ _ h => h) (by kernel_rfl) ?_ hSd ?_; (intro w' hSw; have f0 := (cellO hSw hLl HLN.out 1).trans HC1.out; clear hSw; go_simp); simp only [List.set_cons_zero, List.set_cons_succ])
        (refine late_take 9 112 (.pointer (some ⟨g, 0, none⟩)) rfl rfl (by as_aux_lemma => kernel_rfl) (by as_aux_lemma => kernel_rfl) (by as_aux_lemma => kernel_rfl) rfl (by as_aux_lemma => kernel_rfl) (fun _ _ _ h => h) (by kernel_rfl) ?_ hSd ?_; (intro w' hSw; clear hSw; go_simp); simp only [List.set_cons_zero, List.set_cons_succ])
        (refine late_take 10 113 (.pointer (some ⟨g, 0, none⟩)) rfl rfl (by as_aux_lemma => kernel_rfl) (by as_aux_lemma => kernel_rfl) (by as_aux_lemma => kernel_rfl) rfl (by as_aux_lemma => kernel_rfl) (fun _ _ _ h => h) (by kernel_rfl) ?_ hSd ?_; (intro w' hSw; clear hSw; go_simp); simp only [List.set_cons_zero, List.set_cons_succ])
        (refine late_take 11 114 (.pointer (some ⟨g, 3, none⟩)) rfl rfl (by as_aux_lemma => kernel_rfl) (by as_aux_lemma => kernel_rfl) (by as_aux_lemma => kernel_rfl) rfl (by as_aux_lemma => kernel_rfl) (fun _ _ _ h => h) (by kernel_rfl) ?_ hSd ?_; (intro w' hSw; clear hSw; go_simp); simp only [List.set_cons_zero, List.set_cons_succ])
        (refine late_take 12 115 (.map (some hx)) rfl rfl (by as_aux_lemma => kernel_rfl) (by as_aux_lemma => kernel_rfl) (by as_aux_lemma => kernel_rfl) rfl (by as_aux_lemma => kernel_rfl) (fun _ _ _ h => h) (by kernel_rfl) ?_ hSd ?_; (intro w' hSw; have f0 := (cellO hSw hgl HGN.out 3).trans HG3.out; clear hSw; go_simp); simp only [List.set_cons_zero, List.set_cons_succ])
        (refine late_take 13 116 (.pointer (some ⟨Lb, 0, none⟩)) rfl rfl (by as_aux_lemma => kernel_rfl) (by as_aux_lemma => kernel_rfl) (by as_aux_lemma => kernel_rfl) rfl (by as_aux_lemma => kernel_rfl) (fun _ _ _ h => h) (by kernel_rfl) ?_ hSd ?_; (intro w' hSw; clear hSw; go_simp); simp only [List.set_cons_zero, List.set_cons_succ])
        (refine late_take 14 117 (.string nm) rfl rfl (by as_aux_lemma => kernel_rfl) (by as_aux_lemma => kernel_rfl) (by as_aux_lemma => kernel_rfl) rfl (by as_aux_lemma => kernel_rfl) (fun _ _ _ h => h) (by kernel_rfl) ?_ hSd ?_; (intro w' hSw; have f0 := (cellO hSw hLl HLN.out 0).trans HC0.out; clear hSw; go_simp); simp only [List.set_cons_zero, List.set_cons_succ])
        (refine late_take 15 118 (.map (some b)) rfl rfl (by as_aux_lemma => kernel_rfl) (by as_aux_lemma => kernel_rfl) (by as_aux_lemma => kernel_rfl) rfl (by as_aux_lemma => kernel_rfl) (fun _ _ _ h => h) (by kernel_rfl) ?_ hSd ?_; (intro w' hSw; have hl := HLK.out w' (hSw.block _ hhxlt HXN.out); clear hSw; go_simp); simp only [List.set_cons_zero, List.set_cons_succ])
        (refine late_take 16 119 (.pointer (some ⟨Lb, 1, none⟩)) rfl rfl (by as_aux_lemma => kernel_rfl) (by as_aux_lemma => kernel_rfl) (by as_aux_lemma => kernel_rfl) rfl (by as_aux_lemma => kernel_rfl) (fun _ _ _ h => h) (by kernel_rfl) ?_ hSd ?_; (intro w' hSw; clear hSw; go_simp); simp only [List.set_cons_zero, List.set_cons_succ])
        (refine late_take 17 120 (.string tx) rfl rfl (by as_aux_lemma => kernel_rfl) (by as_aux_lemma => kernel_rfl) (by as_aux_lemma => kernel_rfl) rfl (by as_aux_lemma => kernel_rfl) (fun _ _ _ h => h) (by kernel_rfl) ?_ hSd ?_; (intro w' hSw; have f0 := (cellO hSw hLl HLN.out 1).trans HC1.out; clear hSw; go_simp); simp only [List.set_cons_zero, List.set_cons_succ])
        (refine late_take 18 121 (v2) rfl rfl (by as_aux_lemma => kernel_rfl) (by as_aux_lemma => kernel_rfl) (by as_aux_lemma => kernel_rfl) rfl (by as_aux_lemma => kernel_rfl) (fun _ _ _ h => h) (by kernel_rfl) ?_ hSd ?_; (intro w' hSw; have hl := HL2.out w' (hSw.block _ hblt HBN.out); clear hSw; go_simp); simp only [List.set_cons_zero, List.set_cons_succ])
        (refine late_take 19 122 (.int .i64 (L1 : Int)) rfl rfl (by as_aux_lemma => kernel_rfl) (by as_aux_lemma => kernel_rfl) (by as_aux_lemma => kernel_rfl) rfl (by as_aux_lemma => kernel_rfl) (fun _ _ _ h => h) (by kernel_rfl) ?_ hSd ?_; (intro w' hSw; clear hSw; go_simp); simp only [List.set_cons_zero, List.set_cons_succ])
        refine late_ready (rs := [20]) (by as_aux_lemma => kernel_rfl) (by simp) (.cons rfl true rfl (fun K hK => ?_) .nil)
        rw [if_pos (by kernel_rfl)]
        go_simp
        have hSd1 : OffM (fun k => v2.ownBlock = some k) Y (Z0.alloc (.cells #[.int .i64 (L1 : Int)] 3)) := hSd.trans (OffM.of ((Below.refl _ _).alloc (Nat.le_refl _) _)) (fun _ _ h => h)
        refine hK.out _ _ (fun _ => hSd1) ?_
        clear hK K
        (try simp only [Act.put, List.setIfInBounds_toArray, List.set_cons_zero, List.set_cons_succ])
        have hnew := Blk.new Z0 [.int .i64 (L1 : Int)] 3
        have hb1 := HB0.out.alloc HB0.out.size (.cells #[.int .i64 (L1 : Int)] 3)
        have hz1 : (Z0.alloc (.cells #[.int .i64 (L1 : Int)] 3)).heap.size = Z0.heap.size + 1 := World.size_alloc _ _
        obtain ⟨gz, hgz⟩ : ∃ z, Z0.heap.size = z := ⟨_, rfl⟩
        obtain ⟨Z1, hZ1⟩ : ∃ z, Z0.alloc (.cells #[.int .i64 (L1 : Int)] 3) = z := ⟨_, rfl⟩
        rw [show Z0.alloc (.cells ([.int .i64 (L1 : Int)] : List Value).toArray 3) = Z1 from hZ1] at hnew
        rw [hZ1] at hSd1 hb1 hz1 ⊢
        rw [hgz] at hnew hz1 ⊢
        clear hZ1 hSd hgz
        have HB1 := Lib.hid hb1
        have hv21 : SafeI F2 cc Z1 v2 := HV2.out.off (fun _ h => h) (Nat.le_refl _) (fun k cur _ hh => ⟨cur, (hb1.block k (Array.getElem?_eq_some_iff.1 hh).1).trans hh, rfl⟩)
        obtain ⟨v6, w6, hr6, hgr6, hv6, hrow6, hown6, hnew6⟩ := safe_app hv21 (hnew.cell 0 _ rfl) (by omega) 39
        have HS1 := Lib.hid hSd1
        have HO1 := Lib.hid (HOM.out.keep HFX.out (fun k hk _ => hb1.block k hk))
        clear hSd1 hb1 hnew hv21
        refine late_ready (rs := [21]) (by as_aux_lemma => kernel_rfl) (by simp) (.cons rfl true rfl (fun K hK => ?_) .nil)
        rw [if_pos (by kernel_rfl)]
        refine wp_append_run _ _ _ _ rfl _ _ v6 w6 rfl rfl hr6 ?_
        have hS6 : OffM (fun k => v2.ownBlock = some k) Y w6 := HS1.out.trans (OffM.grown hgr6) (fun _ _ h => h)
        refine hK.out _ _ (fun _ => hS6) ?_
        clear hK K
        (try simp only [Act.put, List.setIfInBounds_toArray, List.set_cons_zero, List.set_cons_succ])
        have hO6 := HO1.out.shape (F' := fun k => F2 k ∨ v6.ownBlock = some k) (c' := cc + 1) (w' := w6) HFX.out (fun _ h => .inl h) (by omega) (fun k es ck hF hk => hgr6.block k (Array.getElem?_eq_some_iff.1 hk).1 (fun e => by obtain ⟨-, cur, hc⟩ := hown6 k e.symm; rw [hk] at hc; cases hc)) hrow6
        obtain ⟨w8, hr8, hO8, hg8⟩ := idx_put hO6 (.inl HFX.out) (hO6.inner HNS.out HAT2.out).1 hv6 (by omega) HTS.out
        have HS6 := Lib.hid hS6; have HO8 := Lib.hid hO8; have HG8 := Lib.hid hg8; have HR6 := Lib.hid hown6; have HGR := Lib.hid hgr6; have HZ1 := Lib.hid hz1; have HROW := Lib.hid hrow6; have HNEW6 := Lib.hid hnew6
        clear hr6 hgr6 hS6 hO6 hv6 hrow6 hown6 hnew6 hO8 hg8 hz1
        refine late_ready (rs := [22]) (by as_aux_lemma => kernel_rfl) (by simp) (.cons rfl false rfl (fun K hK => ?_) .nil)
        rw [if_pos (by kernel_rfl)]
        go_simp
        refine hK.out _ _ (fun h => by cases h) ?_
        clear hK K
        (try simp only [Act.put, List.setIfInBounds_toArray, List.set_cons_zero, List.set_cons_succ])
        refine late_done (by kernel_rfl) ?_ _
        have hofx : OffM F2 Y w8 := (HS6.out.more (fun k _ e => (HV2R.out k e).1)).trans (OffM.grown HG8.out) (fun k _ e => by cases e; exact HFBB.out)
        have hbm : ∃ es ck, w8.heap[b]? = some (.map es ck) := by
          obtain ⟨m', D', -, es, ck, hM, -⟩ := (HO8.out.inner HNS.out HAT2.out).1.2.2
          exact ⟨es, ck, hM⟩
        have hnl := nolab_app (v := v2) HXc.out.fn HXc.out.fl HB1.out HGR.out HG8.out hbm HROW.out HR6.out HNEW6.out
        have hXn := HXc.out.idx4 (c' := cc + 2) (by omega) hofx ⟨.inl HFX.out, mm2, D2, by omega, HO8.out⟩ (fun k' e => by
          rcases e with e | e
          · exact .inl e
          · rcases (HNEW6.out k' e).1 with e2 | e2
            · exact .inl e2
            · have h1 := HB1.out.size; have h2 := HOWc.out.size
              exact .inr ⟨.inr (by omega), by omega⟩) (fun k' e => by
          have h8 := HG8.out.size
          rcases e with e | e
          · have h1 := HXc.out.fl k' e; have h2 := HS6.out.size; omega
          · obtain ⟨-, cur, hc⟩ := HNEW6.out k' e
            have := (Array.getElem?_eq_some_iff.1 hc).1
            omega) hnl
        rw [show cc + 2 = c + 2 + 2 * (k + 1) by have := HCC.out; omega] at hXn
        have HXN2 := Lib.hid hXn
        have HOWN := Lib.hid (offX HOWc.out hofx (fun i e => HXc.out.fr.2.2.2.2.2 i e))
        have HOLN := Lib.hid (HOLc.out.offM hofx HXc.out.fn)
        clear hofx hbm hnl hXn hr8
        go_wp2
        exact ⟨⟨k + 1, by omega, by go_num, fun k => F2 k ∨ v6.ownBlock = some k, HXN2.out, HOWN.out, HOLN.out⟩, by simp [intOf]; omega⟩
      · have hlkn : ∀ n, (Instr.lookup 57 (.map (some hx)) (.string nm) false).run Try.prog (Y1.drewN n) = .ok (.map (some b)) (Y1.drewN n) := fun n => (HO.out.inner HNS.out hat).2 (Y1.drewN n) rfl
        go_quiet (fail)
        have hq : Below Y1.heap.size Y1 (Y1.drewN nq) := below_drewN (Below.refl _ _) _
        have hXc := HX2.out.keep hq
        have HXc := Lib.hid (hXc.idx4 (c' := cc + 1) (by omega) (OffM.refl F1 _) ⟨HFX.out, mm, D, by omega, (HO.out.keep HFX.out (fun k hk _ => hq.block k hk)).shape HFX.out (fun _ h => h) (by omega) (fun _ _ _ _ _ => rfl) (fun k cur _ hh => ⟨cur, hh, rfl⟩)⟩ (fun _ e => .inl e) hXc.fl hXc.fn)
        have HOM := Lib.hid (HO.out.keep HFX.out (fun k hk _ => hq.block k hk))
        have HOWc := Lib.hid (offX (M := fun _ => False) HOW2.out (OffM.of hq) (fun _ e => e.elim))
        have HOLc := Lib.hid (HOL2.out.offM (M := fun _ => False) (OffM.of hq) (fun _ e => e.elim))
        have KLc := Lib.hid (KL.out.keep hq)
        have HAT2 := Lib.hid hat
        obtain ⟨Y, hYY⟩ : ∃ z, Y1.drewN nq = z := ⟨_, rfl⟩
        rw [hYY] at HXc HOM HOWc HOLc KLc ⊢
        clear hYY hq hlkn hat g3 hgl l0 hLl HX2 HO HOW2 HOL2 KL hXc
        obtain ⟨F2, rfl⟩ : ∃ z, z = F1 := ⟨_, rfl⟩
        obtain ⟨D2, rfl⟩ : ∃ z, z = D := ⟨_, rfl⟩
        obtain ⟨mm2, rfl⟩ : ∃ z, z = mm := ⟨_, rfl⟩
        have hmm3 : mm2 ≤ cc + 1 := by omega
        obtain ⟨hP, hlkb⟩ := HOM.out.inner HNS.out HAT2.out
        obtain ⟨hbx, hFb, hinn⟩ := hP
        obtain ⟨v2, hv2, hl2⟩ := hinn.look HTS.out
        have HFBB := Lib.hid hFb
        have HV2 := Lib.hid hv2; have HLK := Lib.hid hlkb; have HL2 := Lib.hid hl2
        have hv2row : ∀ k, v2.ownBlock = some k → F2 k ∧ ∃ cur, Y.heap[k]? = some (.cells cur 3 (0, 0)) := fun k hk => by
          rcases hv2 with rfl | ⟨g1, n1, cap1, cur1, rfl, q0, q1, -⟩
          · cases hk
          · simp [Value.ownBlock] at hk
            subst hk
            exact ⟨q0, cur1, q1⟩
        have hblt : b < Y.heap.size := by
          obtain ⟨m', D', -, hM⟩ := hinn
          exact hM.lt
        have HBN := Lib.hid (show ¬ v2.ownBlock = some b from fun e => by
          obtain ⟨-, cur, hc⟩ := hv2row b e
          obtain ⟨m', D', -, es, ck, hM, -⟩ := hinn
          rw [hM] at hc; cases hc)
        have HXN := Lib.hid (show ¬ v2.ownBlock = some hx from fun e => by
          obtain ⟨-, cur, hc⟩ := hv2row hx e
          obtain ⟨es, ck, hM⟩ := HXc.out.idx.map
          rw [hM] at hc; cases hc)
        have HGN := Lib.hid (show ¬ v2.ownBlock = some g from fun e => by
          obtain ⟨-, cur, hc⟩ := hv2row g e
          exact absurd (HXc.out.blk.ty hc) (by decide))
        have HLN := Lib.hid (show ¬ v2.ownBlock = some Lb from fun e => by
          obtain ⟨-, cur, hc⟩ := hv2row Lb e
          exact absurd (KLc.out.ty hc) (by decide))
        have HV2R := Lib.hid hv2row
        have hhxlt := HOM.out.lt
        have hgl := HXc.out.blk.lt; have hLl := KLc.out.lt
        have HG3 := Lib.hid (HXc.out.blk.cell 3 _ rfl); have HC0 := Lib.hid (KLc.out.cell 0 _ rfl); have HC1 := Lib.hid (KLc.out.cell 1 _ rfl)
        clear hlkb hv2 hl2 hv2row hinn hbx hFb
        go_upto_region 22 with fail
        refine wp_region_late [22] (fun X => OffM (fun k => v2.ownBlock = some k) Y X) (by kernel_rfl) ?_
        have hSd : OffM (fun k => v2.ownBlock = some k) Y Y.drew := OffM.of (Below.drew (Below.refl _ _))
        obtain ⟨Z0, hZ0⟩ : ∃ z, Y.drew = z := ⟨_, rfl⟩
        have HB0 := Lib.hid (show Below Y.heap.size Y Z0 from by rw [← hZ0]; exact Below.drew (Below.refl _ _))
        rw [hZ0] at hSd ⊢
        clear hZ0
        (refine late_take 0 103 (.pointer (some ⟨g, 0, none⟩)) rfl rfl (by as_aux_lemma => kernel_rfl) (by as_aux_lemma => kernel_rfl) (by as_aux_lemma => kernel_rfl) rfl (by as_aux_lemma => kernel_rfl) (fun _ _ _ h => h) (by kernel_rfl) ?_ hSd ?_; (intro w' hSw; clear hSw; go_simp); simp only [List.set_cons_zero, List.set_cons_succ])
        (refine late_take 1 104 (.pointer (some ⟨g, 0, none⟩)) rfl rfl (by as_aux_lemma => kernel_rfl) (by as_aux_lemma => kernel_rfl) (by as_aux_lemma => kernel_rfl) rfl (by as_aux_lemma => kernel_rfl) (fun _ _ _ h => h) (by kernel_rfl) ?_ hSd ?_; (intro w' hSw; clear hSw; go_simp); simp only [List.set_cons_zero, List.set_cons_succ])
        (refine late_take 2 105 (.pointer (some ⟨g, 3, none⟩)) rfl rfl (by as_aux_lemma => kernel_rfl) (by as_aux_lemma => kernel_rfl) (by as_aux_lemma => kernel_rfl) rfl (by as_aux_lemma => kernel_rfl) (fun _ _ _ h => h) (by kernel_rfl) ?_ hSd ?_; (intro w' hSw; clear hSw; go_simp); simp only [List.set_cons_zero, List.set_cons_succ])
        (refine late_take 3 106 (.map (some hx)) rfl rfl (by as_aux_lemma => kernel_rfl) (by as_aux_lemma => kernel_rfl) (by as_aux_lemma => kernel_rfl) rfl (by as_aux_lemma => kernel_rfl) (fun _ _ _ h => h) (by kernel_rfl) ?_ hSd ?_; (intro w' hSw; have f0 := (cellO hSw hgl HGN.out 3).trans HG3.out; clear hSw; go_simp); simp only [List.set_cons_zero, List.set_cons_succ])
        (refine late_take 4 107 (.pointer (some ⟨Lb, 0, none⟩)) rfl rfl (by as_aux_lemma => kernel_rfl) (by as_aux_lemma => kernel_rfl) (by as_aux_lemma => kernel_rfl) rfl (by as_aux_lemma => kernel_rfl) (fun _ _ _ h => h) (by kernel_rfl) ?_ hSd ?_; (intro w' hSw; clear hSw; go_simp); simp only [List.set_cons_zero, List.set_cons_succ])
        (refine late_take 5 108 (.string nm) rfl rfl (by as_aux_lemma => kernel_rfl) (by as_aux_lemma => kernel_rfl) (by as_aux_lemma => kernel_rfl) rfl (by as_aux_lemma => kernel_rfl) (fun _ _ _ h => h) (by kernel_rfl) ?_ hSd ?_; (intro w' hSw; have f0 := (cellO hSw hLl HLN.out 0).trans HC0.out; clear hSw; go_simp); simp only [List.set_cons_zero, List.set_cons_succ])
        (refine late_take 6 109 (.map (some b)) rfl rfl (by as_aux_lemma => kernel_rfl) (by as_aux_lemma => kernel_rfl) (by as_aux_lemma => kernel_rfl) rfl (by as_aux_lemma => kernel_rfl) (fun _ _ _ h => h) (by kernel_rfl) ?_ hSd ?_; (intro w' hSw; have hl := HLK.out w' (hSw.block _ hhxlt HXN.out); clear hSw; go_simp); simp only [List.set_cons_zero, List.set_cons_succ])
        (refine late_take 7 110 (.pointer (some ⟨Lb, 1, none⟩)) rfl rfl (by as_aux_lemma => kernel_rfl) (by as_aux_lemma => kernel_rfl) (by as_aux_lemma => kernel_rfl) rfl (by as_aux_lemma => kernel_rfl) (fun _ _ _ h => h) (by kernel_rfl) ?_ hSd ?_; (intro w' hSw; clear hSw; go_simp); simp only [List.set_cons_zero, List.set_cons_succ])
        (refine late_take 8 111 (.string tx) rfl rfl (by as_aux_lemma => kernel_rfl) (by as_aux_lemma => kernel_rfl) (by as_aux_lemma => kernel_rfl) rfl (by as_aux_lemma => kernel_rfl) (fun _ _ _ h => h) (by kernel_rfl) ?_ hSd ?_; (intro w' hSw; have f0 := (cellO hSw hLl HLN.out 1).trans HC1.out; clear hSw; go_simp); simp only [List.set_cons_zero, List.set_cons_succ])
        (refine late_take 9 112 (.pointer (some ⟨g, 0, none⟩)) rfl rfl (by as_aux_lemma => kernel_rfl) (by as_aux_lemma => kernel_rfl) (by as_aux_lemma => kernel_rfl) rfl (by as_aux_lemma => kernel_rfl) (fun _ _ _ h => h) (by kernel_rfl) ?_ hSd ?_; (intro w' hSw; clear hSw; go_simp); simp only [List.set_cons_zero, List.set_cons_succ])
        (refine late_take 10 113 (.pointer (some ⟨g, 0, none⟩)) rfl rfl (by as_aux_lemma => kernel_rfl) (by as_aux_lemma => kernel_rfl) (by as_aux_lemma => kernel_rfl) rfl (by as_aux_lemma => kernel_rfl) (fun _ _ _ h => h) (by kernel_rfl) ?_ hSd ?_; (intro w' hSw; clear hSw; go_simp); simp only [List.set_cons_zero, List.set_cons_succ])
        (refine late_take 11 114 (.pointer (some ⟨g, 3, none⟩)) rfl rfl (by as_aux_lemma => kernel_rfl) (by as_aux_lemma => kernel_rfl) (by as_aux_lemma => kernel_rfl) rfl (by as_aux_lemma => kernel_rfl) (fun _ _ _ h => h) (by kernel_rfl) ?_ hSd ?_; (intro w' hSw; clear hSw; go_simp); simp only [List.set_cons_zero, List.set_cons_succ])
        (refine late_take 12 115 (.map (some hx)) rfl rfl (by as_aux_lemma => kernel_rfl) (by as_aux_lemma => kernel_rfl) (by as_aux_lemma => kernel_rfl) rfl (by as_aux_lemma => kernel_rfl) (fun _ _ _ h => h) (by kernel_rfl) ?_ hSd ?_; (intro w' hSw; have f0 := (cellO hSw hgl HGN.out 3).trans HG3.out; clear hSw; go_simp); simp only [List.set_cons_zero, List.set_cons_succ])
        (refine late_take 13 116 (.pointer (some ⟨Lb, 0, none⟩)) rfl rfl (by as_aux_lemma => kernel_rfl) (by as_aux_lemma => kernel_rfl) (by as_aux_lemma => kernel_rfl) rfl (by as_aux_lemma => kernel_rfl) (fun _ _ _ h => h) (by kernel_rfl) ?_ hSd ?_; (intro w' hSw; clear hSw; go_simp); simp only [List.set_cons_zero, List.set_cons_succ])
        (refine late_take 14 117 (.string nm) rfl rfl (by as_aux_lemma => kernel_rfl) (by as_aux_lemma => kernel_rfl) (by as_aux_lemma => kernel_rfl) rfl (by as_aux_lemma => kernel_rfl) (fun _ _ _ h => h) (by kernel_rfl) ?_ hSd ?_; (intro w' hSw; have f0 := (cellO hSw hLl HLN.out 0).trans HC0.out; clear hSw; go_simp); simp only [List.set_cons_zero, List.set_cons_succ])
        (refine late_take 15 118 (.map (some b)) rfl rfl (by as_aux_lemma => kernel_rfl) (by as_aux_lemma => kernel_rfl) (by as_aux_lemma => kernel_rfl) rfl (by as_aux_lemma => kernel_rfl) (fun _ _ _ h => h) (by kernel_rfl) ?_ hSd ?_; (intro w' hSw; have hl := HLK.out w' (hSw.block _ hhxlt HXN.out); clear hSw; go_simp); simp only [List.set_cons_zero, List.set_cons_succ])
        (refine late_take 16 119 (.pointer (some ⟨Lb, 1, none⟩)) rfl rfl (by as_aux_lemma => kernel_rfl) (by as_aux_lemma => kernel_rfl) (by as_aux_lemma => kernel_rfl) rfl (by as_aux_lemma => kernel_rfl) (fun _ _ _ h => h) (by kernel_rfl) ?_ hSd ?_; (intro w' hSw; clear hSw; go_simp); simp only [List.set_cons_zero, List.set_cons_succ])
        (refine late_take 17 120 (.string tx) rfl rfl (by as_aux_lemma => kernel_rfl) (by as_aux_lemma => kernel_rfl) (by as_aux_lemma => kernel_rfl) rfl (by as_aux_lemma => kernel_rfl) (fun _ _ _ h => h) (by kernel_rfl) ?_ hSd ?_; (intro w' hSw; have f0 := (cellO hSw hLl HLN.out 1).trans HC1.out; clear hSw; go_simp); simp only [List.set_cons_zero, List.set_cons_succ])
        (refine late_take 18 121 (v2) rfl rfl (by as_aux_lemma => kernel_rfl) (by as_aux_lemma => kernel_rfl) (by as_aux_lemma => kernel_rfl) rfl (by as_aux_lemma => kernel_rfl) (fun _ _ _ h => h) (by kernel_rfl) ?_ hSd ?_; (intro w' hSw; have hl := HL2.out w' (hSw.block _ hblt HBN.out); clear hSw; go_simp); simp only [List.set_cons_zero, List.set_cons_succ])
        (refine late_take 19 122 (.int .i64 (L1 : Int)) rfl rfl (by as_aux_lemma => kernel_rfl) (by as_aux_lemma => kernel_rfl) (by as_aux_lemma => kernel_rfl) rfl (by as_aux_lemma => kernel_rfl) (fun _ _ _ h => h) (by kernel_rfl) ?_ hSd ?_; (intro w' hSw; clear hSw; go_simp); simp only [List.set_cons_zero, List.set_cons_succ])
        refine late_ready (rs := [20]) (by as_aux_lemma => kernel_rfl) (by simp) (.cons rfl true rfl (fun K hK => ?_) .nil)
        rw [if_pos (by kernel_rfl)]
        go_simp
        have hSd1 : OffM (fun k => v2.ownBlock = some k) Y (Z0.alloc (.cells #[.int .i64 (L1 : Int)] 3)) := hSd.trans (OffM.of ((Below.refl _ _).alloc (Nat.le_refl _) _)) (fun _ _ h => h)
        refine hK.out _ _ (fun _ => hSd1) ?_
        clear hK K
        (try simp only [Act.put, List.setIfInBounds_toArray, List.set_cons_zero, List.set_cons_succ])
        have hnew := Blk.new Z0 [.int .i64 (L1 : Int)] 3
        have hb1 := HB0.out.alloc HB0.out.size (.cells #[.int .i64 (L1 : Int)] 3)
        have hz1 : (Z0.alloc (.cells #[.int .i64 (L1 : Int)] 3)).heap.size = Z0.heap.size + 1 := World.size_alloc _ _
        obtain ⟨gz, hgz⟩ : ∃ z, Z0.heap.size = z := ⟨_, rfl⟩
        obtain ⟨Z1, hZ1⟩ : ∃ z, Z0.alloc (.cells #[.int .i64 (L1 : Int)] 3) = z := ⟨_, rfl⟩
        rw [show Z0.alloc (.cells ([.int .i64 (L1 : Int)] : List Value).toArray 3) = Z1 from hZ1] at hnew
        rw [hZ1] at hSd1 hb1 hz1 ⊢
        rw [hgz] at hnew hz1 ⊢
        clear hZ1 hSd hgz
        have HB1 := Lib.hid hb1
        have hv21 : SafeI F2 cc Z1 v2 := HV2.out.off (fun _ h => h) (Nat.le_refl _) (fun k cur _ hh => ⟨cur, (hb1.block k (Array.getElem?_eq_some_iff.1 hh).1).trans hh, rfl⟩)
        obtain ⟨v6, w6, hr6, hgr6, hv6, hrow6, hown6, hnew6⟩ := safe_app hv21 (hnew.cell 0 _ rfl) (by omega) 39
        have HS1 := Lib.hid hSd1
        have HO1 := Lib.hid (HOM.out.keep HFX.out (fun k hk _ => hb1.block k hk))
        clear hSd1 hb1 hnew hv21
        refine late_ready (rs := [21]) (by as_aux_lemma => kernel_rfl) (by simp) (.cons rfl true rfl (fun K hK => ?_) .nil)
        rw [if_pos (by kernel_rfl)]
        refine wp_append_run _ _ _ _ rfl _ _ v6 w6 rfl rfl hr6 ?_
        have hS6 : OffM (fun k => v2.ownBlock = some k) Y w6 := HS1.out.trans (OffM.grown hgr6) (fun _ _ h => h)
        refine hK.out _ _ (fun _ => hS6) ?_
        clear hK K
        (try simp only [Act.put, List.setIfInBounds_toArray, List.set_cons_zero, List.set_cons_succ])
        have hO6 := HO1.out.shape (F' := fun k => F2 k ∨ v6.ownBlock = some k) (c' := cc + 1) (w' := w6) HFX.out (fun _ h => .inl h) (by omega) (fun k es ck hF hk => hgr6.block k (Array.getElem?_eq_some_iff.1 hk).1 (fun e => by obtain ⟨-, cur, hc⟩ := hown6 k e.symm; rw [hk] at hc; cases hc)) hrow6
        obtain ⟨w8, hr8, hO8, hg8⟩ := idx_put hO6 (.inl HFX.out) (hO6.inner HNS.out HAT2.out).1 hv6 (by omega) HTS.out
        have HS6 := Lib.hid hS6; have HO8 := Lib.hid hO8; have HG8 := Lib.hid hg8; have HR6 := Lib.hid hown6; have HGR := Lib.hid hgr6; have HZ1 := Lib.hid hz1; have HROW := Lib.hid hrow6; have HNEW6 := Lib.hid hnew6
        clear hr6 hgr6 hS6 hO6 hv6 hrow6 hown6 hnew6 hO8 hg8 hz1
        refine late_ready (rs := [22]) (by as_aux_lemma => kernel_rfl) (by simp) (.cons rfl false rfl (fun K hK => ?_) .nil)
        rw [if_pos (by kernel_rfl)]
        go_simp
        refine hK.out _ _ (fun h => by cases h) ?_
        clear hK K
        (try simp only [Act.put, List.setIfInBounds_toArray, List.set_cons_zero, List.set_cons_succ])
        refine late_done (by kernel_rfl) ?_ _
        have hofx : OffM F2 Y w8 := (HS6.out.more (fun k _ e => (HV2R.out k e).1)).trans (OffM.grown HG8.out) (fun k _ e => by cases e; exact HFBB.out)
        have hbm : ∃ es ck, w8.heap[b]? = some (.map es ck) := by
          obtain ⟨m', D', -, es, ck, hM, -⟩ := (HO8.out.inner HNS.out HAT2.out).1.2.2
          exact ⟨es, ck, hM⟩
        have hnl := nolab_app (v := v2) HXc.out.fn HXc.out.fl HB1.out HGR.out HG8.out hbm HROW.out HR6.out HNEW6.out
        have hXn := HXc.out.idx4 (c' := cc + 2) (by omega) hofx ⟨.inl HFX.out, mm2, D2, by omega, HO8.out⟩ (fun k' e => by
          rcases e with e | e
          · exact .inl e
          · rcases (HNEW6.out k' e).1 with e2 | e2
            · exact .inl e2
            · have h1 := HB1.out.size; have h2 := HOWc.out.size
              exact .inr ⟨.inr (by omega), by omega⟩) (fun k' e => by
          have h8 := HG8.out.size
          rcases e with e | e
          · have h1 := HXc.out.fl k' e; have h2 := HS6.out.size; omega
          · obtain ⟨-, cur, hc⟩ := HNEW6.out k' e
            have := (Array.getElem?_eq_some_iff.1 hc).1
            omega) hnl
        rw [show cc + 2 = c + 2 + 2 * (k + 1) by have := HCC.out; omega] at hXn
        have HXN2 := Lib.hid hXn
        have HOWN := Lib.hid (offX HOWc.out hofx (fun i e => HXc.out.fr.2.2.2.2.2 i e))
        have HOLN := Lib.hid (HOLc.out.offM hofx HXc.out.fn)
        clear hofx hbm hnl hXn hr8
        go_wp2
        exact ⟨⟨k + 1, by omega, by go_num, fun k => F2 k ∨ v6.ownBlock = some k, HXN2.out, HOWN.out, HOLN.out⟩, by simp [intOf]; omega⟩
    · have hkN : k = N := by omega
      subst hkN
      have hki : ¬ ((k : Int) < (k : Int)) := by omega
      have hfin := HXk.out.fin (fun t ht => by
        rcases List.mem_append.1 ht with ht | ht
        · exact HGD.out t ht
        · simp at ht; subst ht; exact HOK.out) (c' := c + 30) (by omega)
      have HFIN := Lib.hid hfin
      have HNUM := Lib.hid (show (L1 : Int) = idS (putS T s) s by rw [HTT.out, idS_snoc HOJ.out, if_pos rfl, HL1.out])
      clear hfin
      go_wp2
      go_ret2
      exact ⟨_, _, rfl, .inr ⟨HOK.out, rfl, HNUM.out⟩, by rw [HTT.out]; exact HFIN.out, HOWk.out⟩
end Go.Proofs.Ytkheeiipkdeihaa
