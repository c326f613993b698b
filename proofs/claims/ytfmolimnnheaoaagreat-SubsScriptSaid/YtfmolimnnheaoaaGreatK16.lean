/- (*Board).Put of a board of many queries. Printed by wip/gen_hc2.py. -/
import Derived.Test.YtfmolimnnheaoaaGreatK13
import Derived.Test.YtfmolimnnheaoaaGreatK15
import Derived.Test.YtfmolimnnheaoaaGreatK7
import Derived.Test.YtfmolimnnheaoaaGreatK1
namespace Go.Proofs.YtfmolimnnheaoaaGreat
open Go.RowKit
set_option linter.unusedSimpArgs false
set_option linter.unusedVariables false
open Go.Maps

theorem blk_quiet {base : Nat} {W : World} {g t : Nat} (h : TyB W g t) (hb : base ≤ g) (h1 : t ≠ 95) (h2 : t ≠ 106) : Quiet base W (fun k => k = g) := Quiet.of_ty fun k hk => by subst hk; exact ⟨hb, .inl ⟨t, h, h1, h2⟩⟩
theorem isTd_one {base : Nat} (X : World) {t : Int} {res : List Rs} {pr : Option Addr} {cr : Nat} (h : ResAt base X (.slice pr res.length cr) res) : IsTd (X.alloc (.cells #[.int .i64 t, .slice pr res.length cr] 34)).heap.size base (X.alloc (.cells #[.int .i64 t, .slice pr res.length cr] 34)) (.slice (some ⟨X.heap.size, 0, none⟩) 1 1) [(⟨t, res⟩, .slice pr res.length cr)] := by
  refine ⟨⟨_, 1, rfl, by simp, by unfold maxLen; omega, fun _ => ⟨X.heap.size, 0, rfl, by simp, fun k r hr j x hx => ?_⟩⟩, fun x hx => ?_⟩
  · match k, hr with
    | 0, hr =>
      simp at hr; subst hr
      have := (Blk.new X [.int .i64 t, .slice pr res.length cr] 34).cell j x hx
      simpa using this
    | k + 1, hr => simp at hr
  · simp at hx; subst hx
    exact h.keep ((Below.refl _ _).alloc (Nat.le_refl _) _)
theorem gMade {base : Nat} {W : World} {g i hq hs nq ns : Nat} {b : GB} {Q : List QE} {S : List SE} (h : StI base g i W b hq hs nq ns Q S) : Calls Tryz.prog 32 #[.pointer (some ⟨g, 0, none⟩)] W fun e w' => e = .returned (.bool true) ∧ w' = W :=
  bMade (b := ⟨b.room, [], 0, 0, [], b.id + 1⟩) h.m.blk
section
variable {base : Nat} {W W' : World} {g i hq hs nq ns : Nat} {b : GB} {Q : List QE} {S : List SE} {F : Nat → Prop}
set_option maxRecDepth 100000 in
set_option maxHeartbeats 8000000 in
theorem gPut {id t : Int} {res : List Rs} {rv : Value} (h : StI base g i W b hq hs nq ns Q S) (hid : i64 id) (hres : ResAt base W rv res) :
    Calls Tryz.prog 25 #[.pointer (some ⟨g, 0, none⟩), .int .i64 id, .agg #[.int .i64 t, rv]] W fun e w' => e = .returned (.int .i64 (putG checkV b id ⟨t, res⟩).2) ∧ PostA base g i (FootA g hq hs Q S) W (putG checkV b id ⟨t, res⟩).1 w' := by
  obtain ⟨pr, cr, rfl, -, -⟩ := hres.open
  have hb0 := (Below.refl W.heap.size W).alloc (Nat.le_refl _) (.cells #[.int .i64 t, .slice pr res.length cr] 34)
  have HW := Lib.hid h
  have H1 := Lib.hid (h.keep hb0)
  have HB1 := Lib.hid (Blk.new W [.int .i64 t, .slice pr res.length cr] 34)
  have HRes := Lib.hid (hres.keep hb0)
  have HBel := Lib.hid hb0
  have Hlo := Lib.hid h.lo
  have HInv := Lib.hid h.inv
  clear hb0 hres
  obtain ⟨po, hpo⟩ : ∃ r, putG checkV b id ⟨t, res⟩ = r := ⟨_, rfl⟩
  rw [hpo]
  unfold putG maxG at hpo
  obtain ⟨gB, hgB⟩ : ∃ z, W.heap.size = z := ⟨_, rfl⟩
  have HGB := Lib.hid hgB
  cases hf : findQ b id with
  | none =>
    rw [hf] at hpo
    have HP := Lib.hid hpo; have HF := Lib.hid hf
    have hlook := H1.out.lookQN hid hf
    have c1 : (W.alloc (.cells #[.int .i64 t, .slice pr res.length cr] 34)).cell? ⟨g, 1, none⟩ = some (.map (some hq)) := H1.out.m.blk.cell 1 _ rfl
    have hg1 := H1.out.m.blk.lt
    clear hpo hf h hgB
    go_enter Tryz.func25, Tryz.ntmps25; (try simp only [List.append_eq, List.cons_append, List.nil_append])
    go_wp2_with fail
    obtain ⟨W1, hW1⟩ : ∃ z, W.alloc (.cells #[.int .i64 t, .slice pr res.length cr] 34) = z := ⟨_, rfl⟩
    rw [hW1] at H1 HBel hlook c1 hg1 ⊢
    refine (gMade H1.out).mono ?_
    rintro e w2 ⟨rfl, rfl⟩
    go_wp2
    go_ret
    have hp := HP.out
    subst hp
    exact ⟨rfl, _, H1.out.st, Turn.of HBel.out⟩
  | some x =>
  rw [hf] at hpo
  obtain ⟨k, e, hk, rfl, he⟩ := h.atQ hf
  have HM0 := Lib.hid (h.m.q.mem e (List.mem_of_getElem? hk))
  have HLn := Lib.hid (h.keptN hk)
  have Hk := Lib.hid hk
  have HF := Lib.hid hf
  have hlook := H1.out.lookQ hk
  have hmem := H1.out.m.q.mem e (List.mem_of_getElem? hk)
  have HP0 := Lib.hid hpo
  clear hf h hk hpo
  subst he
  obtain ⟨id, L, lst, fl, xq, kv⟩ := e
  have HP : Hid ((if checkV res ≠ 0 then (b, checkV res) else if t < 1 ∨ 1099511627776 < t then (b, 2) else if t ≤ lst then (b, 8) else if b.room ≤ ((L.map Prod.fst).length : Int) then (b, 9) else (letG { b with q := turnQ id (fun x => { x with l := x.l ++ [⟨t, res⟩], last := t }) b.q } id, 0)) = po) := HP0
  clear HP0
  rw [List.length_map] at HP
  have HLn := Lib.hid (show L.length ≤ 4096 from HLn.out)
  simp only at hlook HM0 HF hid ⊢
  obtain ⟨ak, ck, hkv⟩ := hmem.2.1.slice
  simp only at hkv
  subst hkv
  go_enter Tryz.func25, Tryz.ntmps25; (try simp only [List.append_eq, List.cons_append, List.nil_append])
  go_wp2_with fail
  obtain ⟨W1, hW1⟩ : ∃ z, W.alloc (.cells #[.int .i64 t, .slice pr res.length cr] 34) = z := ⟨_, rfl⟩
  rw [show (W.alloc (.cells ([.int .i64 t, .slice pr res.length cr] : List Value).toArray 34)) = W1 from hW1] at HB1
  rw [hW1] at H1 HBel HRes hlook hmem ⊢
  rw [hgB] at HB1
  clear hgB hW1
  have k1 : W1.cell? ⟨gB, 1, none⟩ = some (.slice pr res.length cr) := HB1.out.cell 1 _ rfl
  have c1 : W1.cell? ⟨g, 1, none⟩ = some (.map (some hq)) := H1.out.m.blk.cell 1 _ rfl
  have hgl := H1.out.m.blk.lt
  have hgb := HB1.out.lt
  have hxl := hmem.1.1.lt
  simp only at hxl
  clear hmem
  refine (gMade H1.out).mono ?_
  rintro e w2 ⟨rfl, rfl⟩
  go_wp2_with fail
  refine (sCheckV (Nat.le_refl _) HRes.out.isRes).mono ?_
  rintro e w1 ⟨rfl, hb1⟩
  have H1 := Lib.hid (H1.out.keep hb1)
  have HB1 := Lib.hid (HB1.out.keep hb1)
  have HRes := Lib.hid (HRes.out.keep hb1)
  have hsz1 := hb1.size
  have HBel := Lib.hid (HBel.out.trans (hb1.mono HBel.out.size))
  have Hbs1 := Lib.hid H1.out.lo
  have HTk0 := Lib.hid (fun h => checkV_few (t := t) h : checkV res = 0 → TOk ⟨t, res⟩)
  obtain ⟨cv, hcv⟩ : ∃ z, checkV res = z := ⟨_, rfl⟩
  rw [hcv] at HP HTk0 ⊢
  clear hcv k1 c1 hgl hgb hxl hlook hb1 hsz1
  have HP1 := HP
  clear HP
  by_cases hcv : cv = 0
  rotate_left
  · have hcb : (cv != 0) = true := by simp [hcv]
    have HP := Lib.hid ((if_pos (show cv ≠ 0 from hcv)).symm.trans HP1.out)
    clear hcv
    go_wp2
    go_ret
    have hp := HP.out
    subst hp
    exact ⟨rfl, _, H1.out.st, Turn.of HBel.out⟩
  subst hcv
  have HTk := Lib.hid (HTk0.out rfl)
  clear HTk0
  have HP := Lib.hid ((if_neg (show ¬ ((0 : Int) ≠ 0) by simp)).symm.trans HP1.out)
  have hmem1 := H1.out.m.q.mem _ (List.mem_of_getElem? Hk.out)
  have c0 : w1.cell? ⟨g, 0, none⟩ = some (.int .i64 b.room) := H1.out.m.blk.cell 0 _ rfl
  have c1 : w1.cell? ⟨g, 1, none⟩ = some (.map (some hq)) := H1.out.m.blk.cell 1 _ rfl
  have d0 : w1.cell? ⟨xq, 0, none⟩ = some (.slice ak L.length ck) := hmem1.1.1.cell 0 _ rfl
  have d1 : w1.cell? ⟨xq, 1, none⟩ = some (.int .i64 lst) := hmem1.1.1.cell 1 _ rfl
  have k0 : w1.cell? ⟨gB, 0, none⟩ = some (.int .i64 t) := HB1.out.cell 0 _ rfl
  have k1 : w1.cell? ⟨gB, 1, none⟩ = some (.slice pr res.length cr) := HB1.out.cell 1 _ rfl
  have hxl : xq < w1.heap.size := hmem1.1.1.lt
  have hgl := H1.out.m.blk.lt
  have hgb := HB1.out.lt
  clear hmem1
  obtain ⟨w2, rfl⟩ : ∃ z, z = w1 := ⟨_, rfl⟩
  have hlook : True := trivial
  by_cases h1 : t < 1
  · go_wp2
    go_ret
    have hp := HP.out
    rw [if_pos (.inl h1)] at hp
    subst hp
    exact ⟨rfl, _, H1.out.st, Turn.of HBel.out⟩
  by_cases h2 : 1099511627776 < t
  · go_wp2
    go_ret
    have hp := HP.out
    rw [if_pos (.inr h2)] at hp
    subst hp
    exact ⟨rfl, _, H1.out.st, Turn.of HBel.out⟩
  have HP := Lib.hid ((if_neg (show ¬ (t < 1 ∨ 1099511627776 < t) by omega)).symm.trans HP.out)
  by_cases h3 : t ≤ lst
  · go_wp2_with fail
    all_goals first | (exfalso; omega) | skip
    go_quiet (fail)
    go_wp2
    go_ret
    have hp := HP.out
    rw [if_pos h3] at hp
    subst hp
    exact ⟨rfl, _, (H1.out.keep (below_drewN (Below.refl _ _) _)).st, (Turn.of HBel.out).trans (Turn.of (below_drewN (Below.refl _ _) _))⟩
  have HP := Lib.hid ((if_neg h3).symm.trans HP.out)
  by_cases h4 : b.room ≤ (L.length : Int)
  · go_wp2_with fail
    all_goals first | (exfalso; omega) | skip
    go_quiet (fail)
    go_wp2_with fail
    all_goals first | (exfalso; omega) | skip
    go_quiet (fail)
    go_wp2
    go_ret
    have hp := HP.out
    rw [if_pos h4] at hp
    subst hp
    exact ⟨rfl, _, (H1.out.keep (below_drewN (below_drewN (Below.refl _ _) _) _)).st, (Turn.of HBel.out).trans (Turn.of (below_drewN (below_drewN (Below.refl _ _) _) _))⟩
  have HP := Lib.hid ((if_neg h4).symm.trans HP.out)
  go_wp2_with fail
  all_goals first | (exfalso; omega) | skip
  go_quiet (fail)
  obtain ⟨nqa, hnqa⟩ : ∃ z, nq = z := ⟨_, rfl⟩
  rw [hnqa]
  clear hnqa
  go_wp2_with fail
  all_goals first | (exfalso; omega) | skip
  go_quiet (fail)
  go_wp2_with fail
  have hbq : Below w2.heap.size w2 ((w2.drewN nqa).drewN nq) := below_drewN (below_drewN (Below.refl _ _) _) _
  obtain ⟨W3, hW3⟩ : ∃ z, (w2.drewN nqa).drewN nq = z := ⟨_, rfl⟩
  rw [hW3] at hbq ⊢
  clear hW3
  have H3 := Lib.hid (H1.out.keep hbq)
  have HB1 := Lib.hid (HB1.out.keep hbq)
  have Ho3 := Lib.hid (HBel.out.trans (hbq.mono HBel.out.size))
  have HR3 := Lib.hid (HRes.out.keep hbq)
  have Hbs3 := Lib.hid (show base ≤ W3.heap.size from Nat.le_trans Hbs1.out hbq.size)
  have HM3 := Lib.hid (show QMem base W3 ⟨id, L, lst, fl, xq, .slice ak L.length ck⟩ from H3.out.m.q.mem _ (List.mem_of_getElem? Hk.out))
  have HQ := Lib.hid (show Blk W3 xq 64 [.slice ak L.length ck, .int .i64 lst, .int .i64 fl] from HM3.out.1.1)
  have HKp := Lib.hid (show OwnTd base base W3 (.slice ak L.length ck) L from HM3.out.2.1)
  have HgX := Lib.hid (HB1.out.ne_ty HQ.out (by decide))
  have hbq := Below.refl W3.heap.size W3
  have HgB := Lib.hid (show ¬ (gB = xq ∨ (Value.slice ak L.length ck).ownBlock = some gB) from fun e => by
    rcases e with e | e
    · exact HgX.out e
    · have h9 := (HM0.out.2.1.foot_lt e).2
      have h8 := HGB.out
      omega)
  have HIn := Lib.hid (inv_put_mid HInv.out HF.out (t := ⟨t, res⟩) (show 1 ≤ t ∧ t ≤ maxG by unfold maxG; omega) (show lst < t by omega) (show ((L.map Prod.fst).length : Int) < b.room by rw [List.length_map]; omega))
  clear c0 c1 d0 d1 k0 k1 hlook hxl hgl hgb
  obtain ⟨i0, hi, hz0, hz1, hz2⟩ := info_parts infoTold
  -- REGION 15
  refine wp_region_held_drew (S := fun X => Blk X gB 34 [.int .i64 t, .slice pr res.length cr]) (by kernel_rfl) (HB1.out.keep (Below.drew hbq)) (fun hHeld => ?_)
  have HX := Lib.hid (Below.drew hbq)
  obtain ⟨X, hX⟩ : ∃ z, W3.drew = z := ⟨_, rfl⟩
  rw [hX] at HX ⊢
  clear hX
  have hSd := HB1.out.keep HX.out
  try clear hHeld
  (refine htk 0 54 (.pointer (some ⟨xq, 0, none⟩)) rfl ?_ ?_; (intro w hSw; clear hSw; go_simp); simp only [lsz, lss])
  (refine htk 1 55 (.pointer (some ⟨xq, 0, none⟩)) rfl ?_ ?_; (intro w hSw; clear hSw; go_simp); simp only [lsz, lss])
  (refine htk 2 56 (.pointer (some ⟨xq, 0, none⟩)) rfl ?_ ?_; (intro w hSw; clear hSw; go_simp); simp only [lsz, lss])
  (refine htk 3 57 (.pointer (some ⟨xq, 0, none⟩)) rfl ?_ ?_; (intro w hSw; clear hSw; go_simp); simp only [lsz, lss])
  (refine htk 4 58 (.pointer (some ⟨xq, 0, none⟩)) rfl ?_ ?_; (intro w hSw; clear hSw; go_simp); simp only [lsz, lss])
  (refine htk 6 60 (.agg #[.int .i64 t, .slice pr res.length cr]) rfl ?_ ?_; (intro w hSw; have e0 := hSw.cell 0 _ rfl; have e1 := hSw.cell 1 _ rfl; clear hSw; go_simp); simp only [lsz, lss])
  (refine htk 10 64 (.pointer (some ⟨gB, 0, none⟩)) rfl ?_ ?_; (intro w hSw; clear hSw; go_simp); simp only [lsz, lss])
  (refine htk 11 65 (.int .i64 t) rfl ?_ ?_; (intro w hSw; have e0 := hSw.cell 0 _ rfl; have e1 := hSw.cell 1 _ rfl; clear hSw; go_simp); simp only [lsz, lss])
  refine wpAnyH_ready (rs := [5, 7]) (by kernel_rfl) (by simp) (.cons rfl (fun K hK => ?_) (.cons rfl (fun K hK => ?_) .nil))
  · skip
    rw [if_pos (by kernel_rfl)]
    have e0 : X.cell? ⟨xq, 0, none⟩ = some (.slice ak L.length ck) := (HQ.out.keep HX.out).cell 0 _ rfl
    go_simp
    clear e0
    refine hK.out _ _ hSd (fun hHeld => ?_)
    clear hK K
    (try simp only [Act.put, lsa, lsz, lss])
    refine hrd 7 rfl (fun K hK => ?_)
    rw [if_pos (by kernel_rfl)]
    go_simp
    have hb := (Below.refl X.heap.size X).alloc (Nat.le_refl _) (.cells #[.int .i64 t, .slice pr res.length cr] 34)
    have HIT := Lib.hid (isTd_one X (t := t) (HR3.out.keep HX.out))
    have HX := Lib.hid (HX.out.trans (hb.mono HX.out.size))
    obtain ⟨gN, hgN⟩ : ∃ z, X.heap.size = z := ⟨_, rfl⟩
    obtain ⟨X1, hY⟩ : ∃ z, X.alloc (.cells #[.int .i64 t, .slice pr res.length cr] 34) = z := ⟨_, rfl⟩
    rw [hgN] at HIT ⊢
    rw [hY] at HX HIT ⊢
    clear hY hgN hb
    have hSd := HB1.out.keep HX.out
    refine hK.out _ _ hSd (fun hHeld => ?_)
    clear hK K
    (try simp only [Act.put, lsa, lsz, lss])
    refine hrd 8 rfl (fun K hK => ?_)
    rw [if_pos (by kernel_rfl)]
    go_simp
    refine (bCopiedG HIT.out (Nat.le_refl _) (by have := HX.out.size; have := Hbs3.out; omega) (by simp) (fun x hx => by simp at hx; subst hx; exact HTk.out)).mono ?_
    rintro e X2 ⟨vc, L', rfl, hown, hmap, hb⟩
    obtain ⟨y, rfl⟩ : ∃ y, L' = [y] := by
      have h1 := congrArg List.length hmap
      simp at h1
      exact List.length_eq_one_iff.1 h1
    have HMp := Lib.hid (show y.1 = ⟨t, res⟩ by simpa using hmap)
    have HY := Lib.hid hown
    have HY1 := Lib.hid (tRow_one hown.2)
    clear hmap
    have HX := Lib.hid (HX.out.trans (hb.mono HX.out.size))
    have HC := Lib.hid (Src.of_own hown.1)
    clear hb hown
    have hSd := HB1.out.keep HX.out
    refine hK.out _ _ hSd (fun hHeld => ?_)
    clear hK K
    (try simp only [Act.put, lsa, lsz, lss])
    refine hrd 9 rfl (fun K hK => ?_)
    rw [if_pos (by kernel_rfl)]
    refine wp_append_src _ _ _ _ rfl base 34 i0 (.agg #[.int .i64 0, .slice none 0 0]) 2 32 Tryz.underlying37 hi hz0 hz1 hz2 rfl (by decide) _ L.length _ rfl (HKp.out.keep HX.out).1 _ 1 _ rfl HC.out HY1.out (by have := HLn.out; unfold maxLen; omega) (by have := HLn.out; omega) (by have := HX.out.size; have := Hbs3.out; omega) ?_
    intro v4 X4 hown4 hg4 hat4
    obtain ⟨a4, c4, rfl⟩ := ownsRow_slice hown4
    have HO4 := Lib.hid ((OffM.of (M := fun k => k = xq ∨ (Value.slice ak L.length ck).ownBlock = some k) HX.out).trans (OffM.grown hg4) (fun k _ hk => .inr hk))
    have HK4 := Lib.hid (show OwnTd base base X4 (.slice a4 (L.length + 1) c4) (L ++ [y]) from OwnTd.app (HKp.out.keep HX.out) (Nat.le_refl _) (HY.out.2 y (by simp)) (by simpa using hown4) hg4)
    have HB4 := Lib.hid (show Blk X4 gB 34 [.int .i64 t, .slice pr res.length cr] from (HO4.out.block _ HB1.out.lt (HgB.out)).trans HB1.out)
    have HQ4 := Lib.hid (show Blk X4 xq 64 [.slice ak L.length ck, .int .i64 lst, .int .i64 fl] from (hg4.block _ (HQ.out.keep HX.out).lt (fun e => HQ.out.not_own HKp.out.1 (by decide) e.symm)).trans (HQ.out.keep HX.out))
    have HAt := Lib.hid (show (Value.slice a4 (L.length + 1) c4).ownBlock = (Value.slice ak L.length ck).ownBlock ∨ (Value.slice a4 (L.length + 1) c4).ownBlock = some X2.heap.size from hat4)
    clear hown4 hg4 hat4
    have hSd := HB4.out
    refine hK.out _ _ hSd (fun hHeld => ?_)
    clear hK K
    (try simp only [Act.put, lsa, lsz, lss])
    refine hrd 12 rfl (fun K hK => ?_)
    rw [if_pos (by kernel_rfl)]
    go_simp
    refine hK.out _ _ hSd (fun hHeld => ?_)
    clear hK K
    (try simp only [Act.put, lsa, lsz, lss])
    refine hrd 13 rfl (fun K hK => ?_)
    rw [if_pos (by kernel_rfl)]
    go_simp
    refine hK.out _ _ hSd (fun hHeld => ?_)
    clear hK K
    (try simp only [Act.put, lsa, lsz, lss])
    have hxl4 := HQ4.out.lt
    have k0 := HQ4.out.cell 0 _ rfl
    have fr0 := HQ4.out.free 0
    refine hrd 14 rfl (fun K hK => ?_)
    rw [if_pos (by kernel_rfl)]
    go_simp
    clear k0 fr0
    have hSd := HB4.out.far (p := ⟨xq, 0, none⟩) HgX.out (.slice a4 (L.length + 1) c4)
    refine hK.out _ _ hSd (fun hHeld => ?_)
    clear hK K
    (try simp only [Act.put, lsa, lsz, lss])
    refine hrd 15 rfl (fun K hK => ?_)
    rw [if_pos (by kernel_rfl)]
    go_simp
    refine hK.out _ _ hSd (fun hHeld => ?_)
    clear hK K
    (try simp only [Act.put, lsa, lsz, lss])
    refine hrd 16 rfl (fun K hK => ?_)
    rw [if_pos (by kernel_rfl)]
    go_simp
    refine hK.out _ _ hSd (fun hHeld => ?_)
    clear hK K
    (try simp only [Act.put, lsa, lsz, lss])
    have HQ5 := Lib.hid (HQ4.out.set_ 0 (.slice a4 (L.length + 1) c4))
    have k1 := HQ5.out.cell 1 _ rfl
    have fr1 := HQ5.out.free 1
    have hxl5 := HQ5.out.lt
    refine hrd 17 rfl (fun K hK => ?_)
    rw [if_pos (by kernel_rfl)]
    go_simp
    clear k1 fr1
    have hSd := hSd.far (p := ⟨xq, 1, none⟩) HgX.out (.int .i64 t)
    refine hK.out _ _ hSd (fun hHeld => ?_)
    clear hK K
    (try simp only [Act.put, lsa, lsz, lss])
    refine wpAnyH_done (by kernel_rfl) ?_ _
    have HQ6 := Lib.hid (HQ5.out.set_ 1 (.int .i64 t))
    have HO6 := Lib.hid ((HO4.out.trans (OffM.cell1 X4 xq 0 (.slice a4 (L.length + 1) c4)) (fun k _ hk => .inl hk)).trans (OffM.cell1 _ xq 1 (.int .i64 t)) (fun k _ hk => .inl hk))
    have HK6 := Lib.hid ((HK4.out.off (OffM.cell1 X4 xq 0 (.slice a4 (L.length + 1) c4)) (blk_quiet HQ4.out.ty HM3.out.1.2 (by decide) (by decide)) (fun g2 h1 h2 => HQ4.out.not_own HK4.out.1 (by decide) (by rw [h1, h2]))).off (OffM.cell1 _ xq 1 (.int .i64 t)) (blk_quiet HQ5.out.ty HM3.out.1.2 (by decide) (by decide)) (fun g2 h1 h2 => HQ4.out.not_own HK4.out.1 (by decide) (by rw [h1, h2])))
    have HF6 := Lib.hid (show ∀ k, (Value.slice a4 (L.length + 1) c4).ownBlock = some k → (Value.slice ak L.length ck).ownBlock = some k ∨ W3.heap.size ≤ k from fun k hk => by
      rcases HAt.out with h9 | h9
      · exact .inl (by rw [← h9]; exact hk)
      · rw [h9] at hk; cases hk; exact .inr HX.out.size)
    generalize (X4.setCell ⟨xq, 0, none⟩ (.slice a4 (L.length + 1) c4)).setCell ⟨xq, 1, none⟩ (.int .i64 t) = X6 at HQ6 HO6 HK6 ⊢
    obtain ⟨h6, ht6⟩ := H3.out.setQ (e' := ⟨id, L ++ [y], t, fl, xq, .slice a4 (L.length + 1) c4⟩) Hk.out rfl HO6.out (fun k _ hk => hk) ⟨⟨HQ6.out, HM3.out.1.2⟩, HK6.out, fun x hx => by
      rcases List.mem_append.1 hx with hx | hx
      · exact HM3.out.2.2 x hx
      · simp at hx; subst hx; rw [HMp.out]; exact HTk.out⟩ (fun k hk => by
      rcases hk with hk | hk
      · exact .inl (.inl hk)
      · exact (HF6.out k hk).imp .inr fun h => h) (fun x => { x with l := x.l ++ [⟨t, res⟩], last := t }) (by unfold QE.qy; simp only [List.map_append, List.map_cons, List.map_nil, HMp.out]) HIn.out
    have H6 := Lib.hid h6; have HT6 := Lib.hid ht6
    have HC6 := Lib.hid (gLetGo (k := k) (e := ⟨id, L ++ [y], t, fl, xq, .slice a4 (L.length + 1) c4⟩) h6 (List.getElem?_set_self (List.getElem?_eq_some_iff.1 Hk.out).1))
    clear h6 ht6
    go_wp2_with fail
    refine HC6.out.mono ?_
    rintro e w9 ⟨rfl, hp9⟩
    have HP9 := Lib.hid hp9; clear hp9
    go_wp2
    go_ret
    have hp := HP.out
    subst hp
    exact ⟨rfl, HP9.out.trans ((Turn.of Ho3.out).trans HT6.out)⟩
  · skip
    rw [if_pos (by kernel_rfl)]
    go_simp
    have hb := (Below.refl X.heap.size X).alloc (Nat.le_refl _) (.cells #[.int .i64 t, .slice pr res.length cr] 34)
    have HIT := Lib.hid (isTd_one X (t := t) (HR3.out.keep HX.out))
    have HX := Lib.hid (HX.out.trans (hb.mono HX.out.size))
    obtain ⟨gN, hgN⟩ : ∃ z, X.heap.size = z := ⟨_, rfl⟩
    obtain ⟨X1, hY⟩ : ∃ z, X.alloc (.cells #[.int .i64 t, .slice pr res.length cr] 34) = z := ⟨_, rfl⟩
    rw [hgN] at HIT ⊢
    rw [hY] at HX HIT ⊢
    clear hY hgN hb
    have hSd := HB1.out.keep HX.out
    refine hK.out _ _ hSd (fun hHeld => ?_)
    clear hK K
    (try simp only [Act.put, lsa, lsz, lss])
    refine wpAnyH_ready (rs := [5, 8]) (by kernel_rfl) (by simp) (.cons rfl (fun K hK => ?_) (.cons rfl (fun K hK => ?_) .nil))
    · skip
      rw [if_pos (by kernel_rfl)]
      have e0 : X1.cell? ⟨xq, 0, none⟩ = some (.slice ak L.length ck) := (HQ.out.keep HX.out).cell 0 _ rfl
      go_simp
      clear e0
      refine hK.out _ _ hSd (fun hHeld => ?_)
      clear hK K
      (try simp only [Act.put, lsa, lsz, lss])
      refine hrd 8 rfl (fun K hK => ?_)
      rw [if_pos (by kernel_rfl)]
      go_simp
      refine (bCopiedG HIT.out (Nat.le_refl _) (by have := HX.out.size; have := Hbs3.out; omega) (by simp) (fun x hx => by simp at hx; subst hx; exact HTk.out)).mono ?_
      rintro e X2 ⟨vc, L', rfl, hown, hmap, hb⟩
      obtain ⟨y, rfl⟩ : ∃ y, L' = [y] := by
        have h1 := congrArg List.length hmap
        simp at h1
        exact List.length_eq_one_iff.1 h1
      have HMp := Lib.hid (show y.1 = ⟨t, res⟩ by simpa using hmap)
      have HY := Lib.hid hown
      have HY1 := Lib.hid (tRow_one hown.2)
      clear hmap
      have HX := Lib.hid (HX.out.trans (hb.mono HX.out.size))
      have HC := Lib.hid (Src.of_own hown.1)
      clear hb hown
      have hSd := HB1.out.keep HX.out
      refine hK.out _ _ hSd (fun hHeld => ?_)
      clear hK K
      (try simp only [Act.put, lsa, lsz, lss])
      refine hrd 9 rfl (fun K hK => ?_)
      rw [if_pos (by kernel_rfl)]
      refine wp_append_src _ _ _ _ rfl base 34 i0 (.agg #[.int .i64 0, .slice none 0 0]) 2 32 Tryz.underlying37 hi hz0 hz1 hz2 rfl (by decide) _ L.length _ rfl (HKp.out.keep HX.out).1 _ 1 _ rfl HC.out HY1.out (by have := HLn.out; unfold maxLen; omega) (by have := HLn.out; omega) (by have := HX.out.size; have := Hbs3.out; omega) ?_
      intro v4 X4 hown4 hg4 hat4
      obtain ⟨a4, c4, rfl⟩ := ownsRow_slice hown4
      have HO4 := Lib.hid ((OffM.of (M := fun k => k = xq ∨ (Value.slice ak L.length ck).ownBlock = some k) HX.out).trans (OffM.grown hg4) (fun k _ hk => .inr hk))
      have HK4 := Lib.hid (show OwnTd base base X4 (.slice a4 (L.length + 1) c4) (L ++ [y]) from OwnTd.app (HKp.out.keep HX.out) (Nat.le_refl _) (HY.out.2 y (by simp)) (by simpa using hown4) hg4)
      have HB4 := Lib.hid (show Blk X4 gB 34 [.int .i64 t, .slice pr res.length cr] from (HO4.out.block _ HB1.out.lt (HgB.out)).trans HB1.out)
      have HQ4 := Lib.hid (show Blk X4 xq 64 [.slice ak L.length ck, .int .i64 lst, .int .i64 fl] from (hg4.block _ (HQ.out.keep HX.out).lt (fun e => HQ.out.not_own HKp.out.1 (by decide) e.symm)).trans (HQ.out.keep HX.out))
      have HAt := Lib.hid (show (Value.slice a4 (L.length + 1) c4).ownBlock = (Value.slice ak L.length ck).ownBlock ∨ (Value.slice a4 (L.length + 1) c4).ownBlock = some X2.heap.size from hat4)
      clear hown4 hg4 hat4
      have hSd := HB4.out
      refine hK.out _ _ hSd (fun hHeld => ?_)
      clear hK K
      (try simp only [Act.put, lsa, lsz, lss])
      refine hrd 12 rfl (fun K hK => ?_)
      rw [if_pos (by kernel_rfl)]
      go_simp
      refine hK.out _ _ hSd (fun hHeld => ?_)
      clear hK K
      (try simp only [Act.put, lsa, lsz, lss])
      refine hrd 13 rfl (fun K hK => ?_)
      rw [if_pos (by kernel_rfl)]
      go_simp
      refine hK.out _ _ hSd (fun hHeld => ?_)
      clear hK K
      (try simp only [Act.put, lsa, lsz, lss])
      have hxl4 := HQ4.out.lt
      have k0 := HQ4.out.cell 0 _ rfl
      have fr0 := HQ4.out.free 0
      refine hrd 14 rfl (fun K hK => ?_)
      rw [if_pos (by kernel_rfl)]
      go_simp
      clear k0 fr0
      have hSd := HB4.out.far (p := ⟨xq, 0, none⟩) HgX.out (.slice a4 (L.length + 1) c4)
      refine hK.out _ _ hSd (fun hHeld => ?_)
      clear hK K
      (try simp only [Act.put, lsa, lsz, lss])
      refine hrd 15 rfl (fun K hK => ?_)
      rw [if_pos (by kernel_rfl)]
      go_simp
      refine hK.out _ _ hSd (fun hHeld => ?_)
      clear hK K
      (try simp only [Act.put, lsa, lsz, lss])
      refine hrd 16 rfl (fun K hK => ?_)
      rw [if_pos (by kernel_rfl)]
      go_simp
      refine hK.out _ _ hSd (fun hHeld => ?_)
      clear hK K
      (try simp only [Act.put, lsa, lsz, lss])
      have HQ5 := Lib.hid (HQ4.out.set_ 0 (.slice a4 (L.length + 1) c4))
      have k1 := HQ5.out.cell 1 _ rfl
      have fr1 := HQ5.out.free 1
      have hxl5 := HQ5.out.lt
      refine hrd 17 rfl (fun K hK => ?_)
      rw [if_pos (by kernel_rfl)]
      go_simp
      clear k1 fr1
      have hSd := hSd.far (p := ⟨xq, 1, none⟩) HgX.out (.int .i64 t)
      refine hK.out _ _ hSd (fun hHeld => ?_)
      clear hK K
      (try simp only [Act.put, lsa, lsz, lss])
      refine wpAnyH_done (by kernel_rfl) ?_ _
      have HQ6 := Lib.hid (HQ5.out.set_ 1 (.int .i64 t))
      have HO6 := Lib.hid ((HO4.out.trans (OffM.cell1 X4 xq 0 (.slice a4 (L.length + 1) c4)) (fun k _ hk => .inl hk)).trans (OffM.cell1 _ xq 1 (.int .i64 t)) (fun k _ hk => .inl hk))
      have HK6 := Lib.hid ((HK4.out.off (OffM.cell1 X4 xq 0 (.slice a4 (L.length + 1) c4)) (blk_quiet HQ4.out.ty HM3.out.1.2 (by decide) (by decide)) (fun g2 h1 h2 => HQ4.out.not_own HK4.out.1 (by decide) (by rw [h1, h2]))).off (OffM.cell1 _ xq 1 (.int .i64 t)) (blk_quiet HQ5.out.ty HM3.out.1.2 (by decide) (by decide)) (fun g2 h1 h2 => HQ4.out.not_own HK4.out.1 (by decide) (by rw [h1, h2])))
      have HF6 := Lib.hid (show ∀ k, (Value.slice a4 (L.length + 1) c4).ownBlock = some k → (Value.slice ak L.length ck).ownBlock = some k ∨ W3.heap.size ≤ k from fun k hk => by
        rcases HAt.out with h9 | h9
        · exact .inl (by rw [← h9]; exact hk)
        · rw [h9] at hk; cases hk; exact .inr HX.out.size)
      generalize (X4.setCell ⟨xq, 0, none⟩ (.slice a4 (L.length + 1) c4)).setCell ⟨xq, 1, none⟩ (.int .i64 t) = X6 at HQ6 HO6 HK6 ⊢
      obtain ⟨h6, ht6⟩ := H3.out.setQ (e' := ⟨id, L ++ [y], t, fl, xq, .slice a4 (L.length + 1) c4⟩) Hk.out rfl HO6.out (fun k _ hk => hk) ⟨⟨HQ6.out, HM3.out.1.2⟩, HK6.out, fun x hx => by
        rcases List.mem_append.1 hx with hx | hx
        · exact HM3.out.2.2 x hx
        · simp at hx; subst hx; rw [HMp.out]; exact HTk.out⟩ (fun k hk => by
        rcases hk with hk | hk
        · exact .inl (.inl hk)
        · exact (HF6.out k hk).imp .inr fun h => h) (fun x => { x with l := x.l ++ [⟨t, res⟩], last := t }) (by unfold QE.qy; simp only [List.map_append, List.map_cons, List.map_nil, HMp.out]) HIn.out
      have H6 := Lib.hid h6; have HT6 := Lib.hid ht6
      have HC6 := Lib.hid (gLetGo (k := k) (e := ⟨id, L ++ [y], t, fl, xq, .slice a4 (L.length + 1) c4⟩) h6 (List.getElem?_set_self (List.getElem?_eq_some_iff.1 Hk.out).1))
      clear h6 ht6
      go_wp2_with fail
      refine HC6.out.mono ?_
      rintro e w9 ⟨rfl, hp9⟩
      have HP9 := Lib.hid hp9; clear hp9
      go_wp2
      go_ret
      have hp := HP.out
      subst hp
      exact ⟨rfl, HP9.out.trans ((Turn.of Ho3.out).trans HT6.out)⟩
    · skip
      rw [if_pos (by kernel_rfl)]
      go_simp
      refine (bCopiedG HIT.out (Nat.le_refl _) (by have := HX.out.size; have := Hbs3.out; omega) (by simp) (fun x hx => by simp at hx; subst hx; exact HTk.out)).mono ?_
      rintro e X2 ⟨vc, L', rfl, hown, hmap, hb⟩
      obtain ⟨y, rfl⟩ : ∃ y, L' = [y] := by
        have h1 := congrArg List.length hmap
        simp at h1
        exact List.length_eq_one_iff.1 h1
      have HMp := Lib.hid (show y.1 = ⟨t, res⟩ by simpa using hmap)
      have HY := Lib.hid hown
      have HY1 := Lib.hid (tRow_one hown.2)
      clear hmap
      have HX := Lib.hid (HX.out.trans (hb.mono HX.out.size))
      have HC := Lib.hid (Src.of_own hown.1)
      clear hb hown
      have hSd := HB1.out.keep HX.out
      refine hK.out _ _ hSd (fun hHeld => ?_)
      clear hK K
      (try simp only [Act.put, lsa, lsz, lss])
      refine hrd 5 rfl (fun K hK => ?_)
      rw [if_pos (by kernel_rfl)]
      have e0 : X2.cell? ⟨xq, 0, none⟩ = some (.slice ak L.length ck) := (HQ.out.keep HX.out).cell 0 _ rfl
      go_simp
      clear e0
      refine hK.out _ _ hSd (fun hHeld => ?_)
      clear hK K
      (try simp only [Act.put, lsa, lsz, lss])
      refine hrd 9 rfl (fun K hK => ?_)
      rw [if_pos (by kernel_rfl)]
      refine wp_append_src _ _ _ _ rfl base 34 i0 (.agg #[.int .i64 0, .slice none 0 0]) 2 32 Tryz.underlying37 hi hz0 hz1 hz2 rfl (by decide) _ L.length _ rfl (HKp.out.keep HX.out).1 _ 1 _ rfl HC.out HY1.out (by have := HLn.out; unfold maxLen; omega) (by have := HLn.out; omega) (by have := HX.out.size; have := Hbs3.out; omega) ?_
      intro v4 X4 hown4 hg4 hat4
      obtain ⟨a4, c4, rfl⟩ := ownsRow_slice hown4
      have HO4 := Lib.hid ((OffM.of (M := fun k => k = xq ∨ (Value.slice ak L.length ck).ownBlock = some k) HX.out).trans (OffM.grown hg4) (fun k _ hk => .inr hk))
      have HK4 := Lib.hid (show OwnTd base base X4 (.slice a4 (L.length + 1) c4) (L ++ [y]) from OwnTd.app (HKp.out.keep HX.out) (Nat.le_refl _) (HY.out.2 y (by simp)) (by simpa using hown4) hg4)
      have HB4 := Lib.hid (show Blk X4 gB 34 [.int .i64 t, .slice pr res.length cr] from (HO4.out.block _ HB1.out.lt (HgB.out)).trans HB1.out)
      have HQ4 := Lib.hid (show Blk X4 xq 64 [.slice ak L.length ck, .int .i64 lst, .int .i64 fl] from (hg4.block _ (HQ.out.keep HX.out).lt (fun e => HQ.out.not_own HKp.out.1 (by decide) e.symm)).trans (HQ.out.keep HX.out))
      have HAt := Lib.hid (show (Value.slice a4 (L.length + 1) c4).ownBlock = (Value.slice ak L.length ck).ownBlock ∨ (Value.slice a4 (L.length + 1) c4).ownBlock = some X2.heap.size from hat4)
      clear hown4 hg4 hat4
      have hSd := HB4.out
      refine hK.out _ _ hSd (fun hHeld => ?_)
      clear hK K
      (try simp only [Act.put, lsa, lsz, lss])
      refine hrd 12 rfl (fun K hK => ?_)
      rw [if_pos (by kernel_rfl)]
      go_simp
      refine hK.out _ _ hSd (fun hHeld => ?_)
      clear hK K
      (try simp only [Act.put, lsa, lsz, lss])
      refine hrd 13 rfl (fun K hK => ?_)
      rw [if_pos (by kernel_rfl)]
      go_simp
      refine hK.out _ _ hSd (fun hHeld => ?_)
      clear hK K
      (try simp only [Act.put, lsa, lsz, lss])
      have hxl4 := HQ4.out.lt
      have k0 := HQ4.out.cell 0 _ rfl
      have fr0 := HQ4.out.free 0
      refine hrd 14 rfl (fun K hK => ?_)
      rw [if_pos (by kernel_rfl)]
      go_simp
      clear k0 fr0
      have hSd := HB4.out.far (p := ⟨xq, 0, none⟩) HgX.out (.slice a4 (L.length + 1) c4)
      refine hK.out _ _ hSd (fun hHeld => ?_)
      clear hK K
      (try simp only [Act.put, lsa, lsz, lss])
      refine hrd 15 rfl (fun K hK => ?_)
      rw [if_pos (by kernel_rfl)]
      go_simp
      refine hK.out _ _ hSd (fun hHeld => ?_)
      clear hK K
      (try simp only [Act.put, lsa, lsz, lss])
      refine hrd 16 rfl (fun K hK => ?_)
      rw [if_pos (by kernel_rfl)]
      go_simp
      refine hK.out _ _ hSd (fun hHeld => ?_)
      clear hK K
      (try simp only [Act.put, lsa, lsz, lss])
      have HQ5 := Lib.hid (HQ4.out.set_ 0 (.slice a4 (L.length + 1) c4))
      have k1 := HQ5.out.cell 1 _ rfl
      have fr1 := HQ5.out.free 1
      have hxl5 := HQ5.out.lt
      refine hrd 17 rfl (fun K hK => ?_)
      rw [if_pos (by kernel_rfl)]
      go_simp
      clear k1 fr1
      have hSd := hSd.far (p := ⟨xq, 1, none⟩) HgX.out (.int .i64 t)
      refine hK.out _ _ hSd (fun hHeld => ?_)
      clear hK K
      (try simp only [Act.put, lsa, lsz, lss])
      refine wpAnyH_done (by kernel_rfl) ?_ _
      have HQ6 := Lib.hid (HQ5.out.set_ 1 (.int .i64 t))
      have HO6 := Lib.hid ((HO4.out.trans (OffM.cell1 X4 xq 0 (.slice a4 (L.length + 1) c4)) (fun k _ hk => .inl hk)).trans (OffM.cell1 _ xq 1 (.int .i64 t)) (fun k _ hk => .inl hk))
      have HK6 := Lib.hid ((HK4.out.off (OffM.cell1 X4 xq 0 (.slice a4 (L.length + 1) c4)) (blk_quiet HQ4.out.ty HM3.out.1.2 (by decide) (by decide)) (fun g2 h1 h2 => HQ4.out.not_own HK4.out.1 (by decide) (by rw [h1, h2]))).off (OffM.cell1 _ xq 1 (.int .i64 t)) (blk_quiet HQ5.out.ty HM3.out.1.2 (by decide) (by decide)) (fun g2 h1 h2 => HQ4.out.not_own HK4.out.1 (by decide) (by rw [h1, h2])))
      have HF6 := Lib.hid (show ∀ k, (Value.slice a4 (L.length + 1) c4).ownBlock = some k → (Value.slice ak L.length ck).ownBlock = some k ∨ W3.heap.size ≤ k from fun k hk => by
        rcases HAt.out with h9 | h9
        · exact .inl (by rw [← h9]; exact hk)
        · rw [h9] at hk; cases hk; exact .inr HX.out.size)
      generalize (X4.setCell ⟨xq, 0, none⟩ (.slice a4 (L.length + 1) c4)).setCell ⟨xq, 1, none⟩ (.int .i64 t) = X6 at HQ6 HO6 HK6 ⊢
      obtain ⟨h6, ht6⟩ := H3.out.setQ (e' := ⟨id, L ++ [y], t, fl, xq, .slice a4 (L.length + 1) c4⟩) Hk.out rfl HO6.out (fun k _ hk => hk) ⟨⟨HQ6.out, HM3.out.1.2⟩, HK6.out, fun x hx => by
        rcases List.mem_append.1 hx with hx | hx
        · exact HM3.out.2.2 x hx
        · simp at hx; subst hx; rw [HMp.out]; exact HTk.out⟩ (fun k hk => by
        rcases hk with hk | hk
        · exact .inl (.inl hk)
        · exact (HF6.out k hk).imp .inr fun h => h) (fun x => { x with l := x.l ++ [⟨t, res⟩], last := t }) (by unfold QE.qy; simp only [List.map_append, List.map_cons, List.map_nil, HMp.out]) HIn.out
      have H6 := Lib.hid h6; have HT6 := Lib.hid ht6
      have HC6 := Lib.hid (gLetGo (k := k) (e := ⟨id, L ++ [y], t, fl, xq, .slice a4 (L.length + 1) c4⟩) h6 (List.getElem?_set_self (List.getElem?_eq_some_iff.1 Hk.out).1))
      clear h6 ht6
      go_wp2_with fail
      refine HC6.out.mono ?_
      rintro e w9 ⟨rfl, hp9⟩
      have HP9 := Lib.hid hp9; clear hp9
      go_wp2
      go_ret
      have hp := HP.out
      subst hp
      exact ⟨rfl, HP9.out.trans ((Turn.of Ho3.out).trans HT6.out)⟩
end
end Go.Proofs.YtfmolimnnheaoaaGreat

/- (*Board).Open, join, Subscribe, Resume of a board of many queries. -/
namespace Go.Proofs.YtfmolimnnheaoaaGreat
open Go.RowKit
set_option linter.unusedSimpArgs false
set_option linter.unusedVariables false
open Go.Maps

section
variable {base : Nat} {W W' : World} {g i hq hs nq ns : Nat} {b : GB} {Q : List QE} {S : List SE} {F : Nat → Prop}
theorem PostA.same (h : StI base g i W b hq hs nq ns Q S) : PostA base g i (FootA g hq hs Q S) W b W := ⟨_, h.st, Turn.refl _ _⟩
theorem PostA.more {i' : Nat} (h : PostA base g i F W b W') (hi : i ≤ i') (h9 : i' ≤ 10000) : PostA base g i' F W b W' := by
  obtain ⟨F', h1, h2⟩ := h
  exact ⟨F', h1.more hi h9, h2⟩
theorem q_none (h : StI base g i W b hq hs nq ns Q S) {id : Int} (hf : findQ b id = none) : ∀ x ∈ Q.map qPair, x.1 ≠ id := fun x hx e => by
  obtain ⟨y, hy, rfl⟩ := List.mem_map.1 hx
  rw [h.findQ] at hf
  have := List.find?_eq_none.1 (Option.map_eq_none_iff.1 hf) y hy
  simp at this
  exact this e
set_option maxRecDepth 100000 in
set_option maxHeartbeats 4000000 in
theorem gOpen {id mark : Int} (h : StI base g i W b hq hs nq ns Q S) (hid : i64 id) (hi : i + 1 ≤ 10000) :
    Calls Tryz.prog 9 #[.pointer (some ⟨g, 0, none⟩), .int .i64 id, .int .i64 mark] W fun e w' => e = .returned (.int .i64 (openG b id mark).2) ∧ PostA base g (i + 1) (FootA g hq hs Q S) W (openG b id mark).1 w' := by
  have H := Lib.hid h
  have HSame := Lib.hid ((PostA.same h).more (Nat.le_succ i) hi)
  have HM := Lib.hid (gMade h)
  have hg := h.m.blk.lt
  have c1 : W.cell? ⟨g, 1, none⟩ = some (.map (some hq)) := h.m.blk.cell 1 _ rfl
  obtain ⟨po, hpo⟩ : ∃ r, openG b id mark = r := ⟨_, rfl⟩
  have HOp := Lib.hid hpo
  rw [hpo]
  unfold openG maxG at hpo
  by_cases h1 : id < 1
  · rw [if_pos (.inl h1)] at hpo
    have HP := Lib.hid hpo
    clear hpo h HOp
    go_enter Tryz.func9, Tryz.ntmps9; (try simp only [List.append_eq, List.cons_append, List.nil_append])
    go_wp2_with fail
    refine HM.out.mono ?_
    rintro e w2 ⟨rfl, rfl⟩
    go_wp2
    go_ret
    have hp := HP.out
    subst hp
    exact ⟨rfl, HSame.out⟩
  by_cases h2 : 0 ≤ mark ∧ mark ≤ 1099511627776
  rotate_left
  · rw [if_pos (by omega)] at hpo
    have HP := Lib.hid hpo
    have hd := decide_eq_false h2
    clear hpo h HOp h2
    go_enter Tryz.func9, Tryz.ntmps9; (try simp only [List.append_eq, List.cons_append, List.nil_append])
    go_wp2_with fail
    refine HM.out.mono ?_
    rintro e w2 ⟨rfl, rfl⟩
    go_wp2_with fail
    refine (bTime mark _).mono ?_
    rintro e w2 ⟨rfl, rfl⟩
    rw [hd]
    go_wp2
    go_ret
    have hp := HP.out
    subst hp
    exact ⟨rfl, HSame.out⟩
  rw [if_neg (by omega)] at hpo
  have hd := decide_eq_true h2
  cases hf : findQ b id with
  | some x =>
    rw [hf] at hpo
    have HP := Lib.hid hpo
    obtain ⟨k, e, hk, rfl, he⟩ := h.atQ hf
    subst he
    have hlook := h.lookQ hk
    clear hpo h HOp h2 hf hk
    go_enter Tryz.func9, Tryz.ntmps9; (try simp only [List.append_eq, List.cons_append, List.nil_append])
    go_wp2_with fail
    refine HM.out.mono ?_
    rintro r w2 ⟨rfl, rfl⟩
    go_wp2_with fail
    refine (bTime mark _).mono ?_
    rintro r w2 ⟨rfl, rfl⟩
    rw [hd]
    go_wp2
    go_ret
    have hp := HP.out
    subst hp
    exact ⟨rfl, HSame.out⟩
  | none =>
    rw [hf] at hpo
    have HP := Lib.hid hpo
    have hlook := h.lookQN hid hf
    have hmq' := h.m.mq.keep (Below.heap_alloc W (.cells #[.slice none 0 0, .int .i64 mark, .int .i64 mark] 64) _ h.m.mq.lt)
    obtain ⟨W', hrun, hM', hgr⟩ := hmq'.insAny Tryz.underlying52 (by have := h.num; omega) hid (q_none h hf) W.heap.size
    have HR := Lib.hid (fun (b' : GB) (e : openG b id mark = (b', 0)) => h.insQ e hid hi hM' hgr)
    clear hmq' hM' hgr h hpo h2 hf
    go_enter Tryz.func9, Tryz.ntmps9; (try simp only [List.append_eq, List.cons_append, List.nil_append])
    go_wp2_with fail
    refine HM.out.mono ?_
    rintro r w2 ⟨rfl, rfl⟩
    go_wp2_with fail
    refine (bTime mark _).mono ?_
    rintro r w2 ⟨rfl, rfl⟩
    rw [hd]
    go_wp2_with fail
    go_ret
    have hp := HP.out
    subst hp
    exact ⟨rfl, HR.out _ HOp.out⟩
set_option maxRecDepth 100000 in
set_option maxHeartbeats 4000000 in
theorem gJoin {id frm : Int} (h : StI base g i W b hq hs nq ns Q S) (hf : 0 ≤ frm ∧ frm ≤ maxG) (hq' : ∃ x ∈ b.q, x.id = id) (hi : i + 1 ≤ 10000) :
    Calls Tryz.prog 36 #[.pointer (some ⟨g, 0, none⟩), .int .i64 id, .int .i64 frm] W fun e w' => e = .returned (.tuple #[.int .i64 (addG b id frm).2.1, .int .i64 (addG b id frm).2.2]) ∧ PostA base g (i + 1) (FootA g hq hs Q S) W (addG b id frm).1 w' := by
  have H := Lib.hid h
  have HSame := Lib.hid ((PostA.same h).more (Nat.le_succ i) hi)
  have hg := h.m.blk.lt
  have c2 : W.cell? ⟨g, 2, none⟩ = some (.map (some hs)) := h.m.blk.cell 2 _ rfl
  have c3 : W.cell? ⟨g, 3, none⟩ = some (.int .i64 (b.id + 1)) := h.m.blk.cell 3 _ rfl
  have f3 := h.m.blk.free 3
  have hSl : b.s.length = S.length := by rw [h.s, List.length_map]
  have hlen : ∀ ty, (Builtin.len_ #[53] ty #[.map (some hs)]).run Tryz.prog W = .ok (.int .i64 S.length) W := fun ty => by
    have := h.m.ms.lenS ty
    rwa [List.length_map] at this
  have hnum : 0 ≤ b.id ∧ b.id ≤ 10000 := by have := h.num; have := h.inv.id0; omega
  by_cases hl : 256 ≤ b.s.length
  · have hli : (256 : Int) ≤ (S.length : Int) := by omega
    have e0 : addG b id frm = (b, 0, 3) := by unfold addG; rw [if_pos hl]
    rw [e0]
    clear h hf hq' e0 hl hSl
    go_enter Tryz.func36, Tryz.ntmps36; (try simp only [List.append_eq, List.cons_append, List.nil_append])
    go_wp2
    go_ret2
    exact ⟨rfl, HSame.out⟩
  · have hli : ¬ (256 : Int) ≤ (S.length : Int) := by omega
    have hb := (Below.refl W.heap.size W).alloc (Nat.le_refl _) (.cells #[.int .i64 (b.id + 1), .int .i64 id, .int .i64 frm, .int .i64 frm] 73)
    obtain ⟨W2, hrun, hM, hgr⟩ := (h.m.ms.keep (hb.block _ h.m.ms.lt)).insS (n := b.id + 1) (by have := h.num; omega) ⟨by omega, by omega⟩ (fun x hx => by
      obtain ⟨y, hy, rfl⟩ := List.mem_map.1 hx
      have := (h.inv.uok y.s (by rw [h.s]; exact List.mem_map.2 ⟨y, hy, rfl⟩)).id
      show y.s.id < _
      omega) W.heap.size
    have HR := Lib.hid (h.insS hf hq' hl hi hM hgr)
    have e0 : addG b id frm = ((addG b id frm).1, b.id + 1, 0) := by unfold addG; rw [if_neg hl]
    rw [e0]
    simp only
    have hgk := (hb.block g h.m.blk.lt)
    have hW2 : W2.heap[g]? = W.heap[g]? := (hgr.block g (Nat.lt_of_lt_of_le h.m.blk.lt hb.size) (fun e => h.gNe.2 (by cases e; rfl))).trans hgk
    have hBk : Blk W2 g 55 [.int .i64 b.room, .map (some hq), .map (some hs), .int .i64 (b.id + 1)] := hW2.trans h.m.blk
    have hg2 : W2.cell? ⟨g, 3, none⟩ = some (.int .i64 (b.id + 1)) := hBk.cell 3 _ rfl
    have hf2 := hBk.free 3
    have hl2 := hBk.lt
    clear h hf hq' hM hgr hb e0 hl hSl hBk hW2 hgk
    go_enter Tryz.func36, Tryz.ntmps36; (try simp only [List.append_eq, List.cons_append, List.nil_append])
    go_wp2
    go_ret2
    exact ⟨rfl, HR.out⟩
set_option maxRecDepth 100000 in
set_option maxHeartbeats 4000000 in
theorem gSubscribe {id : Int} (h : StI base g i W b hq hs nq ns Q S) (hid : i64 id) (hi : i + 1 ≤ 10000) :
    Calls Tryz.prog 13 #[.pointer (some ⟨g, 0, none⟩), .int .i64 id] W fun e w' => e = .returned (.tuple #[.int .i64 (subscribeG b id).2.1, .int .i64 (subscribeG b id).2.2]) ∧ PostA base g (i + 1) (FootA g hq hs Q S) W (subscribeG b id).1 w' := by
  have HSame := Lib.hid ((PostA.same h).more (Nat.le_succ i) hi)
  have HM := Lib.hid (gMade h)
  have hg := h.m.blk.lt
  have c1 : W.cell? ⟨g, 1, none⟩ = some (.map (some hq)) := h.m.blk.cell 1 _ rfl
  unfold subscribeG
  cases hf : findQ b id with
  | none =>
    have hlook := h.lookQN hid hf
    clear h hf
    go_enter Tryz.func13, Tryz.ntmps13; (try simp only [List.append_eq, List.cons_append, List.nil_append])
    go_wp2_with fail
    refine HM.out.mono ?_
    rintro r w2 ⟨rfl, rfl⟩
    go_wp2
    go_ret2
    exact ⟨rfl, HSame.out⟩
  | some x =>
    obtain ⟨k, e, hk, rfl, he⟩ := h.atQ hf
    subst he
    have hlook := h.lookQ hk
    have hmem := (h.m.q.mem e (List.mem_of_getElem? hk)).1.1
    have hxl := hmem.lt
    have d1 : W.cell? ⟨e.blk, 1, none⟩ = some (.int .i64 e.last) := hmem.cell 1 _ rfl
    have HC := Lib.hid (gJoin (id := e.id) (frm := e.qy.last) h (h.qOk hk).bd.1 ⟨_, h.qIn hk, rfl⟩ hi)
    simp only
    clear h hf hk hmem
    go_enter Tryz.func13, Tryz.ntmps13; (try simp only [List.append_eq, List.cons_append, List.nil_append])
    go_wp2_with fail
    refine HM.out.mono ?_
    rintro r w2 ⟨rfl, rfl⟩
    go_wp2_with fail
    refine HC.out.mono ?_
    rintro r w3 ⟨rfl, hp⟩
    have HP := Lib.hid hp
    clear hp
    go_wp2
    go_ret2
    exact ⟨rfl, HP.out⟩
set_option maxRecDepth 100000 in
set_option maxHeartbeats 4000000 in
theorem gResume {id t : Int} (h : StI base g i W b hq hs nq ns Q S) (hid : i64 id) (hi : i + 1 ≤ 10000) :
    Calls Tryz.prog 15 #[.pointer (some ⟨g, 0, none⟩), .int .i64 id, .int .i64 t] W fun e w' => e = .returned (.tuple #[.int .i64 (resumeG b id t).2.1, .int .i64 (resumeG b id t).2.2]) ∧ PostA base g (i + 1) (FootA g hq hs Q S) W (resumeG b id t).1 w' := by
  have HSame := Lib.hid ((PostA.same h).more (Nat.le_succ i) hi)
  have HM := Lib.hid (gMade h)
  have hg := h.m.blk.lt
  have c1 : W.cell? ⟨g, 1, none⟩ = some (.map (some hq)) := h.m.blk.cell 1 _ rfl
  unfold resumeG maxG
  cases hf : findQ b id with
  | none =>
    have hlook := h.lookQN hid hf
    clear h hf
    go_enter Tryz.func15, Tryz.ntmps15; (try simp only [List.append_eq, List.cons_append, List.nil_append])
    go_wp2_with fail
    refine HM.out.mono ?_
    rintro r w2 ⟨rfl, rfl⟩
    go_wp2
    go_ret2
    exact ⟨rfl, HSame.out⟩
  | some x =>
    obtain ⟨k, e, hk, rfl, he⟩ := h.atQ hf
    subst he
    have hlook := h.lookQ hk
    have hmem := (h.m.q.mem e (List.mem_of_getElem? hk)).1.1
    have hxl := hmem.lt
    have d1 : W.cell? ⟨e.blk, 2, none⟩ = some (.int .i64 e.floor) := hmem.cell 2 _ rfl
    have hfl : e.qy.floor = e.floor := rfl
    simp only [hfl]
    clear hfl
    by_cases ht : 0 ≤ t ∧ t ≤ 1099511627776
    · rw [if_neg (by omega)]
      have hdt := decide_eq_true ht
      by_cases hlt : t < e.floor
      · rw [if_pos hlt]
        clear h hf hk hmem ht
        go_enter Tryz.func15, Tryz.ntmps15; (try simp only [List.append_eq, List.cons_append, List.nil_append])
        go_wp2_with fail
        refine HM.out.mono ?_
        rintro r w2 ⟨rfl, rfl⟩
        go_wp2_with fail
        refine (bTime t _).mono ?_
        rintro r w2 ⟨rfl, rfl⟩
        rw [hdt]
        go_wp2
        go_ret2
        exact ⟨rfl, HSame.out⟩
      · rw [if_neg hlt]
        have HC := Lib.hid (gJoin (id := e.id) (frm := t) h ht ⟨_, h.qIn hk, rfl⟩ hi)
        clear h hf hk hmem ht
        go_enter Tryz.func15, Tryz.ntmps15; (try simp only [List.append_eq, List.cons_append, List.nil_append])
        go_wp2_with fail
        refine HM.out.mono ?_
        rintro r w2 ⟨rfl, rfl⟩
        go_wp2_with fail
        refine (bTime t _).mono ?_
        rintro r w2 ⟨rfl, rfl⟩
        rw [hdt]
        go_wp2_with fail
        refine HC.out.mono ?_
        rintro r w3 ⟨rfl, hp⟩
        have HP := Lib.hid hp
        clear hp
        go_wp2
        go_ret2
        exact ⟨rfl, HP.out⟩
    · rw [if_pos (by omega)]
      have hdt := decide_eq_false ht
      clear h hf hk hmem ht
      go_enter Tryz.func15, Tryz.ntmps15; (try simp only [List.append_eq, List.cons_append, List.nil_append])
      go_wp2_with fail
      refine HM.out.mono ?_
      rintro r w2 ⟨rfl, rfl⟩
      go_wp2_with fail
      refine (bTime t _).mono ?_
      rintro r w2 ⟨rfl, rfl⟩
      rw [hdt]
      go_wp2
      go_ret2
      exact ⟨rfl, HSame.out⟩
end
end Go.Proofs.YtfmolimnnheaoaaGreat

/- (*Board).Close, sub, Unsubscribe, Back, Ack of a board of many queries. -/
namespace Go.Proofs.YtfmolimnnheaoaaGreat
open Go.RowKit
set_option linter.unusedSimpArgs false
set_option linter.unusedVariables false
open Go.Maps

section
variable {base : Nat} {W W' : World} {g i hq hs nq ns : Nat} {b : GB} {Q : List QE} {S : List SE} {F : Nat → Prop}
set_option maxRecDepth 100000 in
theorem gSubNone {n : Int} (h : StI base g i W b hq hs nq ns Q S) (hn : i64 n) (hf : findU b n = none) :
    Calls Tryz.prog 38 #[.pointer (some ⟨g, 0, none⟩), .int .i64 n] W fun e w' => e = .returned (.tuple #[.pointer none, .int .i64 6]) ∧ w' = W := by
  have hlook := h.lookSN hn hf
  have HM := Lib.hid (gMade h)
  have hg := h.m.blk.lt
  have c2 : W.cell? ⟨g, 2, none⟩ = some (.map (some hs)) := h.m.blk.cell 2 _ rfl
  clear h hf
  go_enter Tryz.func38, Tryz.ntmps38; (try simp only [List.append_eq, List.cons_append, List.nil_append])
  go_wp2_with fail
  refine HM.out.mono ?_
  rintro e w2 ⟨rfl, rfl⟩
  go_wp2
  go_ret2
  exact ⟨rfl, rfl⟩
set_option maxRecDepth 100000 in
theorem gSub {k : Nat} {s : SE} (h : StI base g i W b hq hs nq ns Q S) (hk : S[k]? = some s) :
    Calls Tryz.prog 38 #[.pointer (some ⟨g, 0, none⟩), .int .i64 s.s.id] W fun e w' => e = .returned (.tuple #[.pointer (some ⟨s.blk, 0, none⟩), .int .i64 0]) ∧ w' = W := by
  have hlook := h.lookS hk
  have HM := Lib.hid (gMade h)
  have hg := h.m.blk.lt
  have c2 : W.cell? ⟨g, 2, none⟩ = some (.map (some hs)) := h.m.blk.cell 2 _ rfl
  clear h hk
  go_enter Tryz.func38, Tryz.ntmps38; (try simp only [List.append_eq, List.cons_append, List.nil_append])
  go_wp2_with fail
  refine HM.out.mono ?_
  rintro e w2 ⟨rfl, rfl⟩
  go_wp2
  go_ret2
  exact ⟨rfl, rfl⟩
/-- A subscriber's query is there. -/
theorem StI.qOf (h : StI base g i W b hq hs nq ns Q S) {k : Nat} {s : SE} (hk : S[k]? = some s) : ∃ (j : Nat) (e : QE), Q[j]? = some e ∧ e.id = s.s.query := by
  obtain ⟨-, -, x, hx, hid⟩ := h.inv.uok s.s (h.sIn hk)
  rw [h.q] at hx
  obtain ⟨e, he, rfl⟩ := List.mem_map.1 hx
  obtain ⟨j, hj, rfl⟩ := List.getElem_of_mem he
  exact ⟨j, _, List.getElem?_eq_getElem hj, hid⟩
set_option maxRecDepth 100000 in
set_option maxHeartbeats 4000000 in
theorem gBack {n : Int} (h : StI base g i W b hq hs nq ns Q S) (hn : i64 n) :
    Calls Tryz.prog 21 #[.pointer (some ⟨g, 0, none⟩), .int .i64 n] W fun e w' => e = .returned (.int .i64 (backG b n).2) ∧ PostA base g i (FootA g hq hs Q S) W (backG b n).1 w' := by
  have HSame := Lib.hid (PostA.same h)
  have HIn := Lib.hid (inv_back h.inv n)
  cases hf : findU b n with
  | none =>
    have HC := Lib.hid (gSubNone h hn hf)
    have e0 : backG b n = (b, 6) := by unfold backG; rw [hf]
    rw [e0]
    clear h hf HIn e0
    go_enter Tryz.func21, Tryz.ntmps21; (try simp only [List.append_eq, List.cons_append, List.nil_append])
    go_wp2_with fail
    refine HC.out.mono ?_
    rintro e w2 ⟨rfl, rfl⟩
    go_wp2
    go_ret
    exact ⟨rfl, HSame.out⟩
  | some u =>
    obtain ⟨k, s, hk, rfl, hid⟩ := h.atU hf
    subst hid
    have e0 : backG b s.s.id = ({ b with s := turnU s.s.id (fun s => { s with cursor := s.acked }) b.s }, 0) := by unfold backG; rw [hf]
    rw [e0] at HIn ⊢
    have hsb := (h.m.s.mem s (List.mem_of_getElem? hk)).1
    have hx := hsb.lt
    have k2 : W.cell? ⟨s.blk, 2, none⟩ = some (.int .i64 s.s.cursor) := hsb.cell 2 _ rfl
    have k3 : W.cell? ⟨s.blk, 3, none⟩ = some (.int .i64 s.s.acked) := hsb.cell 3 _ rfl
    have f2 := hsb.free 2
    have HC := Lib.hid (gSub h hk)
    have HT := Lib.hid (h.setS (W' := W.setCell ⟨s.blk, 2, none⟩ (.int .i64 s.s.acked)) hk (fun s => { s with cursor := s.acked }) rfl (OffM.cell1 _ _ _ _) (fun k _ hk => hk) (hsb.set_ 2 (.int .i64 s.s.acked)) HIn.out)
    clear h hf hk hsb e0
    go_enter Tryz.func21, Tryz.ntmps21; (try simp only [List.append_eq, List.cons_append, List.nil_append])
    go_wp2_with fail
    refine HC.out.mono ?_
    rintro e w2 ⟨rfl, rfl⟩
    go_wp2
    go_ret
    exact ⟨rfl, _, HT.out.1.st, HT.out.2⟩
set_option maxRecDepth 100000 in
set_option maxHeartbeats 4000000 in
theorem gAck {n t : Int} (h : StI base g i W b hq hs nq ns Q S) (hn : i64 n) :
    Calls Tryz.prog 23 #[.pointer (some ⟨g, 0, none⟩), .int .i64 n, .int .i64 t] W fun e w' => e = .returned (.int .i64 (ackG b n t).2) ∧ PostA base g i (FootA g hq hs Q S) W (ackG b n t).1 w' := by
  have HSame := Lib.hid (PostA.same h)
  cases hf : findU b n with
  | none =>
    have HC := Lib.hid (gSubNone h hn hf)
    have e0 : ackG b n t = (b, 6) := by unfold ackG; rw [hf]
    rw [e0]
    clear h hf e0
    go_enter Tryz.func23, Tryz.ntmps23; (try simp only [List.append_eq, List.cons_append, List.nil_append])
    go_wp2_with fail
    refine HC.out.mono ?_
    rintro e w2 ⟨rfl, rfl⟩
    go_wp2
    go_ret
    exact ⟨rfl, HSame.out⟩
  | some u =>
    obtain ⟨k, s, hk, rfl, hid⟩ := h.atU hf
    subst hid
    have hsb := (h.m.s.mem s (List.mem_of_getElem? hk)).1
    have hx := hsb.lt
    have k1 : W.cell? ⟨s.blk, 1, none⟩ = some (.int .i64 s.s.query) := hsb.cell 1 _ rfl
    have k2 : W.cell? ⟨s.blk, 2, none⟩ = some (.int .i64 s.s.cursor) := hsb.cell 2 _ rfl
    have k3 : W.cell? ⟨s.blk, 3, none⟩ = some (.int .i64 s.s.acked) := hsb.cell 3 _ rfl
    have f3 := hsb.free 3
    have HC := Lib.hid (gSub h hk)
    by_cases c1 : s.s.cursor < t
    · have e0 : ackG b s.s.id t = (b, 2) := by unfold ackG; rw [hf]; simp only; rw [if_pos c1]
      rw [e0]
      clear h hf hk hsb e0
      go_enter Tryz.func23, Tryz.ntmps23; (try simp only [List.append_eq, List.cons_append, List.nil_append])
      go_wp2_with fail
      refine HC.out.mono ?_
      rintro e w2 ⟨rfl, rfl⟩
      go_wp2
      go_ret
      exact ⟨rfl, HSame.out⟩
    by_cases c2 : t < s.s.acked
    · have e0 : ackG b s.s.id t = (b, 8) := by unfold ackG; rw [hf]; simp only; rw [if_neg c1, if_pos c2]
      rw [e0]
      clear h hf hk hsb e0
      go_enter Tryz.func23, Tryz.ntmps23; (try simp only [List.append_eq, List.cons_append, List.nil_append])
      go_wp2_with fail
      refine HC.out.mono ?_
      rintro e w2 ⟨rfl, rfl⟩
      go_wp2
      go_ret
      exact ⟨rfl, HSame.out⟩
    have e0 : ackG b s.s.id t = (letG { b with s := turnU s.s.id (fun s => { s with acked := t }) b.s } s.s.query, 0) := by unfold ackG; rw [hf]; simp only; rw [if_neg c1, if_neg c2]
    rw [e0]
    obtain ⟨j, e, hj, he⟩ := h.qOf hk
    have hub := h.inv.uok s.s (h.sIn hk)
    have hmid : GInv { b with s := turnU s.s.id (fun s => { s with acked := t }) b.s } := h.inv.turnU s.s.id (fun s => ⟨rfl, rfl⟩) (fun u hu hid => by
      have := su_uniq h.inv hu (h.sIn hk) hid
      subst this
      have := hub.bd
      exact ⟨this.1, by simp only; omega, by simp only; omega⟩)
    obtain ⟨h6, h7⟩ := h.setS (W' := W.setCell ⟨s.blk, 3, none⟩ (.int .i64 t)) hk (fun s => { s with acked := t }) rfl (OffM.cell1 _ _ _ _) (fun k _ hk => hk) (hsb.set_ 3 (.int .i64 t)) hmid
    have HT := Lib.hid h7
    have HL := Lib.hid (gLetGo h6 hj)
    rw [he] at HL
    clear h hf hk hsb e0 hmid h6 h7 hub hj he
    go_enter Tryz.func23, Tryz.ntmps23; (try simp only [List.append_eq, List.cons_append, List.nil_append])
    go_wp2_with fail
    refine HC.out.mono ?_
    rintro e w2 ⟨rfl, rfl⟩
    go_wp2_with fail
    refine HL.out.mono ?_
    rintro e w9 ⟨rfl, hp⟩
    have HP := Lib.hid hp; clear hp
    go_wp2
    go_ret
    exact ⟨rfl, HP.out.trans HT.out⟩
set_option maxRecDepth 100000 in
set_option maxHeartbeats 4000000 in
theorem gUnsub {n : Int} (h : StI base g i W b hq hs nq ns Q S) (hn : i64 n) :
    Calls Tryz.prog 17 #[.pointer (some ⟨g, 0, none⟩), .int .i64 n] W fun e w' => e = .returned (.int .i64 (unsubG b n).2) ∧ PostA base g i (FootA g hq hs Q S) W (unsubG b n).1 w' := by
  have HSame := Lib.hid (PostA.same h)
  have Hn := Lib.hid hn
  cases hf : findU b n with
  | none =>
    have HC := Lib.hid (gSubNone h hn hf)
    have e0 : unsubG b n = (b, 6) := by unfold unsubG; rw [hf]
    rw [e0]
    clear h hf e0
    go_enter Tryz.func17, Tryz.ntmps17; (try simp only [List.append_eq, List.cons_append, List.nil_append])
    go_wp2_with fail
    refine HC.out.mono ?_
    rintro e w2 ⟨rfl, rfl⟩
    go_wp2
    go_ret
    exact ⟨rfl, HSame.out⟩
  | some u =>
    obtain ⟨k, s, hk, rfl, hid⟩ := h.atU hf
    subst hid
    have e0 : unsubG b s.s.id = (letG { b with s := b.s.filter fun t => t.id != s.s.id } s.s.query, 0) := by unfold unsubG; rw [hf]
    rw [e0]
    have hsb := (h.m.s.mem s (List.mem_of_getElem? hk)).1
    have hg := h.m.blk.lt
    have c2 : W.cell? ⟨g, 2, none⟩ = some (.map (some hs)) := h.m.blk.cell 2 _ rfl
    obtain ⟨W2, hdel, hM, hgr⟩ := h.m.ms.dropS Hn.out 0
    have hx2 : Blk W2 s.blk 73 (subV s.s) := (hgr.block _ hsb.lt (fun e => hsb.ty.neM h.m.ms.mp (by cases e; rfl))).trans hsb
    have k1 : W2.cell? ⟨s.blk, 1, none⟩ = some (.int .i64 s.s.query) := hx2.cell 1 _ rfl
    have hxl := hx2.lt
    have HC := Lib.hid (gSub h hk)
    obtain ⟨j, e, hj, he⟩ := h.qOf hk
    obtain ⟨h6, h7⟩ := h.goneS hM hgr
    have HT := Lib.hid h7
    have HL := Lib.hid (gLetGo h6 hj)
    rw [he] at HL
    clear h hf hsb hk e0 hM hgr hx2 h6 h7 hj he
    go_enter Tryz.func17, Tryz.ntmps17; (try simp only [List.append_eq, List.cons_append, List.nil_append])
    go_wp2_with fail
    refine HC.out.mono ?_
    rintro e w2 ⟨rfl, rfl⟩
    go_wp2_with fail
    refine HL.out.mono ?_
    rintro e w9 ⟨rfl, hp⟩
    have HP := Lib.hid hp; clear hp
    go_wp2
    go_ret
    exact ⟨rfl, HP.out.trans HT.out⟩
end
end Go.Proofs.YtfmolimnnheaoaaGreat

/- (*Board).Close of a board of many queries. -/
namespace Go.Proofs.YtfmolimnnheaoaaGreat
open Go.RowKit
set_option linter.unusedSimpArgs false
set_option linter.unusedVariables false
open Go.Maps

section
variable {base : Nat} {W W' : World} {g i hq hs nq ns : Nat} {b : GB} {Q : List QE} {S : List SE} {F : Nat → Prop}
theorem OwnP.off {lo : Nat} {w w' : World} {v : Value} {l : List Nat} {M : Nat → Prop} (h : OwnP lo w v l) (ho : OffM M w w') (hM : ∀ k, v.ownBlock = some k → ¬ M k) : OwnP lo w' v l := ownsRow_offM h ho hM
set_option maxRecDepth 100000 in
set_option maxHeartbeats 8000000 in
theorem gClose {id : Int} (h : StI base g i W b hq hs nq ns Q S) (hid : i64 id) :
    Calls Tryz.prog 11 #[.pointer (some ⟨g, 0, none⟩), .int .i64 id] W fun e w' => e = .returned (.int .i64 (closeG b id).2) ∧ PostA base g i (FootA g hq hs Q S) W (closeG b id).1 w' := by
  have HSame := Lib.hid (PostA.same h)
  have HM := Lib.hid (gMade h)
  have hg := h.m.blk.lt
  have c1 : W.cell? ⟨g, 1, none⟩ = some (.map (some hq)) := h.m.blk.cell 1 _ rfl
  have HIn := Lib.hid (inv_close h.inv id)
  cases hf : findQ b id with
  | none =>
    have hlook := h.lookQN hid hf
    have e0 : closeG b id = (b, 6) := by unfold closeG; rw [hf]
    rw [e0]
    clear h hf e0 HIn
    go_enter Tryz.func11, Tryz.ntmps11; (try simp only [List.append_eq, List.cons_append, List.nil_append])
    go_wp2_with fail
    refine HM.out.mono ?_
    rintro e w2 ⟨rfl, rfl⟩
    go_wp2
    go_ret
    exact ⟨rfl, HSame.out⟩
  | some x =>
    obtain ⟨j, e, hj, rfl, he⟩ := h.atQ hf
    subst he
    have e0 : closeG b e.id = ({ b with q := b.q.filter fun x => x.id != e.id, s := b.s.filter fun s => s.query != e.id }, 0) := by unfold closeG; rw [hf]
    rw [e0] at HIn ⊢
    have hlook := h.lookQ hj
    have H := Lib.hid h
    have HO := Lib.hid (gOf (id := e.id) h)
    have Hid3 := Lib.hid hid
    have Hfew := Lib.hid h.few
    have hll : ((ofE S e.id).map SE.blk).length = (ofE S e.id).length := List.length_map _
    have HMl := Lib.hid (show ∀ s ∈ ofE S e.id, s ∈ S from fun s hs => (List.mem_filter.1 hs).1)
    have Hll := Lib.hid (show (ofE S e.id).length ≤ S.length from List.length_filter_le _ _)
    have HOf := Lib.hid (h.ofG e.id)
    have HLess := Lib.hid (lessG_end h.inv e.id)
    clear h hf hj e0
    obtain ⟨id, L, lst, fl, xq, kv⟩ := e
    simp only at hlook HO HMl Hll hll HOf HLess HIn Hid3 ⊢
    obtain ⟨O, hO⟩ : ∃ z, ofE S id = z := ⟨_, rfl⟩
    rw [hO] at HO HMl Hll hll HOf
    clear hO hid
    go_enter Tryz.func11, Tryz.ntmps11; (try simp only [List.append_eq, List.cons_append, List.nil_append])
    go_wp2_with fail
    refine HM.out.mono ?_
    rintro e w2 ⟨rfl, rfl⟩
    go_wp2_with fail
    refine HO.out.mono ?_
    rintro r w1 ⟨v1, rfl, hown, hb1⟩
    obtain ⟨pk, ck, rfl⟩ := ownsRow_slice hown
    rw [hll]
    have Hown := Lib.hid hown; have HB := Lib.hid hb1
    have H1 := Lib.hid (H.out.keep hb1)
    have hsz1 := hb1.size
    have Hl2 := Lib.hid hll
    clear hown hb1 hll hlook c1 HO
    go_wp2_with fail
    go_loopw [21] (fun j wr => ∃ (k : Nat) (Sk : List SE), k ≤ O.length ∧ j = .int .i64 k ∧ StI base g i wr (lessG b id k) hq hs nq ns Q Sk ∧ Turn (FootA g hq hs Q S) w2 (FootA g hq hs Q Sk) wr ∧ OffM (fun k => k = hs) w1 wr) (fun j _ => O.length - (intOf j).toNat)
    case atStart => exact ⟨0, S, Nat.zero_le _, rfl, by rw [lessG_zero]; exact H1.out, Turn.of HB.out, OffM.refl _ _⟩
    case round =>
      obtain ⟨k, Sk, hk, rfl, hst, htu, hof⟩ := hrel
      have HS := Lib.hid hst; have HT := Lib.hid htu; have HOff := Lib.hid hof
      clear hst htu hof
      by_cases hlt : k < O.length
      · have hki : (k : Int) < (O.length : Int) := by omega
        obtain ⟨s, hs1⟩ : ∃ s, O[k]? = some s := ⟨_, List.getElem?_eq_getElem hlt⟩
        have hsb0 := (H1.out.m.s.mem s (HMl.out s (List.mem_of_getElem? hs1))).1
        have hsb : Blk wr s.blk 73 (subV s.s) := (HOff.out.block _ hsb0.lt (fun e => hsb0.ty.neM H1.out.m.ms.mp e)).trans hsb0
        have hxw := hsb.lt
        obtain ⟨bk, hpk, hbk, hkey⟩ := (Hown.out.off HOff.out (fun k hk e => (own_ty Hown.out hk).neM H1.out.m.ms.mp e)).get rfl (k := k) (x := s.blk) (by rw [List.getElem?_map, hs1]; rfl)
        unfold ptrB at hkey
        subst hpk
        have Hid64 := Lib.hid (show i64 s.s.id from by
          have h1 := (H1.out.inv.uok s.s (by rw [H1.out.s]; exact List.mem_map.2 ⟨s, HMl.out s (List.mem_of_getElem? hs1), rfl⟩)).id
          have h2 := H1.out.num
          constructor <;> omega)
        have Hst := Lib.hid (lessG_step (b := b) (id := id) (k := k) (s := s.s) (by rw [HOf.out, List.getElem?_map, hs1]; rfl))
        have Hsb := Lib.hid hsb
        clear hsb0 hsb hs1
        go_wp2_with fail
        clear hkey hbk
        have hkb : (k : Int) ≤ 256 := by have := Hll.out; have := Hfew.out; omega
        refine wp_region_held_drew (S := fun X => Blk X g 55 [.int .i64 b.room, .map (some hq), .map (some hs), .int .i64 (b.id + 1)] ∧ Blk X s.blk 73 (subV s.s)) (by kernel_rfl) ⟨HS.out.m.blk.drew, Hsb.out.drew⟩ (fun hHeld => ?_)
        have HXB := Lib.hid (Below.drew (Below.refl wr.heap.size wr))
        obtain ⟨X, hX⟩ : ∃ z, wr.drew = z := ⟨_, rfl⟩
        rw [hX] at HXB ⊢
        clear hX
        have HX := Lib.hid (HS.out.keep HXB.out)
        have hSd : Blk X g 55 [.int .i64 b.room, .map (some hq), .map (some hs), .int .i64 (b.id + 1)] ∧ Blk X s.blk 73 (subV s.s) := ⟨HX.out.m.blk, Hsb.out.keep HXB.out⟩
        try clear hHeld
        (refine htk 0 25 (.pointer (some ⟨g, 0, none⟩)) rfl ?_ ?_; (intro w hSw; clear hSw; first | rfl | go_simp); simp only [lsz, lss])
        (refine htk 1 26 (.pointer (some ⟨g, 0, none⟩)) rfl ?_ ?_; (intro w hSw; clear hSw; first | rfl | go_simp); simp only [lsz, lss])
        (refine htk 2 27 (.pointer (some ⟨g, 2, none⟩)) rfl ?_ ?_; (intro w hSw; clear hSw; first | rfl | go_simp); simp only [lsz, lss])
        (refine htk 3 28 (.map (some hs)) rfl ?_ ?_; (intro w hSw; have s1 := hSw.1.cell 2 _ rfl; have s2 := hSw.2.cell 0 _ rfl; clear hSw; go_simp); simp only [lsz, lss])
        (refine htk 4 29 (.pointer (some ⟨s.blk, 0, none⟩)) rfl ?_ ?_; (intro w hSw; clear hSw; first | rfl | go_simp); simp only [lsz, lss])
        (refine htk 5 30 (.pointer (some ⟨s.blk, 0, none⟩)) rfl ?_ ?_; (intro w hSw; clear hSw; first | rfl | go_simp); simp only [lsz, lss])
        (refine htk 6 31 (.pointer (some ⟨s.blk, 0, none⟩)) rfl ?_ ?_; (intro w hSw; clear hSw; first | rfl | go_simp); simp only [lsz, lss])
        (refine htk 7 32 (.int .i64 s.s.id) rfl ?_ ?_; (intro w hSw; have s1 := hSw.1.cell 2 _ rfl; have s2 := hSw.2.cell 0 _ rfl; clear hSw; go_simp); simp only [lsz, lss])
        obtain ⟨W2, hdel, hM, hgr⟩ := (HX.out.m.ms).dropS (n := s.s.id) Hid64.out 0
        refine hrd 8 rfl (fun K hK => ?_)
        rw [if_pos (by kernel_rfl)]
        go_simp
        have hSd2 : Blk W2 g 55 [.int .i64 b.room, .map (some hq), .map (some hs), .int .i64 (b.id + 1)] ∧ Blk W2 s.blk 73 (subV s.s) := ⟨(hgr.block _ hSd.1.lt (fun e => hSd.1.ty.neM HX.out.m.ms.mp (by cases e; rfl))).trans hSd.1, (hgr.block _ hSd.2.lt (fun e => hSd.2.ty.neM HX.out.m.ms.mp (by cases e; rfl))).trans hSd.2⟩
        refine hK.out _ _ hSd2 (fun hHeld => ?_)
        clear hK K
        (try simp only [Act.put, lsa, lsz, lss])
        refine wpAnyH_done (by kernel_rfl) ?_ _
        obtain ⟨h6, h7⟩ := HX.out.goneS hM hgr
        have H6 := Lib.hid (show StI base g i W2 (lessG b id (k + 1)) hq hs nq ns Q (Sk.filter fun e => e.s.id != s.s.id) from by rw [Hst.out]; exact h6)
        have H7 := Lib.hid (HT.out.trans ((Turn.of HXB.out).trans h7))
        have H8 := Lib.hid ((HOff.out.trans (OffM.of (M := fun k => k = hs) HXB.out) (fun _ _ h => h)).trans (OffM.grown1 hgr) (fun _ _ h => h))
        clear hSd hSd2 hM hgr hdel h6 h7
        go_wp2
        exact ⟨⟨k + 1, _, by omega, by go_num, H6.out, H7.out, H8.out⟩, by simp [intOf]; omega⟩
      · have hk' : k = O.length := by omega
        subst hk'
        have hki : ¬ ((O.length : Int) < (O.length : Int)) := by omega
        have HS2 := Lib.hid (show StI base g i wr { b with s := b.s.filter fun s => s.query != id } hq hs nq ns Q Sk from by
          rw [← HLess.out, HOf.out, List.length_map]; exact HS.out)
        have c9 : wr.cell? ⟨g, 1, none⟩ = some (.map (some hq)) := HS.out.m.blk.cell 1 _ rfl
        have hgw := HS.out.m.blk.lt
        obtain ⟨W2, hdel, hM, hgr⟩ := (HS2.out.m.mq).drop Tryz.underlying52 (n := id) Hid3.out 0
        have HR := Lib.hid (HS2.out.goneQ hM hgr HIn.out)
        clear hM hgr
        go_wp2
        go_ret
        exact ⟨rfl, PostA.trans HT.out HR.out⟩
end
end Go.Proofs.YtfmolimnnheaoaaGreat

/- (*Board).find, Settled, Floor, Last, Kept, Room, Queries of a board of many queries. -/
namespace Go.Proofs.YtfmolimnnheaoaaGreat
open Go.RowKit
set_option linter.unusedSimpArgs false
set_option linter.unusedVariables false
open Go.Maps Go.Sort Go.Shelf

def lastG {R : Type} (b : Brd R) (id : Int) : Int := match findQ b id with
  | none => 0
  | some x => x.last
def floorG {R : Type} (b : Brd R) (id : Int) : Int := match findQ b id with
  | none => 0
  | some x => x.floor
theorem sKeysQ (mb : Option Nat) (W : World) : Calls Tryz.prog 79 #[.map mb] W fun e w' => e = .returned (.func (.func 90) #[] #[.pointer (some ⟨W.heap.size, 0, none⟩)]) ∧ w' = W.alloc (.cells #[.map mb] 52) := (callsIn_wide (n := 5)).1 (AnyZI.keys_in Tryz.keysB Fence.wide 5 trivial rfl mb W)
theorem sSortedQ {b n x : Nat} {l : List (Int × Nat)} {W : World} (h : MapB W b n l) (hr : RiseK l) (hl : l.length ≤ 100000) (hx : Blk W x 52 [.map (some b)]) : Calls Tryz.prog 64 #[.func (.func 90) #[] #[.pointer (some ⟨x, 0, none⟩)]] W fun e w' => ∃ v, e = .returned v ∧ OwnI 3 W.heap.size w' v (l.map Prod.fst) ∧ Below W.heap.size W w' := by
  refine (callsIn_wide (n := 6)).1 ?_
  have hxl := hx.lt
  have hseq : SeqGives Fence.wide 3 Tryz.prog 90 #[.pointer (some ⟨x, 0, none⟩)] encZ (fun ss => ss.Perm (intKeys (mapE l))) (Maps.size (mapE l)) W :=
    AnyZI.keys_gives (ρ := Tryz.keysB_ren) { Tryz.keysB with } Fence.wide _ trivial rfl (by omega) x b n (mapE l) W hxl (hx.cell 0 _ rfl) h
  have cS := AnyZI.sorted_in Tryz.sortedA Fence.wide 6 trivial trivial trivial trivial rfl (by omega) (sortsA _) (enters_of Tryz.func81 (by kernel_rfl) rfl) 90 #[.pointer (some ⟨x, 0, none⟩)] trivial (enters_of Tryz.func90 (by kernel_rfl) rfl) _ _ (by rw [sizeE]; unfold maxLen; omega) (by rw [sizeE]; omega) _ hseq
  change CallsIn _ _ Tryz.prog 64 _ _ _ at cS
  refine cS.mono ?_
  rintro e w' ⟨v, ss, rfl, hS, hrow, -, hb⟩
  rw [keysE] at hS
  rw [rise_sorted hr hS] at hrow
  have e1 : ss.length = (l.map Prod.fst).length := hS.length_eq
  rw [e1] at hrow
  exact ⟨v, rfl, hrow, hb⟩
/-- What find tells. -/
def FoundA (base : Nat) (W : World) (b : GB) (id : Int) (a : Option Addr) (n c : Nat) (lst fl : Int) (is : Bool) : Prop :=
  (∃ L, OwnTd base base W (.slice a n c) L ∧ L.length = n ∧ L.map Prod.fst = keptG b id ∧ n ≤ 4096 ∧ ∀ x ∈ L, TOk x.1) ∧ lst = lastG b id ∧ fl = floorG b id ∧ is = (findQ b id).isSome
section
variable {base : Nat} {W W' : World} {g i hq hs nq ns : Nat} {b : GB} {Q : List QE} {S : List SE} {F : Nat → Prop}
set_option maxRecDepth 100000 in
theorem gFind {id : Int} (h : StI base g i W b hq hs nq ns Q S) (hid : i64 id) : ∃ a n c lst fl is, FoundA base W b id a n c lst fl is ∧
    Calls Tryz.prog 62 #[.pointer (some ⟨g, 0, none⟩), .int .i64 id] W fun e w' => e = .returned (.tuple #[.agg #[.slice a n c, .int .i64 lst, .int .i64 fl], .bool is]) ∧ Below W.heap.size W w' := by
  have hb0 := (Below.refl _ W).alloc (Nat.le_refl _) (.cells #[.slice none 0 0, .int .i64 0, .int .i64 0] 64)
  have h' := h.keep hb0
  have HM := Lib.hid (gMade h')
  have hg := h'.m.blk.lt
  have c1 := h'.m.blk.cell 1 _ rfl
  have hg0 := h.m.blk.lt
  have m0 : W.cell? ⟨g, 1, none⟩ = some (.map (some hq)) := h.m.blk.cell 1 _ rfl
  cases hf : findQ b id with
  | none =>
    refine ⟨none, 0, 0, 0, 0, false, ⟨⟨[], OwnTd.nil, rfl, by unfold keptG; rw [hf]; rfl, by omega, fun x hx => by cases hx⟩, by unfold lastG; rw [hf], by unfold floorG; rw [hf], by rw [hf]; rfl⟩, ?_⟩
    have hlook := h'.lookQN hid hf
    clear h h' hf hb0
    go_enter Tryz.func62, Tryz.ntmps62; (try simp only [List.append_eq, List.cons_append, List.nil_append])
    go_wp2_with fail
    refine HM.out.mono ?_
    rintro e w2 ⟨rfl, rfl⟩
    go_wp2_with (refine wpList_store_new rfl 64 _ _ rfl #[.slice none 0 0, .int .i64 0, .int .i64 0] _ _ rfl rfl (by kernel_rfl) rfl (by kernel_rfl) ?_)
    exact bodyPost_agg_tmp (d := _) rfl rfl (World.alloc_heap_new W _) Tryz.underlying64 rfl (by kernel_rfl) rfl ⟨rfl, (Below.refl _ _).alloc (Nat.le_refl _) _⟩
  | some x =>
    obtain ⟨k, e, hk, rfl, he⟩ := h.atQ hf
    subst he
    have hmem := h.m.q.mem e (List.mem_of_getElem? hk)
    have hlook := h'.lookQ hk
    have hkn := h.keptN hk
    obtain ⟨id, L, lst, fl, xq, kv⟩ := e
    obtain ⟨ak, ck, hkv⟩ := hmem.2.1.slice
    simp only at hkv hlook hkn hf ⊢
    subst hkv
    refine ⟨ak, L.length, ck, lst, fl, true, ⟨⟨L, hmem.2.1, rfl, by unfold keptG; rw [hf]; rfl, hkn, hmem.2.2⟩, by unfold lastG; rw [hf]; rfl, by unfold floorG; rw [hf]; rfl, by rw [hf]; rfl⟩, ?_⟩
    have hxl : xq < W.heap.size := hmem.1.1.lt
    have n0 : W.cell? ⟨xq, 0, none⟩ = some (.slice ak L.length ck) := hmem.1.1.cell 0 _ rfl
    have n1 : W.cell? ⟨xq, 1, none⟩ = some (.int .i64 lst) := hmem.1.1.cell 1 _ rfl
    have n2 : W.cell? ⟨xq, 2, none⟩ = some (.int .i64 fl) := hmem.1.1.cell 2 _ rfl
    clear h h' hf hb0 c1 hg hmem hk hid
    go_enter Tryz.func62, Tryz.ntmps62; (try simp only [List.append_eq, List.cons_append, List.nil_append])
    go_wp2_with fail
    refine HM.out.mono ?_
    rintro e w2 ⟨rfl, rfl⟩
    go_wp2_with (refine wpList_store_new rfl 64 _ _ rfl #[.slice ak L.length ck, .int .i64 lst, .int .i64 fl] _ _ rfl rfl (by kernel_rfl) rfl (by kernel_rfl) ?_)
    exact bodyPost_agg_tmp (d := _) rfl rfl (World.alloc_heap_new W _) Tryz.underlying64 rfl (by kernel_rfl) rfl ⟨rfl, (Below.refl _ _).alloc (Nat.le_refl _) _⟩
set_option maxRecDepth 100000 in
theorem gFloor {id : Int} (h : StI base g i W b hq hs nq ns Q S) (hid : i64 id) : Calls Tryz.prog 49 #[.pointer (some ⟨g, 0, none⟩), .int .i64 id] W fun e w' => e = .returned (.int .i64 (floorG b id)) ∧ Below W.heap.size W w' := by
  obtain ⟨a, n, c, lst, fl, is, ⟨-, e1, e2, -⟩, hc⟩ := gFind h hid
  rw [← e2]
  have HF := Lib.hid hc
  clear h hc e1 e2
  go_enter Tryz.func49, Tryz.ntmps49; (try simp only [List.append_eq, List.cons_append, List.nil_append])
  go_wp2_with fail
  refine HF.out.mono ?_
  rintro e w2 ⟨rfl, hb⟩
  have HB := Lib.hid hb
  have hsz := hb.size
  clear hb
  go_wp2_with (refine wpList_store_new rfl 64 _ _ rfl #[.slice a n c, .int .i64 lst, .int .i64 fl] _ _ rfl rfl (by kernel_rfl) rfl (by kernel_rfl) ?_)
  go_ret
  exact ⟨rfl, HB.out.alloc hsz _⟩
set_option maxRecDepth 100000 in
theorem gLast {id : Int} (h : StI base g i W b hq hs nq ns Q S) (hid : i64 id) : Calls Tryz.prog 51 #[.pointer (some ⟨g, 0, none⟩), .int .i64 id] W fun e w' => e = .returned (.int .i64 (lastG b id)) ∧ Below W.heap.size W w' := by
  obtain ⟨a, n, c, lst, fl, is, ⟨-, e1, e2, -⟩, hc⟩ := gFind h hid
  rw [← e1]
  have HF := Lib.hid hc
  clear h hc e1 e2
  go_enter Tryz.func51, Tryz.ntmps51; (try simp only [List.append_eq, List.cons_append, List.nil_append])
  go_wp2_with fail
  refine HF.out.mono ?_
  rintro e w2 ⟨rfl, hb⟩
  have HB := Lib.hid hb
  have hsz := hb.size
  clear hb
  go_wp2_with (refine wpList_store_new rfl 64 _ _ rfl #[.slice a n c, .int .i64 lst, .int .i64 fl] _ _ rfl rfl (by kernel_rfl) rfl (by kernel_rfl) ?_)
  go_ret
  exact ⟨rfl, HB.out.alloc hsz _⟩
set_option maxRecDepth 100000 in
theorem gKept {id : Int} (h : StI base g i W b hq hs nq ns Q S) (hid : i64 id) : Calls Tryz.prog 30 #[.pointer (some ⟨g, 0, none⟩), .int .i64 id] W fun e w' => ∃ v L, e = .returned v ∧ OwnTd W.heap.size base w' v L ∧ L.map Prod.fst = keptG b id ∧ Below W.heap.size W w' := by
  obtain ⟨a, n, c, lst, fl, is, ⟨⟨L, hL, hn, hm, hn9, hok⟩, e1, e2, -⟩, hc⟩ := gFind h hid
  have HF := Lib.hid hc; have HL := Lib.hid hL; have HM := Lib.hid hm; have Hok := Lib.hid hok; have Hlo := Lib.hid h.lo; have Hn := Lib.hid hn
  clear h hc e1 e2 hL hm hok hn
  go_enter Tryz.func30, Tryz.ntmps30; (try simp only [List.append_eq, List.cons_append, List.nil_append])
  go_wp2_with fail
  refine HF.out.mono ?_
  rintro e w2 ⟨rfl, hb⟩
  have HB := Lib.hid hb
  have hsz := hb.size
  clear hb
  go_wp2_with (refine wpList_store_new rfl 64 _ _ rfl #[.slice a n c, .int .i64 lst, .int .i64 fl] _ _ rfl rfl (by kernel_rfl) rfl (by kernel_rfl) ?_)
  have HB2 := Lib.hid (HB.out.alloc hsz (.cells #[.slice a n c, .int .i64 lst, .int .i64 fl] 64))
  refine (bCopiedG (OwnTd.isTd (HL.out.keep HB2.out) (Nat.le_refl _)) (Nat.le_refl _) (by have := Hlo.out; have := HB2.out.size; omega) (by have := Hn.out; omega) Hok.out).mono ?_
  rintro e w3 ⟨v3, L3, rfl, hown, hm3, hb3⟩
  have HO := Lib.hid hown; have HB3 := Lib.hid hb3; have HM3 := Lib.hid hm3
  clear hown hb3 hm3
  go_wp2
  go_ret
  exact ⟨_, _, rfl, HO.out.low HB2.out.size, HM3.out.trans HM.out, HB2.out.trans (HB3.out.mono HB2.out.size)⟩
set_option maxRecDepth 100000 in
theorem gRoom {id : Int} (h : StI base g i W b hq hs nq ns Q S) (hid : i64 id) : Calls Tryz.prog 53 #[.pointer (some ⟨g, 0, none⟩), .int .i64 id] W fun e w' => e = .returned (.int .i64 (roomG b id)) ∧ Below W.heap.size W w' := by
  obtain ⟨a, n, c, lst, fl, is, ⟨⟨L, hL, hn, hm, hn9, hok⟩, e1, e2, e3⟩, hc⟩ := gFind h hid
  have HF := Lib.hid hc; have H := Lib.hid h
  have hroom := h.inv.room
  clear e1 e2 hL hok h hc
  cases hf : findQ b id with
  | none =>
    have e0 : roomG b id = 0 := by unfold roomG; rw [hf]
    rw [e0]
    rw [hf] at e3
    have e4 : is = false := e3
    subst e4
    clear hf e0 e3 hm
    go_enter Tryz.func53, Tryz.ntmps53; (try simp only [List.append_eq, List.cons_append, List.nil_append])
    go_wp2_with fail
    refine HF.out.mono ?_
    rintro e w2 ⟨rfl, hb⟩
    have HB := Lib.hid hb
    have hsz := hb.size
    clear hb
    go_wp2_with (refine wpList_store_new rfl 64 _ _ rfl #[.slice a n c, .int .i64 lst, .int .i64 fl] _ _ rfl rfl (by kernel_rfl) rfl (by kernel_rfl) ?_)
    go_ret
    exact ⟨rfl, HB.out.alloc hsz _⟩
  | some x =>
    have e0 : roomG b id = b.room - n := by
      unfold roomG keptG at *
      rw [hf] at hm ⊢
      simp only at hm ⊢
      rw [← hm, List.length_map, hn]
    rw [e0]
    rw [hf] at e3
    have e4 : is = true := e3
    subst e4
    clear hf e0 e3 hm hn
    go_enter Tryz.func53, Tryz.ntmps53; (try simp only [List.append_eq, List.cons_append, List.nil_append])
    go_wp2_with fail
    refine HF.out.mono ?_
    rintro e w2 ⟨rfl, hb⟩
    have HB := Lib.hid hb
    have hsz := hb.size
    have H2 := (H.out.keep hb).m.blk
    have c0 : w2.cell? ⟨g, 0, none⟩ = some (.int .i64 b.room) := H2.cell 0 _ rfl
    have hg2 := H2.lt
    clear hb H2
    go_wp2_with (refine wpList_store_new rfl 64 _ _ rfl #[.slice a n c, .int .i64 lst, .int .i64 fl] _ _ rfl rfl (by kernel_rfl) rfl (by kernel_rfl) ?_)
    go_quiet (fail)
    go_wp2
    go_ret
    exact ⟨rfl, below_drewN (HB.out.alloc hsz _) _⟩
set_option maxRecDepth 100000 in
theorem gSettledAt {id : Int} (h : StI base g i W b hq hs nq ns Q S) (hid : i64 id) : Calls Tryz.prog 47 #[.pointer (some ⟨g, 0, none⟩), .int .i64 id] W fun e w' => e = .returned (.int .i64 (settledG b id)) ∧ Below W.heap.size W w' := by
  obtain ⟨a, n, c, lst, fl, is, ⟨-, -, -, e3⟩, hc⟩ := gFind h hid
  have HF := Lib.hid hc; have H := Lib.hid h
  clear hc
  cases hf : findQ b id with
  | none =>
    have e0 : settledG b id = 0 := by unfold settledG; rw [hf]
    rw [e0]
    rw [hf] at e3
    have e4 : is = false := e3
    subst e4
    clear hf e0 e3 h
    go_enter Tryz.func47, Tryz.ntmps47; (try simp only [List.append_eq, List.cons_append, List.nil_append])
    go_wp2_with fail
    refine HF.out.mono ?_
    rintro e w2 ⟨rfl, hb⟩
    have HB := Lib.hid hb
    have hsz := hb.size
    clear hb
    go_wp2_with (refine wpList_store_new rfl 64 _ _ rfl #[.slice a n c, .int .i64 lst, .int .i64 fl] _ _ rfl rfl (by kernel_rfl) rfl (by kernel_rfl) ?_)
    go_ret
    exact ⟨rfl, HB.out.alloc hsz _⟩
  | some x =>
    obtain ⟨k, e, hk, rfl, he⟩ := h.atQ hf
    have e0 : settledG b id = settleAt b e.qy := by unfold settledG; rw [hf]
    rw [e0]
    rw [hf] at e3
    have e4 : is = true := e3
    subst e4
    subst he
    have Hk := Lib.hid hk
    clear hf e0 e3 h hk
    obtain ⟨sv, hsv⟩ : ∃ z, settleAt b e.qy = z := ⟨_, rfl⟩
    have HC := Lib.hid (fun (X : World) (hb : Below W.heap.size W X) => gSettled (H.out.keep hb) Hk.out)
    rw [hsv] at HC ⊢
    clear hsv
    go_enter Tryz.func47, Tryz.ntmps47; (try simp only [List.append_eq, List.cons_append, List.nil_append])
    go_wp2_with fail
    refine HF.out.mono ?_
    rintro e w2 ⟨rfl, hb⟩
    have HB := Lib.hid hb
    have hsz := hb.size
    clear hb
    go_wp2_with (refine wpList_store_new rfl 64 _ _ rfl #[.slice a n c, .int .i64 lst, .int .i64 fl] _ _ rfl rfl (by kernel_rfl) rfl (by kernel_rfl) ?_)
    have HB2 := Lib.hid (HB.out.alloc hsz (.cells #[.slice a n c, .int .i64 lst, .int .i64 fl] 64))
    refine (HC.out _ HB2.out).mono ?_
    rintro e w3 ⟨rfl, hb3⟩
    have HB3 := Lib.hid hb3
    clear hb3
    go_wp2
    go_ret
    exact ⟨rfl, HB2.out.trans (HB3.out.mono HB2.out.size)⟩
theorem StI.riseQ (h : StI base g i W b hq hs nq ns Q S) : RiseK (Q.map qPair) := by
  unfold RiseK
  rw [List.map_map]
  exact h.qIds
set_option maxRecDepth 100000 in
theorem gQueries (h : StI base g i W b hq hs nq ns Q S) : Calls Tryz.prog 60 #[.pointer (some ⟨g, 0, none⟩)] W fun e w' => ∃ v, e = .returned v ∧ OwnI 3 W.heap.size w' v (b.q.map Qy.id) ∧ Below W.heap.size W w' := by
  have H := Lib.hid h
  have HM := Lib.hid (gMade h)
  have hg := h.m.blk.lt
  have c1 : W.cell? ⟨g, 1, none⟩ = some (.map (some hq)) := h.m.blk.cell 1 _ rfl
  have HK := Lib.hid (show (Q.map qPair).map Prod.fst = b.q.map Qy.id by rw [h.q, List.map_map, List.map_map]; rfl)
  have hQl := h.m.mq
  have Hql := Lib.hid (show (Q.map qPair).length ≤ 100000 by
    have h1 := World.ownsMap.size_le h.m.mq
    rw [sizeE] at h1
    have := h.num
    omega)
  clear h hQl
  go_enter Tryz.func60, Tryz.ntmps60; (try simp only [List.append_eq, List.cons_append, List.nil_append])
  go_wp2_with fail
  refine HM.out.mono ?_
  rintro e w2 ⟨rfl, rfl⟩
  go_wp2_with fail
  refine (sKeysQ _ _).mono ?_
  rintro e w1 ⟨rfl, rfl⟩
  have hb1 := (Below.refl w2.heap.size w2).alloc (Nat.le_refl _) (.cells #[.map (some hq)] 52)
  go_wp2_with fail
  refine (sSortedQ (H.out.m.mq.keep (hb1.block _ H.out.m.mq.lt)) H.out.riseQ Hql.out (Blk.new w2 [.map (some hq)] 52)).mono ?_
  rintro e w1 ⟨v1, rfl, hown, hb2⟩
  rw [HK.out] at hown
  have HB := Lib.hid (hb1.trans (hb2.mono (by simp)))
  have Hown := Lib.hid hown
  clear hown hb1 hb2
  go_wp2
  go_ret
  exact ⟨_, rfl, ownsRow_base Hown.out (by simp), HB.out⟩
end
end Go.Proofs.YtfmolimnnheaoaaGreat

/- (*Board).Poll, Subs of a board of many queries. -/
namespace Go.Proofs.YtfmolimnnheaoaaGreat
open Go.RowKit
set_option linter.unusedSimpArgs false
set_option linter.unusedVariables false
open Go.Maps

theorem infoSub : (Tryz.prog.info? 73).map (fun i => (i.zero, i.size, i.bytes)) = some (some (.agg #[.int .i64 0, .int .i64 0, .int .i64 0, .int .i64 0]), 4, 32) := by kernel_rfl
/-- Subscribers in a block of the call's own. -/
def OwnSu (lo : Nat) (w : World) (v : Value) (l : List Su) : Prop := w.ownsRow lo 73 4 v l.length (l.map subV).flatten
theorem OwnSu.nil {lo : Nat} {w : World} : OwnSu lo w (.slice none 0 0) [] := World.ownsRow_nil _ _ _ _
theorem sub_one (s : Su) : ∀ u ∈ subV s, u.oneCell' = true := by
  intro u hu
  simp [subV] at hu
  rcases hu with rfl | rfl | rfl | rfl <;> rfl
theorem app_su {ops : Array Oper} {rest : List Oper} {o : Oper} {a : Act} {w : World} {Q : Exit → Act → World → Prop} (hgd : o.guard = none) (s x : Operand)
    (ho : o.op = .call { callee := .builtin .append, args := #[s, x], argTypes := #[57, 57] }) (lo : Nat) (v : Value) (l : List Su) (t : Su) (g : Nat)
    (hs : a.eval s = v) (hx : a.eval x = .slice (some ⟨g, 0, none⟩) 1 1) (hown : OwnSu lo w v l) (hc0 : w.cell? ⟨g, 0, none⟩ = some (.int .i64 t.id)) (hc1 : w.cell? ⟨g, 1, none⟩ = some (.int .i64 t.query)) (hc2 : w.cell? ⟨g, 2, none⟩ = some (.int .i64 t.cursor)) (hc3 : w.cell? ⟨g, 3, none⟩ = some (.int .i64 t.acked)) (hl : l.length ≤ 1000000) (hbase : lo ≤ w.heap.size)
    (h : ∀ v' w', OwnSu lo w' v' (l ++ [t]) → w.grownBy w' v.ownBlock → (v'.ownBlock = v.ownBlock ∨ v'.ownBlock = some w.heap.size) → wpList Tryz.prog ops Q rest (a.put o.dst v') w') :
    wpList Tryz.prog ops Q (o :: rest) a w := by
  obtain ⟨i0, hi, hz0, hz1, hz2⟩ := info_parts infoSub
  refine wpList_append_src _ hgd s x 57 ho lo 73 i0 (.agg #[.int .i64 0, .int .i64 0, .int .i64 0, .int .i64 0]) 4 32 Tryz.underlying57 hi hz0 hz1 hz2 rfl (by decide) v l.length _ hs hown _ 1 (subV t) hx (.inr ⟨⟨g, 0, none⟩, 1, rfl, rfl, ?_⟩) (sub_one t) (by unfold maxLen; omega) (by omega) hbase ?_
  · intro j u hj
    match j, hj with
    | 0, hj => simp [subV] at hj; subst hj; simpa [Addr.add] using hc0
    | 1, hj => simp [subV] at hj; subst hj; simpa [Addr.add] using hc1
    | 2, hj => simp [subV] at hj; subst hj; simpa [Addr.add] using hc2
    | 3, hj => simp [subV] at hj; subst hj; simpa [Addr.add] using hc3
    | j + 4, hj => simp [subV] at hj
  · intro v' w' h1 h2 h3
    refine h v' w' ?_ h2 h3
    unfold OwnSu
    rw [List.length_append, List.map_append, List.flatten_append]
    simpa using h1
section
variable {base : Nat} {W W' : World} {g i hq hs nq ns : Nat} {b : GB} {Q : List QE} {S : List SE} {F : Nat → Prop}
theorem ofG_none (h : GInv b) {id : Int} (hf : findQ b id = none) : ofG b id = [] := by
  refine List.filter_eq_nil_iff.2 fun s hs => ?_
  obtain ⟨-, -, x, hx, e⟩ := h.uok s hs
  unfold findQ at hf
  have := List.find?_eq_none.1 hf x hx
  simp only [beq_iff_eq] at this ⊢
  intro e2
  exact this (e.trans e2)
set_option maxRecDepth 100000 in
set_option maxHeartbeats 4000000 in
theorem gSubs {id : Int} (h : StI base g i W b hq hs nq ns Q S) (hid : i64 id) : Calls Tryz.prog 57 #[.pointer (some ⟨g, 0, none⟩), .int .i64 id] W fun e w' => ∃ v, e = .returned v ∧ OwnSu W.heap.size w' v (ofG b id) ∧ Below W.heap.size W w' := by
  obtain ⟨a, n, c, lst, fl, is, ⟨-, -, -, e3⟩, hc⟩ := gFind h hid
  have HF := Lib.hid hc; have H := Lib.hid h
  clear hc
  cases hf : findQ b id with
  | none =>
    rw [ofG_none h.inv hf]
    rw [hf] at e3
    have e4 : is = false := e3
    subst e4
    clear hf e3 h
    go_enter Tryz.func57, Tryz.ntmps57; (try simp only [List.append_eq, List.cons_append, List.nil_append])
    go_wp2_with fail
    refine HF.out.mono ?_
    rintro e w2 ⟨rfl, hb⟩
    have HB := Lib.hid hb
    have hsz := hb.size
    clear hb
    go_wp2_with (refine wpList_store_new rfl 64 _ _ rfl #[.slice a n c, .int .i64 lst, .int .i64 fl] _ _ rfl rfl (by kernel_rfl) rfl (by kernel_rfl) ?_)
    go_ret
    exact ⟨_, rfl, OwnSu.nil, HB.out.alloc hsz _⟩
  | some x =>
    rw [hf] at e3
    have e4 : is = true := e3
    subst e4
    rw [h.ofG id]
    have Hfew := Lib.hid h.few
    have HMl := Lib.hid (show ∀ s ∈ ofE S id, s ∈ S from fun s hs => (List.mem_filter.1 hs).1)
    have Hll := Lib.hid (show (ofE S id).length ≤ S.length from List.length_filter_le _ _)
    have HC := Lib.hid (fun (X : World) (hb : Below W.heap.size W X) => gOf (id := id) (H.out.keep hb))
    have hll : ((ofE S id).map SE.blk).length = (ofE S id).length := List.length_map _
    clear hf e3 h
    obtain ⟨O, hO⟩ : ∃ z, ofE S id = z := ⟨_, rfl⟩
    rw [hO] at HMl Hll HC hll ⊢
    clear hO
    go_enter Tryz.func57, Tryz.ntmps57; (try simp only [List.append_eq, List.cons_append, List.nil_append])
    go_wp2_with fail
    refine HF.out.mono ?_
    rintro e w2 ⟨rfl, hb⟩
    have HB := Lib.hid hb
    have hsz := hb.size
    clear hb
    go_wp2_with (refine wpList_store_new rfl 64 _ _ rfl #[.slice a n c, .int .i64 lst, .int .i64 fl] _ _ rfl rfl (by kernel_rfl) rfl (by kernel_rfl) ?_)
    have HB2 := Lib.hid (HB.out.alloc hsz (.cells #[.slice a n c, .int .i64 lst, .int .i64 fl] 64))
    refine (HC.out _ HB2.out).mono ?_
    rintro r w1 ⟨v1, rfl, hown, hb1⟩
    obtain ⟨pk, ck, rfl⟩ := ownsRow_slice hown
    rw [hll]
    have Hown := Lib.hid hown
    have HB3 := Lib.hid (HB2.out.trans (hb1.mono HB2.out.size))
    have H1 := Lib.hid (H.out.keep HB3.out)
    have hsz1 := HB3.out.size
    have Hl2 := Lib.hid hll
    clear hown hb1 hll
    go_wp2_with fail
    go_loopw [7, 22] (fun v j wr => ∃ k : Nat, k ≤ O.length ∧ j = .int .i64 k ∧ OwnSu w1.heap.size wr v ((O.take k).map SE.s) ∧ Below w1.heap.size w1 wr) (fun _ j _ => O.length - (intOf j).toNat)
    case atStart => exact ⟨0, Nat.zero_le _, rfl, by rw [List.take_zero]; exact OwnSu.nil, Below.refl _ _⟩
    case round =>
      obtain ⟨k, hk, rfl, hown, hb⟩ := hrel
      have Hown2 := Lib.hid hown; have Hb := Lib.hid hb
      clear hown hb
      by_cases hlt : k < O.length
      · have hki : (k : Int) < (O.length : Int) := by omega
        obtain ⟨s, hs1⟩ : ∃ s, O[k]? = some s := ⟨_, List.getElem?_eq_getElem hlt⟩
        have hsb := (H1.out.m.s.mem s (HMl.out s (List.mem_of_getElem? hs1))).1.keep Hb.out
        have d0 : wr.cell? ⟨s.blk, 0, none⟩ = some (.int .i64 s.s.id) := hsb.cell 0 _ rfl
        have d1 : wr.cell? ⟨s.blk, 1, none⟩ = some (.int .i64 s.s.query) := hsb.cell 1 _ rfl
        have d2 : wr.cell? ⟨s.blk, 2, none⟩ = some (.int .i64 s.s.cursor) := hsb.cell 2 _ rfl
        have d3 : wr.cell? ⟨s.blk, 3, none⟩ = some (.int .i64 s.s.acked) := hsb.cell 3 _ rfl
        have hxw := hsb.lt
        obtain ⟨bk, hpk, hbk, hkey⟩ := (OwnP.get (ownsRow_keep Hown.out Hb.out) rfl (k := k) (x := s.blk) (by rw [List.getElem?_map, hs1]; rfl))
        unfold ptrB at hkey
        subst hpk
        have Htk := Lib.hid (show (O.take (k + 1)).map SE.s = (O.take k).map SE.s ++ [s.s] by rw [List.take_add_one, hs1, List.map_append]; rfl)
        have hk9 : (k : Int) ≤ 256 := by have := Hll.out; have := Hfew.out; omega
        have htl : ((O.take k).map SE.s).length ≤ 1000000 := by rw [List.length_map, List.length_take]; omega
        clear hsb hs1
        go_wp2_with (at_builtin; refine app_su rfl _ _ rfl w1.heap.size _ ((O.take k).map SE.s) s.s wr.heap.size rfl rfl (ownsRow_keep Hown2.out ((Below.refl _ _).alloc (Nat.le_refl _) _)) (by go_simp) (by go_simp) (by go_simp) (by go_simp) htl (by have := Hb.out.size; simp; omega) ?_)
        intro v' w4 hown4 hg4 _
        have hb4 := below_app (Hb.out.alloc Hb.out.size (.cells #[.int .i64 s.s.id, .int .i64 s.s.query, .int .i64 s.s.cursor, .int .i64 s.s.acked] 73)) (ownsRow_keep Hown2.out ((Below.refl _ _).alloc (Nat.le_refl _) (.cells #[.int .i64 s.s.id, .int .i64 s.s.query, .int .i64 s.s.cursor, .int .i64 s.s.acked] 73))) hg4 (Nat.le_refl _) (by have := Hb.out.size; simp; omega)
        have Hown4 := Lib.hid hown4; have Hb4 := Lib.hid hb4
        clear hown4 hg4 hb4
        go_wp2
        exact ⟨⟨k + 1, by omega, by go_num, by rw [Htk.out]; simpa only [List.map_take] using Hown4.out, Hb4.out⟩, by simp [intOf]; omega⟩
      · have hk' : k = O.length := by omega
        subst hk'
        have hki : ¬ ((O.length : Int) < (O.length : Int)) := by omega
        rw [List.take_length] at Hown2
        go_wp2
        go_ret
        exact ⟨_, rfl, ownsRow_base Hown2.out hsz1, HB3.out.trans (Hb.out.mono hsz1)⟩
theorem ownBlock_len (p : Option Addr) (n n' c : Nat) : (Value.slice p n c).ownBlock = (Value.slice p n' c).ownBlock := by cases p <;> rfl
theorem take_minV (l : List TV) (j : Nat) : l.take (min l.length j) = l.take j := by
  rcases Nat.le_total j l.length with h | h
  · rw [Nat.min_eq_right h]
  · rw [Nat.min_eq_left h, List.take_length, List.take_of_length_le h]
/-- What Poll leaves and hands. -/
def PollA (base g i : Nat) (F : Nat → Prop) (W : World) (b : GB) (n m : Int) (e : Ending) (w' : World) : Prop := ∃ v L, e = .returned (.tuple #[v, .int .i64 (pollG b n m).2.2]) ∧ OwnTd W.heap.size base w' v L ∧ L.map Prod.fst = (pollG b n m).2.1 ∧ PostA base g i F W (pollG b n m).1 w'
set_option maxRecDepth 100000 in
set_option maxHeartbeats 8000000 in
theorem gPoll {n m : Int} (h : StI base g i W b hq hs nq ns Q S) (hn : i64 n) (hm : i64 m) :
    Calls Tryz.prog 19 #[.pointer (some ⟨g, 0, none⟩), .int .i64 n, .int .i64 m] W (PollA base g i (FootA g hq hs Q S) W b n m) := by
  have HSame := Lib.hid (PostA.same h)
  have HIn := Lib.hid (inv_poll h.inv n m)
  unfold PollA
  cases hf : findU b n with
  | none =>
    have HC := Lib.hid (gSubNone h hn hf)
    have e0 : pollG b n m = (b, [], 6) := by unfold pollG; rw [hf]
    rw [e0]
    clear h hf e0 HIn
    go_enter Tryz.func19, Tryz.ntmps19; (try simp only [List.append_eq, List.cons_append, List.nil_append])
    go_wp2_with fail
    refine HC.out.mono ?_
    rintro e w2 ⟨rfl, rfl⟩
    go_wp2
    go_ret2
    exact ⟨_, [], rfl, OwnTd.nil, rfl, HSame.out⟩
  | some u =>
    obtain ⟨k, s, hk, rfl, hid⟩ := h.atU hf
    subst hid
    obtain ⟨j, e, hj, he⟩ := h.qOf hk
    have hfq := h.find_at hj
    rw [he] at hfq
    have hh := handG_drop h.inv hfq m
    have e0 : pollG b s.s.id m = ({ b with s := turnU s.s.id (fun v => { v with cursor := lastT v.cursor (handG b s.s m) }) b.s }, handG b s.s m, 0) := by unfold pollG; rw [hf]
    rw [e0] at HIn ⊢
    have HH := Lib.hid hh
    have hsb := (h.m.s.mem s (List.mem_of_getElem? hk)).1
    have hmem := h.m.q.mem e (List.mem_of_getElem? hj)
    have HQo := Lib.hid (h.qOk hj)
    have hkn := h.keptN hj
    have hlook0 := h.lookQ hj
    have hx := hsb.lt
    have hg := h.m.blk.lt
    have c1 : W.cell? ⟨g, 1, none⟩ = some (.map (some hq)) := h.m.blk.cell 1 _ rfl
    have k1 : W.cell? ⟨s.blk, 1, none⟩ = some (.int .i64 s.s.query) := hsb.cell 1 _ rfl
    have k2 : W.cell? ⟨s.blk, 2, none⟩ = some (.int .i64 s.s.cursor) := hsb.cell 2 _ rfl
    have HC := Lib.hid (gSub h hk)
    have HS := Lib.hid hsb; have H := Lib.hid h; have Hk := Lib.hid hk
    have hlookN : ∀ k, (Instr.lookup 52 (.map (some hq)) (.int .i64 s.s.query) false).run Tryz.prog (W.drewN k) = .ok (.pointer (some ⟨e.blk, 0, none⟩)) (W.drewN k) := fun k => by
      have := (h.keep (below_drewN (Below.refl _ _) k)).lookQ hj
      rw [he] at this; exact this
    clear e0 hf hk hj hfq hh hlook0 h hsb he
    obtain ⟨qid, L, lst, fl, xq, kv⟩ := e
    obtain ⟨ak, ck, hkv⟩ := hmem.2.1.slice
    simp only at hkv hkn hlookN
    subst hkv
    have HMq := Lib.hid hmem
    have HH := Lib.hid (show handG b s.s m = ((L.map Prod.fst).drop (aboveT (L.map Prod.fst) s.s.cursor)).take (max 0 m).toNat from HH.out)
    have Hr := Lib.hid (show RiseV L from HQo.out.rise)
    have hxl : xq < W.heap.size := hmem.1.1.lt
    have d0 : W.cell? ⟨xq, 0, none⟩ = some (.slice ak L.length ck) := hmem.1.1.cell 0 _ rfl
    clear hmem
    go_enter Tryz.func19, Tryz.ntmps19; (try simp only [List.append_eq, List.cons_append, List.nil_append])
    go_wp2_with fail
    refine HC.out.mono ?_
    rintro r w2 ⟨rfl, rfl⟩
    go_wp2_with fail
    go_quiet (fail)
    go_wp2_with fail
    have hbq : Below w2.heap.size w2 (w2.drewN nq) := below_drewN (Below.refl _ _) _
    obtain ⟨W3, hW3⟩ : ∃ z, w2.drewN nq = z := ⟨_, rfl⟩
    rw [hW3] at hbq ⊢
    clear hW3 hlookN c1 d0 k1 k2 hx hg hxl
    have HT := Lib.hid (show IsTd W3.heap.size base W3 (.slice ak L.length ck) L from OwnTd.isTd (HMq.out.2.1.keep hbq) (Nat.le_refl _))
    refine (gAbove HT.out (Nat.le_refl _) Hr.out (by omega) s.s.cursor).mono ?_
    rintro r w4 ⟨rfl, hb4⟩
    have HB4 := Lib.hid (hbq.trans (hb4.mono hbq.size))
    have HT4 := Lib.hid (HT.out.keep hb4 (Nat.le_refl _))
    have hz4 := hb4.size
    clear hb4
    obtain ⟨sv, hsv, hst, hsvo⟩ := cutTd HT4.out (aboveL L s.s.cursor)
    obtain ⟨p5, cap5, rfl, hc5, hc6⟩ := hst.open
    obtain ⟨D, hD⟩ : ∃ z, L.drop (aboveT (L.map Prod.fst) s.s.cursor) = z := ⟨_, rfl⟩
    have hDl : D.length ≤ 4096 := by rw [← hD, List.length_drop]; omega
    have HDm := Lib.hid (show ∀ x ∈ D, x ∈ L from fun x hx => by rw [← hD] at hx; exact List.mem_of_mem_drop hx)
    have HH := Lib.hid (show handG b s.s m = (D.map Prod.fst).take (max 0 m).toNat by rw [HH.out, ← hD, List.map_drop])
    rw [hD] at hsv hst hc5
    obtain ⟨nl, hnl⟩ : ∃ z, D.length = z := ⟨_, rfl⟩
    rw [hnl] at hsv hst hc5 hDl
    have hst2 := hst.head (k := min nl (max 0 m).toNat) (by rw [hnl]; exact Nat.min_le_left _ _)
    rw [show D.take (min nl (max 0 m).toNat) = D.take (max 0 m).toNat by rw [← hnl, take_minV]] at hst2
    have hlen2 : (D.take (max 0 m).toNat).length = min nl (max 0 m).toNat := by rw [List.length_take, hnl, Nat.min_comm]
    obtain ⟨n2, hn2⟩ : ∃ z, min nl (max 0 m).toNat = z := ⟨_, rfl⟩
    have hmin : min (nl : Int) (max 0 m) = (n2 : Int) := by omega
    rw [hn2] at hst2 hlen2
    have hn29 : n2 ≤ nl := by omega
    have HH := Lib.hid (show handG b s.s m = (D.take (max 0 m).toNat).map Prod.fst by rw [HH.out, List.map_take])
    have HTm := Lib.hid (show ∀ x ∈ D.take (max 0 m).toNat, TOk x.1 from fun x hx => HMq.out.2.2 x (HDm.out x (List.mem_of_mem_take hx)))
    obtain ⟨hl, hhl⟩ : ∃ z, D.take (max 0 m).toNat = z := ⟨_, rfl⟩
    rw [hhl] at hst2 hlen2 HH HTm
    have HT6 := Lib.hid hst2
    have HL2 := Lib.hid hlen2
    have H4 := Lib.hid (H.out.keep HB4.out)
    have HS4 := Lib.hid (HS.out.keep HB4.out)
    have hcap : n2 ≤ cap5 := by omega
    have hx4 := HS4.out.lt
    have Hbw := Lib.hid (show base ≤ w4.heap.size from H4.out.lo)
    have HOwn := Lib.hid (show ∀ j, (Value.slice p5 n2 cap5).ownBlock = some j → TyB w4 j 34 from fun j hj => by
      have h2 := hsvo j ((ownBlock_len _ _ _ _).trans hj)
      exact (own_ty HMq.out.2.1.1 h2).same (HB4.out.block j (own_ty HMq.out.2.1.1 h2).lt))
    clear hst hst2 hn2 hhl hlen2 hnl hD hsvo HDm
    have HIn := Lib.hid (show GInv { b with s := turnU s.s.id (fun v => { v with cursor := lastT v.cursor (handG b s.s m) }) b.s } from HIn.out)
    rw [HH.out] at HIn
    cases n2 with
    | zero =>
      have hnil : hl = [] := List.eq_nil_of_length_eq_zero HL2.out
      subst hnil
      go_wp2_with fail
      refine (bCopiedG HT6.out hz4 Hbw.out (by simp) HTm.out).mono ?_
      rintro r w7 ⟨v7, L7, rfl, hown, hm7, hb7⟩
      have HO7 := Lib.hid hown; have HB7 := Lib.hid hb7; have HM7 := Lib.hid hm7
      clear hown hb7 hm7
      go_wp2
      go_ret2
      obtain ⟨h8, h9⟩ := H4.out.setS (W' := w7) (M := fun _ => False) Hk.out (fun v => { v with cursor := lastT v.cursor (List.map Prod.fst ([] : List TV)) }) rfl (OffM.of HB7.out) (fun _ _ h => h.elim) (HS4.out.keep HB7.out) HIn.out
      rw [HH.out]
      exact ⟨_, _, rfl, HO7.out.low HB4.out.size, HM7.out, _, h8.st, (Turn.of HB4.out).trans h9⟩
    | succ n3 =>
      obtain ⟨t6, ht6⟩ : ∃ t, hl[n3]? = some t := ⟨_, List.getElem?_eq_getElem (by rw [HL2.out]; omega)⟩
      obtain ⟨b6, off6, rfl, hb6, e0, e1, -⟩ := HT6.out.get ht6
      have hb69 : b6 < w4.heap.size := by omega
      have f2 := HS4.out.free 2
      have k2 : w4.cell? ⟨s.blk, 2, none⟩ = some (.int .i64 s.s.cursor) := HS4.out.cell 2 _ rfl
      have HLt := Lib.hid (show lastT s.s.cursor (hl.map Prod.fst) = t6.1.time by
        unfold lastT
        rw [List.getLastD_eq_getLast?, List.getLast?_eq_getElem?, List.length_map, List.length_map, HL2.out, List.getElem?_map, List.getElem?_map]
        show ((hl[n3]?.map Prod.fst).map Tl.time).getD _ = _
        rw [ht6]; rfl)
      clear ht6
      obtain ⟨⟨tt, tr⟩, tv⟩ := t6
      simp only at e0 e1 HLt
      have HOx := Lib.hid (OffM.cell1 w4 s.blk 2 (.int .i64 tt))
      have HSx := Lib.hid (HS4.out.set_ 2 (.int .i64 tt))
      have HTx := Lib.hid (HT6.out.off hz4 HOx.out (blk_quiet HS4.out.ty (H4.out.m.s.mem s (List.mem_of_getElem? Hk.out)).2 (by decide) (by decide)) (fun j hj e => by subst e; exact (HOwn.out _ hj).ne HS4.out.ty (by decide) rfl))
      have hz5 := HOx.out.size
      go_wp2_with fail
      obtain ⟨W5, hW5⟩ : ∃ z, w4.setCell ⟨s.blk, 2, none⟩ (.int .i64 tt) = z := ⟨_, rfl⟩
      rw [hW5] at HOx HSx HTx hz5 ⊢
      clear hW5
      refine (bCopiedG HTx.out (Nat.le_trans hz4 hz5) (Nat.le_trans Hbw.out hz5) (by have := HL2.out; omega) HTm.out).mono ?_
      rintro r w7 ⟨v7, L7, rfl, hown, hm7, hb7⟩
      have HO7 := Lib.hid hown; have HB7 := Lib.hid hb7; have HM7 := Lib.hid hm7
      clear hown hb7 hm7
      go_wp2
      go_ret2
      have HOy := Lib.hid (HOx.out.trans (OffM.of (M := fun _ => False) HB7.out) (fun _ _ h => h.elim))
      obtain ⟨h8, h9⟩ := H4.out.setS (W' := w7) Hk.out (fun v => { v with cursor := lastT v.cursor (hl.map Prod.fst) }) rfl HOy.out (fun _ _ h => h) (by
        show Blk w7 s.blk 73 [.int .i64 s.s.id, .int .i64 s.s.query, .int .i64 (lastT s.s.cursor (hl.map Prod.fst)), .int .i64 s.s.acked]
        rw [HLt.out]
        exact HSx.out.keep HB7.out) HIn.out
      rw [HH.out]
      exact ⟨_, _, rfl, HO7.out.low (Nat.le_trans HB4.out.size hz5), HM7.out, _, h8.st, (Turn.of HB4.out).trans h9⟩
end
end Go.Proofs.YtfmolimnnheaoaaGreat

/- The document's board in memory: rows of queries, rows of subscribers; what of it turns. (For SubsScript.) No walk here. -/
namespace Go.Proofs.YtfmolimnnheaoaaGreat
open Go.RowKit
set_option linter.unusedSimpArgs false
set_option linter.unusedVariables false

/-! ### rows of the call's own -/
theorem own_row {w : World} {lo e sz n c : Nat} {p : Option Addr} {rows : List (List Value)} (h : w.ownsRow lo e sz (.slice p n c) n rows.flatten) (hl : rows.length = n) (hr : ∀ r ∈ rows, r.length = sz) {k : Nat} {row : List Value} (hk : rows[k]? = some row) :
    ∃ g off, p = some ⟨g, off, none⟩ ∧ off = 0 ∧ g < w.heap.size ∧ lo ≤ g ∧ TyB w g e ∧ (∀ j x, row[j]? = some x → w.cell? ⟨g, off + k * sz + j, none⟩ = some x) ∧ ∀ j, w.frozen? ⟨g, j, none⟩ = false := by
  have hkl := (List.getElem?_eq_some_iff.1 hk).1
  rcases h.2 with ⟨hv, h0⟩ | ⟨g, cap', cur, hv, hg, hh, hc1, hc2, hc3, hc4⟩
  · omega
  · cases hv
    refine ⟨g, 0, rfl, rfl, (Array.getElem?_eq_some_iff.1 hh).1, hg, ⟨_, _, hh⟩, fun j x hx => ?_, fun j => h.frozenAt j⟩
    have := World.ownsRow.cells h (g := g) rfl (k * sz + j) x (flatten_at hr hk hx)
    rw [show (⟨g, 0, none⟩ : Addr).add (k * sz + j) = ⟨g, 0 + k * sz + j, none⟩ by unfold Addr.add; split <;> simp <;> omega] at this
    exact this
theorem own_set_row {w : World} {lo e sz n c g off : Nat} {rows : List (List Value)} (hoff : off = 0) (h : w.ownsRow lo e sz (.slice (some ⟨g, off, none⟩) n c) n rows.flatten) (hr : ∀ r ∈ rows, r.length = sz) {k j : Nat} (hj : j < sz) {row : List Value} (hk : rows[k]? = some row) (u : Value) :
    (w.setCell ⟨g, off + k * sz + j, none⟩ u).ownsRow lo e sz (.slice (some ⟨g, off, none⟩) n c) n (rows.set k (row.set j u)).flatten := by
  subst hoff
  rw [Nat.zero_add, ← flat_set u hj hr hk]
  exact (h.stored (k * sz + j) u).1
theorem flat_take {sz : Nat} : ∀ {rows : List (List Value)}, (∀ r ∈ rows, r.length = sz) → ∀ k, rows.flatten.take (k * sz) = (rows.take k).flatten
  | [], _, k => by simp
  | r :: rows, hr, 0 => by simp
  | r :: rows, hr, k + 1 => by
    have h1 := hr r (by simp)
    have h2 := flat_take (rows := rows) (fun x hx => hr x (by simp [hx])) k
    rw [List.flatten_cons, List.take_succ_cons, List.flatten_cons, ← h2, Nat.succ_mul, List.take_append, h1, List.take_of_length_le (by omega)]
    congr 2
    omega
theorem own_cut {w : World} {lo e sz n c : Nat} {p : Option Addr} {rows : List (List Value)} (h : w.ownsRow lo e sz (.slice p n c) n rows.flatten) (hl : rows.length = n) (hr : ∀ r ∈ rows, r.length = sz) {k : Nat} (hk : k ≤ n) : w.ownsRow lo e sz (.slice p k c) k (rows.take k).flatten := by
  have hlen : (rows.take k).flatten.length = k * sz := by
    rw [← flat_take hr, List.length_take, h.1]
    exact Nat.min_eq_left (Nat.mul_le_mul_right _ hk)
  refine ⟨hlen, ?_⟩
  rcases h.2 with ⟨hv, h0⟩ | ⟨g, cap', cur, hv, hg, hh, hc1, hc2, hc3, hc4⟩
  · cases hv
    exact .inl ⟨by congr 1; omega, by omega⟩
  · cases hv
    refine .inr ⟨g, c, cur, rfl, hg, hh, by omega, hc2, hc3, ?_⟩
    rw [← flat_take hr, ← hc4, List.take_take]
    congr 1
    exact (Nat.min_eq_left (Nat.mul_le_mul_right _ hk)).symm
/-! ### the board -/
def qRow (e : QE) : List Value := [.int .i64 e.id, e.kv, .int .i64 e.last, .int .i64 e.floor]
theorem qRow_len (Q : List QE) : ∀ r ∈ Q.map qRow, r.length = 4 := by
  intro r hr
  obtain ⟨t, -, rfl⟩ := List.mem_map.1 hr
  rfl
theorem subV_len (l : List Su) : ∀ r ∈ l.map subV, r.length = 4 := by
  intro r hr
  obtain ⟨t, -, rfl⟩ := List.mem_map.1 hr
  rfl
def KMem (base : Nat) (W : World) (e : QE) : Prop := OwnTd base base W e.kv e.L
def KFoot (e : QE) (k : Nat) : Prop := e.kv.ownBlock = some k
theorem kStays (base : Nat) : Stays base (KMem base) KFoot where
  off := fun W W' M e h ho hq hM => h.off ho hq hM
  lt := fun W e k h hk => (h.foot_lt hk).2
def boardR (room id : Int) (qv sv : Value) : List Value := [.int .i64 room, qv, sv, .int .i64 id]
structure BrdR (base : Nat) (W : World) (g : Nat) (room id : Int) (qv sv : Value) (Q : List QE) (S : List Su) : Prop where
  blk : Blk W g 59 (boardR room id qv sv)
  lo : base ≤ g
  q : W.ownsRow base 68 4 qv Q.length (Q.map qRow).flatten
  s : OwnSu base W sv S
  k : Fam (KMem base) KFoot W Q
def FootR (g : Nat) (qv sv : Value) (Q : List QE) (k : Nat) : Prop := k = g ∨ qv.ownBlock = some k ∨ sv.ownBlock = some k ∨ ∃ e ∈ Q, KFoot e k
section
variable {base : Nat} {W W' : World} {g : Nat} {room id id' : Int} {qv sv qv' sv' : Value} {Q Q' : List QE} {S S' : List Su} {M : Nat → Prop}
theorem BrdR.tyQ (h : BrdR base W g room id qv sv Q S) {k : Nat} (hk : qv.ownBlock = some k) : base ≤ k ∧ TyB W k 68 := ⟨own_lo h.q hk, own_ty h.q hk⟩
theorem BrdR.tyS (h : BrdR base W g room id qv sv Q S) {k : Nat} (hk : sv.ownBlock = some k) : base ≤ k ∧ TyB W k 73 := ⟨own_lo h.s hk, own_ty h.s hk⟩
theorem BrdR.tyK (h : BrdR base W g room id qv sv Q S) {e : QE} (he : e ∈ Q) {k : Nat} (hk : KFoot e k) : base ≤ k ∧ TyB W k 34 := ⟨own_lo (h.k.mem e he).1 hk, own_ty (h.k.mem e he).1 hk⟩
theorem BrdR.foot (h : BrdR base W g room id qv sv Q S) {k : Nat} (hk : FootR g qv sv Q k) : base ≤ k ∧ ∃ t, TyB W k t ∧ t ≠ 95 ∧ t ≠ 106 := by
  rcases hk with rfl | hk | hk | ⟨e, he, hk⟩
  · exact ⟨h.lo, _, h.blk.ty, by decide, by decide⟩
  · exact ⟨(h.tyQ hk).1, _, (h.tyQ hk).2, by decide, by decide⟩
  · exact ⟨(h.tyS hk).1, _, (h.tyS hk).2, by decide, by decide⟩
  · exact ⟨(h.tyK he hk).1, _, (h.tyK he hk).2, by decide, by decide⟩
theorem BrdR.quiet (h : BrdR base W g room id qv sv Q S) : Quiet base W (FootR g qv sv Q) := Quiet.of_ty fun _ hk => ⟨(h.foot hk).1, .inl (h.foot hk).2⟩
theorem BrdR.foot_lt (h : BrdR base W g room id qv sv Q S) {k : Nat} (hk : FootR g qv sv Q k) : k < W.heap.size := by
  obtain ⟨t, ht, -⟩ := (h.foot hk).2
  exact ht.lt
theorem BrdR.off (h : BrdR base W g room id qv sv Q S) (ho : OffM M W W') (hq' : Quiet base W M) (hM : ∀ k, FootR g qv sv Q k → ¬ M k) : BrdR base W' g room id qv sv Q S :=
  ⟨(ho.block _ h.blk.lt (hM _ (.inl rfl))).trans h.blk, h.lo, ownsRow_offM h.q ho fun k hk => hM k (.inr (.inl hk)), ownsRow_offM h.s ho fun k hk => hM k (.inr (.inr (.inl hk))), h.k.off (kStays base) ho hq' fun e he k hk => hM k (.inr (.inr (.inr ⟨e, he, hk⟩)))⟩
theorem BrdR.keep (h : BrdR base W g room id qv sv Q S) (hb : Below W.heap.size W W') : BrdR base W' g room id qv sv Q S := h.off (OffM.of (M := fun _ => False) hb) (Quiet.none _ _) fun _ _ h => h
/-- A query's row turns, or what is kept of it. -/
theorem BrdR.setQ (h : BrdR base W g room id qv sv Q S) {i : Nat} {e e' : QE} (hi : Q[i]? = some e) (ho : OffM M W W') (hM : ∀ j, j < W.heap.size → M j → qv.ownBlock = some j ∨ KFoot e j)
    (hq : W'.ownsRow base 68 4 qv Q.length ((Q.set i e').map qRow).flatten) (hm : KMem base W' e') (hf : ∀ k, KFoot e' k → KFoot e k ∨ W.heap.size ≤ k) :
    BrdR base W' g room id qv sv (Q.set i e') S ∧ Turn (FootR g qv sv Q) W (FootR g qv sv (Q.set i e')) W' := by
  have he := List.mem_of_getElem? hi
  have ho := ho.more (N := fun j => qv.ownBlock = some j ∨ KFoot e j) hM
  have hfo : ∀ j, (qv.ownBlock = some j ∨ KFoot e j) → FootR g qv sv Q j := fun j hj => hj.elim (fun h => .inr (.inl h)) (fun h => .inr (.inr (.inr ⟨e, he, h⟩)))
  have hqt : Quiet base W (fun j => qv.ownBlock = some j ∨ KFoot e j) := fun j hj hl => h.quiet j (hfo j hj) hl
  refine ⟨⟨(ho.block _ h.blk.lt fun hk => ?_).trans h.blk, h.lo, by rw [List.length_set]; exact hq, ownsRow_offM h.s ho fun k hk hk2 => ?_, h.k.set (kStays base) hi ho hqt (fun e2 h2 k hk hk2 => ?_) hm hf⟩, ho.more fun k hl hk => hfo k hk, fun k hk => ?_⟩
  · rcases hk with hk | hk
    · exact (h.tyQ hk).2.ne h.blk.ty (by decide) rfl
    · exact (h.tyK he hk).2.ne h.blk.ty (by decide) rfl
  · rcases hk2 with hk2 | hk2
    · exact (h.tyQ hk2).2.ne (h.tyS hk).2 (by decide) rfl
    · exact (h.tyK he hk2).2.ne (h.tyS hk).2 (by decide) rfl
  · rcases hk2 with hk2 | hk2
    · exact absurd rfl ((h.tyQ hk2).2.ne (h.tyK h2 hk).2 (by decide))
    · exact hk2
  · rcases hk with hk | hk | hk | ⟨e2, he2, hk⟩
    · exact .inl (.inl hk)
    · exact .inl (.inr (.inl hk))
    · exact .inl (.inr (.inr (.inl hk)))
    · rcases List.mem_or_eq_of_mem_set he2 with h2 | rfl
      · exact .inl (.inr (.inr (.inr ⟨e2, h2, hk⟩)))
      · exact (hf k hk).imp (fun h3 => .inr (.inr (.inr ⟨e, he, h3⟩))) fun h => h
/-- The subscribers turn. -/
theorem BrdR.setS (h : BrdR base W g room id qv sv Q S) (ho : OffM M W W') (hM : ∀ j, j < W.heap.size → M j → sv.ownBlock = some j ∨ j = g) (hb : Blk W' g 59 (boardR room id' qv sv')) (hs : OwnSu base W' sv' S') (hf : ∀ k, sv'.ownBlock = some k → sv.ownBlock = some k ∨ W.heap.size ≤ k) :
    BrdR base W' g room id' qv sv' Q S' ∧ Turn (FootR g qv sv Q) W (FootR g qv sv' Q) W' := by
  have ho := ho.more (N := fun j => sv.ownBlock = some j ∨ j = g) hM
  have hfo : ∀ j, (sv.ownBlock = some j ∨ j = g) → FootR g qv sv Q j := fun j hj => hj.elim (fun h => .inr (.inr (.inl h))) .inl
  have hqt : Quiet base W (fun j => sv.ownBlock = some j ∨ j = g) := fun j hj hl => h.quiet j (hfo j hj) hl
  refine ⟨⟨hb, h.lo, ownsRow_offM h.q ho fun k hk hk2 => ?_, hs, h.k.off (kStays base) ho hqt fun e he k hk hk2 => ?_⟩, ho.more fun k _ hk => hfo k hk, fun k hk => ?_⟩
  · rcases hk2 with hk2 | hk2
    · exact (h.tyQ hk).2.ne (h.tyS hk2).2 (by decide) rfl
    · exact (h.tyQ hk).2.ne h.blk.ty (by decide) hk2
  · rcases hk2 with hk2 | hk2
    · exact (h.tyK he hk).2.ne (h.tyS hk2).2 (by decide) rfl
    · exact (h.tyK he hk).2.ne h.blk.ty (by decide) hk2
  · rcases hk with hk | hk | hk | hk
    · exact .inl (.inl hk)
    · exact .inl (.inr (.inl hk))
    · exact (hf k hk).imp (fun h => .inr (.inr (.inl h))) fun h => h
    · exact .inl (.inr (.inr (.inr hk)))
/-- The queries turn. -/
theorem BrdR.newQ (h : BrdR base W g room id qv sv Q S) (ho : OffM M W W') (hM : ∀ j, j < W.heap.size → M j → qv.ownBlock = some j ∨ j = g) (hb : Blk W' g 59 (boardR room id qv' sv)) (hq : W'.ownsRow base 68 4 qv' Q'.length (Q'.map qRow).flatten)
    (hk : Fam (KMem base) KFoot W Q → OffM (fun j => qv.ownBlock = some j ∨ j = g) W W' → Quiet base W (fun j => qv.ownBlock = some j ∨ j = g) → (∀ e ∈ Q, ∀ k, KFoot e k → ¬ (qv.ownBlock = some k ∨ k = g)) → Fam (KMem base) KFoot W' Q') (hf : ∀ k, qv'.ownBlock = some k → qv.ownBlock = some k ∨ W.heap.size ≤ k) (hf2 : ∀ e ∈ Q', ∀ k, KFoot e k → ∃ e0 ∈ Q, KFoot e0 k) :
    BrdR base W' g room id qv' sv Q' S ∧ Turn (FootR g qv sv Q) W (FootR g qv' sv Q') W' := by
  have ho := ho.more (N := fun j => qv.ownBlock = some j ∨ j = g) hM
  have hfo : ∀ j, (qv.ownBlock = some j ∨ j = g) → FootR g qv sv Q j := fun j hj => hj.elim (fun h => .inr (.inl h)) .inl
  have hqt : Quiet base W (fun j => qv.ownBlock = some j ∨ j = g) := fun j hj hl => h.quiet j (hfo j hj) hl
  refine ⟨⟨hb, h.lo, hq, ownsRow_offM h.s ho fun k hk hk2 => ?_, hk h.k ho hqt fun e he k hk hk2 => ?_⟩, ho.more fun k _ hk => hfo k hk, fun k hk => ?_⟩
  · rcases hk2 with hk2 | hk2
    · exact (h.tyS hk).2.ne (h.tyQ hk2).2 (by decide) rfl
    · exact (h.tyS hk).2.ne h.blk.ty (by decide) hk2
  · rcases hk2 with hk2 | hk2
    · exact (h.tyK he hk).2.ne (h.tyQ hk2).2 (by decide) rfl
    · exact (h.tyK he hk).2.ne h.blk.ty (by decide) hk2
  · rcases hk with hk | hk | hk | ⟨e, he, hk⟩
    · exact .inl (.inl hk)
    · exact (hf k hk).imp (fun h => .inr (.inl h)) fun h => h
    · exact .inl (.inr (.inr (.inl hk)))
    · exact .inl (.inr (.inr (.inr (hf2 e he k hk))))
end
/-! ### a board and its plain one -/
structure StJ (base g : Nat) (W : World) (b : GB) (qv sv : Value) (Q : List QE) : Prop where
  m : BrdR base W g b.room b.id qv sv Q b.s
  q : b.q = Q.map QE.qy
  inv : GInv b
  num : b.id ≤ 10000
  few : Q.length ≤ 10000
  lo : base ≤ W.heap.size
def StB (base g : Nat) (F : Nat → Prop) (W : World) (b : GB) : Prop := ∃ qv sv Q, StJ base g W b qv sv Q ∧ F = FootR g qv sv Q
def PostB (base g : Nat) (F : Nat → Prop) (W : World) (b : GB) (w' : World) : Prop := ∃ F', StB base g F' w' b ∧ Turn F W F' w'
section
variable {base : Nat} {W W' : World} {g : Nat} {b b' : GB} {qv sv qv' sv' : Value} {Q : List QE} {M F F1 : Nat → Prop}
theorem PostB.trans {W1 : World} (h : Turn F W F1 W1) (k : PostB base g F1 W1 b W') : PostB base g F W b W' := by
  obtain ⟨F', h1, h2⟩ := k
  exact ⟨F', h1, h.trans h2⟩
theorem StJ.st (h : StJ base g W b qv sv Q) : StB base g (FootR g qv sv Q) W b := ⟨qv, sv, Q, h, rfl⟩
theorem StJ.keep (h : StJ base g W b qv sv Q) (hb : Below W.heap.size W W') : StJ base g W' b qv sv Q := ⟨h.m.keep hb, h.q, h.inv, h.num, h.few, Nat.le_trans h.lo hb.size⟩
theorem StJ.off (h : StJ base g W b qv sv Q) (ho : OffM M W W') (hq' : Quiet base W M) (hM : ∀ k, FootR g qv sv Q k → ¬ M k) : StJ base g W' b qv sv Q := ⟨h.m.off ho hq' hM, h.q, h.inv, h.num, h.few, Nat.le_trans h.lo ho.size⟩
theorem PostB.below (h : StJ base g W b qv sv Q) (hb : Below W.heap.size W W') : PostB base g (FootR g qv sv Q) W b W' := ⟨_, (h.keep hb).st, Turn.of hb⟩
theorem StB.keep (h : StB base g F W b) (hb : Below W.heap.size W W') : StB base g F W' b := by
  obtain ⟨qv, sv, Q, h, rfl⟩ := h
  exact (h.keep hb).st
theorem StB.off (h : StB base g F W b) (ho : OffM M W W') (hq' : Quiet base W M) (hM : ∀ k, F k → ¬ M k) : StB base g F W' b := by
  obtain ⟨qv, sv, Q, h, rfl⟩ := h
  exact (h.off ho hq' hM).st
theorem StB.quiet (h : StB base g F W b) : Quiet base W F := by
  obtain ⟨qv, sv, Q, h, rfl⟩ := h
  exact h.m.quiet
theorem StB.lt (h : StB base g F W b) {k : Nat} (hk : F k) : k < W.heap.size := by
  obtain ⟨qv, sv, Q, h, rfl⟩ := h
  exact h.m.foot_lt hk
theorem StJ.qIds (h : StJ base g W b qv sv Q) : (Q.map QE.id).Pairwise (· < ·) := by
  have h1 := h.inv.qs
  rw [h.q, List.map_map] at h1
  exact h1
theorem StJ.findQ (h : StJ base g W b qv sv Q) (id : Int) : findQ b id = (Q.find? fun e => e.id == id).map QE.qy := by
  unfold Go.Proofs.YtfmolimnnheaoaaGreat.findQ
  rw [h.q, List.find?_map]
  rfl
/-- The place of a query, if it is there. -/
theorem StJ.place (h : StJ base g W b qv sv Q) {id : Int} {x : Qy (List Rs)} (hf : Go.Proofs.YtfmolimnnheaoaaGreat.findQ b id = some x) : ∃ e, Q[placeN QE.id id Q]? = some e ∧ e.qy = x ∧ e.id = id := by
  rw [h.findQ, place_find h.qIds] at hf
  cases hp : Q[placeN QE.id id Q]? with
  | none => rw [hp] at hf; cases hf
  | some e =>
    rw [hp] at hf
    simp only at hf
    split at hf
    · rename_i e1
      exact ⟨e, rfl, Option.some.inj hf, e1⟩
    · cases hf
theorem StJ.qIn (h : StJ base g W b qv sv Q) {k : Nat} {e : QE} (hk : Q[k]? = some e) : e.qy ∈ b.q := by
  rw [h.q]; exact List.mem_map.2 ⟨e, List.mem_of_getElem? hk, rfl⟩
theorem StJ.qOk (h : StJ base g W b qv sv Q) {k : Nat} {e : QE} (hk : Q[k]? = some e) : QOk b.room e.qy := h.inv.qok _ (h.qIn hk)
theorem StJ.keptN (h : StJ base g W b qv sv Q) {k : Nat} {e : QE} (hk : Q[k]? = some e) : e.L.length ≤ 4096 := by
  have h1 := (h.qOk hk).room
  have h2 := h.inv.room
  have : e.qy.l.length = e.L.length := List.length_map _
  omega
theorem StJ.find_at (h : StJ base g W b qv sv Q) {k : Nat} {e : QE} (hk : Q[k]? = some e) : Go.Proofs.YtfmolimnnheaoaaGreat.findQ b e.id = some e.qy := by
  rw [h.findQ, find_uniq h.qIds hk]; rfl
/-- What stands in a query's row. -/
theorem StJ.row (h : StJ base g W b qv sv Q) {k : Nat} {e : QE} (hk : Q[k]? = some e) : ∃ gq off cq, qv = .slice (some ⟨gq, off, none⟩) Q.length cq ∧ off = 0 ∧ gq < W.heap.size ∧ base ≤ gq ∧ TyB W gq 68 ∧
    W.cell? ⟨gq, off + k * 4, none⟩ = some (.int .i64 e.id) ∧ W.cell? ⟨gq, off + k * 4 + 1, none⟩ = some e.kv ∧ W.cell? ⟨gq, off + k * 4 + 2, none⟩ = some (.int .i64 e.last) ∧ W.cell? ⟨gq, off + k * 4 + 3, none⟩ = some (.int .i64 e.floor) ∧ ∀ j, W.frozen? ⟨gq, j, none⟩ = false := by
  obtain ⟨p, c, rfl⟩ := ownsRow_slice h.m.q
  obtain ⟨gq, off, rfl, h0, h1, h2, h3, h4, h5⟩ := own_row h.m.q (List.length_map _) (qRow_len Q) (k := k) (row := qRow e) (by rw [List.getElem?_map, hk]; rfl)
  exact ⟨gq, off, c, rfl, h0, h1, h2, h3, h4 0 _ rfl, h4 1 _ rfl, h4 2 _ rfl, h4 3 _ rfl, h5⟩
/-- What stands in a subscriber's row. -/
theorem StJ.rowS (h : StJ base g W b qv sv Q) {k : Nat} {s : Su} (hk : b.s[k]? = some s) : ∃ gs off cs, sv = .slice (some ⟨gs, off, none⟩) b.s.length cs ∧ off = 0 ∧ gs < W.heap.size ∧ base ≤ gs ∧ TyB W gs 73 ∧
    W.cell? ⟨gs, off + k * 4, none⟩ = some (.int .i64 s.id) ∧ W.cell? ⟨gs, off + k * 4 + 1, none⟩ = some (.int .i64 s.query) ∧ W.cell? ⟨gs, off + k * 4 + 2, none⟩ = some (.int .i64 s.cursor) ∧ W.cell? ⟨gs, off + k * 4 + 3, none⟩ = some (.int .i64 s.acked) ∧ ∀ j, W.frozen? ⟨gs, j, none⟩ = false := by
  have hs : W.ownsRow base 73 4 sv b.s.length (b.s.map subV).flatten := h.m.s
  obtain ⟨p, c, rfl⟩ := ownsRow_slice hs
  obtain ⟨gq, off, rfl, h0, h1, h2, h3, h4, h5⟩ := own_row hs (List.length_map _) (subV_len b.s) (k := k) (row := subV s) (by rw [List.getElem?_map, hk]; rfl)
  exact ⟨gq, off, c, rfl, h0, h1, h2, h3, h4 0 _ rfl, h4 1 _ rfl, h4 2 _ rfl, h4 3 _ rfl, h5⟩
theorem StJ.sliceQ (h : StJ base g W b qv sv Q) : ∃ p c, qv = .slice p Q.length c := ownsRow_slice h.m.q
theorem StJ.sliceS (h : StJ base g W b qv sv Q) : ∃ p c, sv = .slice p b.s.length c := ownsRow_slice h.m.s
/-- A query's row turns. -/
theorem StJ.setQ (h : StJ base g W b qv sv Q) {k : Nat} {e e' : QE} (hk : Q[k]? = some e) (ho : OffM M W W') (hM : ∀ j, j < W.heap.size → M j → qv.ownBlock = some j ∨ KFoot e j)
    (hq : W'.ownsRow base 68 4 qv Q.length ((Q.set k e').map qRow).flatten) (hm : KMem base W' e') (hf : ∀ k, KFoot e' k → KFoot e k ∨ W.heap.size ≤ k)
    (f : Qy (List Rs) → Qy (List Rs)) (he : e'.qy = f e.qy) (hinv : GInv { b with q := turnQ e.id f b.q }) :
    StJ base g W' { b with q := turnQ e.id f b.q } qv sv (Q.set k e') ∧ Turn (FootR g qv sv Q) W (FootR g qv sv (Q.set k e')) W' := by
  obtain ⟨h1, h2⟩ := h.m.setQ hk ho hM hq hm hf
  refine ⟨⟨h1, ?_, hinv, h.num, by rw [List.length_set]; exact h.few, Nat.le_trans h.lo ho.size⟩, h2⟩
  show turnQ e.id f b.q = _
  rw [List.map_set, he]
  unfold turnQ
  refine (turn_set (key := Qy.id) h.inv.qs (i := k) (x := e.qy) ?_ rfl f).trans ?_
  · rw [h.q, List.getElem?_map, hk]; rfl
  · rw [h.q]
/-- The subscribers turn. -/
theorem StJ.setS {id' : Int} {s' : List Su} (h : StJ base g W b qv sv Q) (ho : OffM M W W') (hM : ∀ j, j < W.heap.size → M j → sv.ownBlock = some j ∨ j = g) (hb : Blk W' g 59 (boardR b.room id' qv sv')) (hs : OwnSu base W' sv' s') (hf : ∀ k, sv'.ownBlock = some k → sv.ownBlock = some k ∨ W.heap.size ≤ k)
    (hinv : GInv { b with s := s', id := id' }) (hn : id' ≤ 10000) : StJ base g W' { b with s := s', id := id' } qv sv' Q ∧ Turn (FootR g qv sv Q) W (FootR g qv sv' Q) W' := by
  obtain ⟨h1, h2⟩ := h.m.setS ho hM hb hs hf
  exact ⟨⟨h1, h.q, hinv, hn, h.few, Nat.le_trans h.lo ho.size⟩, h2⟩
end
theorem place_is {α : Type} {key : α → Int} {n : Int} {l : List α} {k : Nat} (h1 : ∀ j y, l[j]? = some y → j < k → key y < n) (h2 : ∀ y, l[k]? = some y → ¬ key y < n) (hk : k ≤ l.length) : placeN key n l = k := by
  have hp := place_le (key := key) n l
  rcases Nat.lt_trichotomy (placeN key n l) k with h | h | h
  · have hl : placeN key n l < l.length := by omega
    exact absurd (h1 _ _ (List.getElem?_eq_getElem hl) h) (place_at (key := key) (List.getElem?_eq_getElem hl))
  · exact h
  · have hl : k < l.length := by omega
    exact absurd (place_below (key := key) (List.getElem?_eq_getElem hl) h) (h2 _ (List.getElem?_eq_getElem hl))
end Go.Proofs.YtfmolimnnheaoaaGreat

/- The document's find and sub. -/
namespace Go.Proofs.YtfmolimnnheaoaaGreat
open Go.RowKit
set_option linter.unusedSimpArgs false
set_option linter.unusedVariables false

section
variable {base : Nat} {W W' : World} {g : Nat} {b b' : GB} {qv sv qv' sv' : Value} {Q : List QE} {M F F1 : Nat → Prop}
theorem StJ.isSome (h : StJ base g W b qv sv Q) (id : Int) : (Go.Proofs.YtfmolimnnheaoaaGreat.findQ b id).isSome = match Q[placeN QE.id id Q]? with
    | some e => e.id == id
    | none => false := by
  rw [h.findQ, place_find h.qIds]
  cases hp : Q[placeN QE.id id Q]? with
  | none => rfl
  | some e =>
    by_cases e1 : e.id = id
    · simp [e1]
    · simp [e1]
set_option maxRecDepth 100000 in
set_option maxHeartbeats 4000000 in
theorem rFind {id : Int} (h : StJ base g W b qv sv Q) : Calls Tryz.prog 34 #[.pointer (some ⟨g, 0, none⟩), .int .i64 id] W fun r w' => r = .returned (.tuple #[.int .i64 (placeN QE.id id Q), .bool (findQ b id).isSome]) ∧ Below W.heap.size W w' := by
  have H := Lib.hid h
  have hg := h.m.blk.lt
  obtain ⟨p, c, hqv⟩ := h.sliceQ
  have c1 : W.cell? ⟨g, 1, none⟩ = some qv := h.m.blk.cell 1 _ rfl
  subst hqv
  have HSome := Lib.hid (h.isSome id)
  have hfew := h.few
  clear h
  obtain ⟨N, hN⟩ : ∃ z, Q.length = z := ⟨_, rfl⟩
  rw [hN] at c1 H hfew
  have HN := Lib.hid hN
  clear hN
  go_enter Tryz.func34, Tryz.ntmps34; (try simp only [List.append_eq, List.cons_append, List.nil_append])
  go_upto_region 2 with fail
  go_loopw [6] (fun j wr => ∃ k : Nat, k ≤ N ∧ j = .int .i64 k ∧ (∀ (j : Nat) (y : QE), Q[j]? = some y → j < k → y.id < id) ∧ wr = W) (fun j _ => N - (intOf j).toNat)
  case atStart => exact ⟨0, Nat.zero_le _, rfl, fun j y _ h => by omega, rfl⟩
  case round =>
    obtain ⟨k, hk, rfl, hall, hw⟩ := hrel
    subst hw
    have HAll := Lib.hid hall
    clear hall
    by_cases hlt : k < N
    · have hki : (k : Int) < (N : Int) := by omega
      obtain ⟨e, he⟩ : ∃ e, Q[k]? = some e := ⟨_, List.getElem?_eq_getElem (by rw [HN.out]; exact hlt)⟩
      obtain ⟨gq, off, cq, hpp, -, hgq, -, -, d0, -, -, -, -⟩ := H.out.row he
      cases hpp
      have HE := Lib.hid he
      clear he
      by_cases hid : e.id < id
      · go_wp2
        refine ⟨⟨k + 1, by omega, by go_num, fun j y hj hlt2 => ?_, trivial⟩, by simp [intOf]; omega⟩
        rcases Nat.lt_or_ge j k with h1 | h1
        · exact HAll.out j y hj h1
        · have : j = k := by omega
          subst this
          rw [HE.out] at hj; cases hj; exact hid
      · have HPl := Lib.hid (place_is (key := QE.id) (n := id) HAll.out (fun y hy => by rw [HE.out] at hy; cases hy; exact hid) (by rw [HN.out]; omega))
        rw [HPl.out] at HSome
        rw [HE.out] at HSome
        have HS2 := Lib.hid (show (findQ b id).isSome = (e.id == id) from HSome.out)
        go_wp2_with fail
        go_quiet (fail)
        go_wp2
        go_ret2
        exact ⟨by rw [HPl.out, HS2.out]; rfl, below_drewN (Below.refl _ _) _⟩
    · have hk' : k = N := by omega
      subst hk'
      have hki : ¬ ((k : Int) < (k : Int)) := by omega
      have HPl := Lib.hid (place_is (key := QE.id) (n := id) HAll.out (fun y hy => by have := (List.getElem?_eq_some_iff.1 hy).1; have := HN.out; omega) (by rw [HN.out]; omega))
      rw [HPl.out] at HSome
      rw [List.getElem?_eq_none (by rw [HN.out]; omega)] at HSome
      have HS2 := Lib.hid (show (findQ b id).isSome = false from HSome.out)
      go_wp2_with fail
      go_quiet (fail)
      go_wp2
      go_ret2
      exact ⟨by rw [HPl.out, HS2.out]; rfl, below_drewN (Below.refl _ _) _⟩
theorem StJ.findU_at (h : StJ base g W b qv sv Q) {k : Nat} {s : Su} (hk : b.s[k]? = some s) : Go.Proofs.YtfmolimnnheaoaaGreat.findU b s.id = some s := find_uniq (key := Su.id) h.inv.ss hk
theorem u_place {b : GB} {n : Int} {u : Su} (hf : findU b n = some u) : u.id = n ∧ ∃ k : Nat, b.s[k]? = some u := by
  obtain ⟨h1, h2⟩ := find_get hf
  exact ⟨by simpa using h1, h2⟩
/-- The place of a subscriber, or -1. -/
def SubAt (b : GB) (n : Int) (i : Int) : Prop := (findU b n = none ∧ i = -1) ∨ ∃ (k : Nat) (s : Su), b.s[k]? = some s ∧ s.id = n ∧ i = k
set_option maxRecDepth 100000 in
set_option maxHeartbeats 4000000 in
theorem rSub {n : Int} (h : StJ base g W b qv sv Q) : ∃ i, SubAt b n i ∧ Calls Tryz.prog 40 #[.pointer (some ⟨g, 0, none⟩), .int .i64 n] W fun r w' => r = .returned (.int .i64 i) ∧ w' = W := by
  have H := Lib.hid h
  have hg := h.m.blk.lt
  obtain ⟨p, c, hsv⟩ := h.sliceS
  have c2 : W.cell? ⟨g, 2, none⟩ = some sv := h.m.blk.cell 2 _ rfl
  subst hsv
  have hfew := h.inv.few
  have HIds := Lib.hid h.inv.ss
  clear h
  have key : ∀ (i : Int), (∀ (k : Nat) (s : Su), b.s[k]? = some s → s.id = n → i = k) → ((∀ s ∈ b.s, s.id ≠ n) → i = -1) →
      Calls Tryz.prog 40 #[.pointer (some ⟨g, 0, none⟩), .int .i64 n] W fun r w' => r = .returned (.int .i64 i) ∧ w' = W := by
    intro i hi1 hi2
    have Hi1 := Lib.hid hi1; have Hi2 := Lib.hid hi2
    clear hi1 hi2
    obtain ⟨N, hN⟩ : ∃ z, b.s.length = z := ⟨_, rfl⟩
    rw [hN] at c2 H hfew
    have HN := Lib.hid hN
    clear hN
    go_enter Tryz.func40, Tryz.ntmps40; (try simp only [List.append_eq, List.cons_append, List.nil_append])
    go_wp2
    go_loopw [5] (fun j wr => ∃ k : Nat, k ≤ N ∧ j = .int .i64 k ∧ (∀ (j : Nat) (y : Su), b.s[j]? = some y → j < k → y.id ≠ n) ∧ wr = W) (fun j _ => N - (intOf j).toNat)
    case atStart => exact ⟨0, Nat.zero_le _, rfl, fun j y _ h => by omega, rfl⟩
    case round =>
      obtain ⟨k, hk, rfl, hall, hw⟩ := hrel
      subst hw
      have HAll := Lib.hid hall
      clear hall
      by_cases hlt : k < N
      · have hki : (k : Int) < (N : Int) := by omega
        obtain ⟨s, hs⟩ : ∃ s, b.s[k]? = some s := ⟨_, List.getElem?_eq_getElem (by rw [HN.out]; exact hlt)⟩
        obtain ⟨gs, off, cs, hpp, -, hgs, -, -, d0, -, -, -, -⟩ := H.out.rowS hs
        cases hpp
        have HE := Lib.hid hs
        clear hs
        by_cases hid : s.id = n
        · have hbq : (s.id == n) = true := by simp [hid]
          have Hid2 := Lib.hid (Hi1.out k s HE.out hid)
          clear hid
          go_wp2
          go_ret
          exact ⟨by rw [Hid2.out]; rfl, rfl⟩
        · have hbq : (s.id == n) = false := by simp [hid]
          have Hid2 := Lib.hid hid
          clear hid
          go_wp2
          refine ⟨⟨k + 1, by omega, by go_num, fun j y hj hlt2 => ?_, trivial⟩, by simp [intOf]; omega⟩
          rcases Nat.lt_or_ge j k with h1 | h1
          · exact HAll.out j y hj h1
          · have : j = k := by omega
            subst this
            rw [HE.out] at hj; cases hj; exact Hid2.out
      · have hk' : k = N := by omega
        subst hk'
        have hki : ¬ ((k : Int) < (k : Int)) := by omega
        have He := Lib.hid (Hi2.out fun s hs => by
          obtain ⟨j, hj, rfl⟩ := List.getElem_of_mem hs
          exact HAll.out j _ (List.getElem?_eq_getElem hj) (by have := HN.out; omega))
        go_wp2
        go_ret
        exact ⟨by rw [He.out]; rfl, rfl⟩
  cases hf : findU b n with
  | none =>
    have hno : ∀ s ∈ b.s, s.id ≠ n := fun s hs e => by
      have := List.find?_eq_none.1 hf s hs
      simp at this
      exact this e
    exact ⟨-1, .inl ⟨hf, rfl⟩, key (-1) (fun k s hk e => absurd e (hno s (List.mem_of_getElem? hk))) fun _ => rfl⟩
  | some u =>
    obtain ⟨e, k, hk⟩ := u_place hf
    refine ⟨k, .inr ⟨k, u, hk, e, rfl⟩, key k (fun j s hj e2 => ?_) fun hno => absurd e (hno u (List.mem_of_getElem? hk))⟩
    have := at_one HIds.out hj hk (e2.trans e.symm)
    omega
end
end Go.Proofs.YtfmolimnnheaoaaGreat

/- The document's Floor, Last, Room, Settled. -/
namespace Go.Proofs.YtfmolimnnheaoaaGreat
open Go.RowKit
set_option linter.unusedSimpArgs false
set_option linter.unusedVariables false

section
variable {base : Nat} {W W' : World} {g : Nat} {b b' : GB} {qv sv qv' sv' : Value} {Q : List QE} {M F F1 : Nat → Prop}
set_option maxRecDepth 100000 in
theorem rFloor {id : Int} (h : StJ base g W b qv sv Q) : Calls Tryz.prog 50 #[.pointer (some ⟨g, 0, none⟩), .int .i64 id] W fun e w' => e = .returned (.int .i64 (floorG b id)) ∧ Below W.heap.size W w' := by
  have HF := Lib.hid (rFind (id := id) h)
  cases hf : findQ b id with
  | none =>
    have e0 : floorG b id = 0 := by unfold floorG; rw [hf]
    rw [e0]
    rw [hf] at HF
    have HF := Lib.hid (show Calls Tryz.prog _ _ W fun r w' => r = .returned (.tuple #[.int .i64 (placeN QE.id id Q), .bool false]) ∧ Below W.heap.size W w' from HF.out)
    clear hf e0 h
    obtain ⟨pl, hpl⟩ : ∃ z, placeN QE.id id Q = z := ⟨_, rfl⟩
    rw [hpl] at HF
    clear hpl
    go_enter Tryz.func50, Tryz.ntmps50; (try simp only [List.append_eq, List.cons_append, List.nil_append])
    go_wp2_with fail
    refine HF.out.mono ?_
    rintro e w2 ⟨rfl, hb⟩
    have HB := Lib.hid hb
    clear hb
    go_wp2
    go_ret
    exact ⟨rfl, HB.out⟩
  | some x =>
    obtain ⟨e, he, hx, hid⟩ := h.place hf
    have e0 : floorG b id = e.floor := by unfold floorG; rw [hf, ← hx]; rfl
    rw [e0]
    rw [hf] at HF
    have HF := Lib.hid (show Calls Tryz.prog _ _ W fun r w' => r = .returned (.tuple #[.int .i64 (placeN QE.id id Q), .bool true]) ∧ Below W.heap.size W w' from HF.out)
    have H := Lib.hid h; have He := Lib.hid he
    have hpl9 := place_le (key := QE.id) id Q
    have hfew := h.few
    clear hf e0 h he
    obtain ⟨pl, hpl⟩ : ∃ z, placeN QE.id id Q = z := ⟨_, rfl⟩
    rw [hpl] at HF He hpl9
    clear hpl
    go_enter Tryz.func50, Tryz.ntmps50; (try simp only [List.append_eq, List.cons_append, List.nil_append])
    go_wp2_with fail
    refine HF.out.mono ?_
    rintro r w2 ⟨rfl, hb⟩
    have HB := Lib.hid hb
    have H2 := H.out.keep hb
    obtain ⟨gq, off, cq, rfl, -, hgq, -, -, d0, d1, d2, d3, -⟩ := H2.row He.out
    have hpq : pl < Q.length := (List.getElem?_eq_some_iff.1 He.out).1
    have c1 : w2.cell? ⟨g, 1, none⟩ = some (.slice (some ⟨gq, off, none⟩) Q.length cq) := H2.m.blk.cell 1 _ rfl
    have hg := H2.m.blk.lt
    clear hb H2
    go_wp2
    go_ret
    exact ⟨rfl, HB.out⟩
set_option maxRecDepth 100000 in
theorem rLast {id : Int} (h : StJ base g W b qv sv Q) : Calls Tryz.prog 52 #[.pointer (some ⟨g, 0, none⟩), .int .i64 id] W fun e w' => e = .returned (.int .i64 (lastG b id)) ∧ Below W.heap.size W w' := by
  have HF := Lib.hid (rFind (id := id) h)
  cases hf : findQ b id with
  | none =>
    have e0 : lastG b id = 0 := by unfold lastG; rw [hf]
    rw [e0]
    rw [hf] at HF
    have HF := Lib.hid (show Calls Tryz.prog _ _ W fun r w' => r = .returned (.tuple #[.int .i64 (placeN QE.id id Q), .bool false]) ∧ Below W.heap.size W w' from HF.out)
    clear hf e0 h
    obtain ⟨pl, hpl⟩ : ∃ z, placeN QE.id id Q = z := ⟨_, rfl⟩
    rw [hpl] at HF
    clear hpl
    go_enter Tryz.func52, Tryz.ntmps52; (try simp only [List.append_eq, List.cons_append, List.nil_append])
    go_wp2_with fail
    refine HF.out.mono ?_
    rintro e w2 ⟨rfl, hb⟩
    have HB := Lib.hid hb
    clear hb
    go_wp2
    go_ret
    exact ⟨rfl, HB.out⟩
  | some x =>
    obtain ⟨e, he, hx, hid⟩ := h.place hf
    have e0 : lastG b id = e.last := by unfold lastG; rw [hf, ← hx]; rfl
    rw [e0]
    rw [hf] at HF
    have HF := Lib.hid (show Calls Tryz.prog _ _ W fun r w' => r = .returned (.tuple #[.int .i64 (placeN QE.id id Q), .bool true]) ∧ Below W.heap.size W w' from HF.out)
    have H := Lib.hid h; have He := Lib.hid he
    have hpl9 := place_le (key := QE.id) id Q
    have hfew := h.few
    clear hf e0 h he
    obtain ⟨pl, hpl⟩ : ∃ z, placeN QE.id id Q = z := ⟨_, rfl⟩
    rw [hpl] at HF He hpl9
    clear hpl
    go_enter Tryz.func52, Tryz.ntmps52; (try simp only [List.append_eq, List.cons_append, List.nil_append])
    go_wp2_with fail
    refine HF.out.mono ?_
    rintro r w2 ⟨rfl, hb⟩
    have HB := Lib.hid hb
    have H2 := H.out.keep hb
    obtain ⟨gq, off, cq, rfl, -, hgq, -, -, d0, d1, d2, d3, -⟩ := H2.row He.out
    have hpq : pl < Q.length := (List.getElem?_eq_some_iff.1 He.out).1
    have c1 : w2.cell? ⟨g, 1, none⟩ = some (.slice (some ⟨gq, off, none⟩) Q.length cq) := H2.m.blk.cell 1 _ rfl
    have hg := H2.m.blk.lt
    clear hb H2
    go_wp2
    go_ret
    exact ⟨rfl, HB.out⟩
set_option maxRecDepth 100000 in
theorem rRoom {id : Int} (h : StJ base g W b qv sv Q) : Calls Tryz.prog 54 #[.pointer (some ⟨g, 0, none⟩), .int .i64 id] W fun e w' => e = .returned (.int .i64 (roomG b id)) ∧ Below W.heap.size W w' := by
  have HF := Lib.hid (rFind (id := id) h)
  cases hf : findQ b id with
  | none =>
    have e0 : roomG b id = 0 := by unfold roomG; rw [hf]
    rw [e0]
    rw [hf] at HF
    have HF := Lib.hid (show Calls Tryz.prog _ _ W fun r w' => r = .returned (.tuple #[.int .i64 (placeN QE.id id Q), .bool false]) ∧ Below W.heap.size W w' from HF.out)
    clear hf e0 h
    obtain ⟨pl, hpl⟩ : ∃ z, placeN QE.id id Q = z := ⟨_, rfl⟩
    rw [hpl] at HF
    clear hpl
    go_enter Tryz.func54, Tryz.ntmps54; (try simp only [List.append_eq, List.cons_append, List.nil_append])
    go_wp2_with fail
    refine HF.out.mono ?_
    rintro e w2 ⟨rfl, hb⟩
    have HB := Lib.hid hb
    clear hb
    go_wp2
    go_ret
    exact ⟨rfl, HB.out⟩
  | some x =>
    obtain ⟨e, he, hx, hid⟩ := h.place hf
    have e0 : roomG b id = b.room - e.L.length := by unfold roomG; rw [hf, ← hx]; simp only; rw [show e.qy.l = e.L.map Prod.fst from rfl, List.length_map]
    rw [e0]
    rw [hf] at HF
    have HF := Lib.hid (show Calls Tryz.prog _ _ W fun r w' => r = .returned (.tuple #[.int .i64 (placeN QE.id id Q), .bool true]) ∧ Below W.heap.size W w' from HF.out)
    have H := Lib.hid h; have He := Lib.hid he
    have hpl9 := place_le (key := QE.id) id Q
    have hfew := h.few
    have hkn := h.keptN he
    have hroom := h.inv.room
    obtain ⟨ak, ck, hkv⟩ := (h.m.k.mem e (List.mem_of_getElem? he)).slice
    clear hf e0 h he
    obtain ⟨pl, hpl⟩ : ∃ z, placeN QE.id id Q = z := ⟨_, rfl⟩
    rw [hpl] at HF He hpl9
    clear hpl
    go_enter Tryz.func54, Tryz.ntmps54; (try simp only [List.append_eq, List.cons_append, List.nil_append])
    go_wp2_with fail
    refine HF.out.mono ?_
    rintro r w2 ⟨rfl, hb⟩
    have HB := Lib.hid hb
    have H2 := H.out.keep hb
    obtain ⟨gq, off, cq, rfl, -, hgq, -, -, d0, d1, d2, d3, -⟩ := H2.row He.out
    rw [hkv] at d1
    have hpq : pl < Q.length := (List.getElem?_eq_some_iff.1 He.out).1
    have c0 : w2.cell? ⟨g, 0, none⟩ = some (.int .i64 b.room) := H2.m.blk.cell 0 _ rfl
    have c1 : w2.cell? ⟨g, 1, none⟩ = some (.slice (some ⟨gq, off, none⟩) Q.length cq) := H2.m.blk.cell 1 _ rfl
    have hg := H2.m.blk.lt
    clear hb H2 hkv
    go_wp2_with fail
    go_quiet (fail)
    go_wp2
    go_ret
    exact ⟨rfl, below_drewN HB.out _⟩
theorem fold_if (id : Int) {l : List Su} {k : Nat} {s : Su} (h : l[k]? = some s) (a : Int) : (l.take (k + 1)).foldl (fun m s => if (s.query == id) = true then min m s.acked else m) a = if s.query = id then min ((l.take k).foldl (fun m s => if (s.query == id) = true then min m s.acked else m) a) s.acked else (l.take k).foldl (fun m s => if (s.query == id) = true then min m s.acked else m) a := by
  rw [List.take_add_one, h, List.foldl_append]
  simp only [Option.toList_some, List.foldl_cons, List.foldl_nil, beq_iff_eq]
set_option maxRecDepth 100000 in
set_option maxHeartbeats 4000000 in
theorem rSettled {id : Int} (h : StJ base g W b qv sv Q) : Calls Tryz.prog 48 #[.pointer (some ⟨g, 0, none⟩), .int .i64 id] W fun e w' => e = .returned (.int .i64 (settledG b id)) ∧ Below W.heap.size W w' := by
  have HF := Lib.hid (rFind (id := id) h)
  cases hf : findQ b id with
  | none =>
    have e0 : settledG b id = 0 := by unfold settledG; rw [hf]
    rw [e0]
    rw [hf] at HF
    have HF := Lib.hid (show Calls Tryz.prog _ _ W fun r w' => r = .returned (.tuple #[.int .i64 (placeN QE.id id Q), .bool false]) ∧ Below W.heap.size W w' from HF.out)
    clear hf e0 h
    obtain ⟨pl, hpl⟩ : ∃ z, placeN QE.id id Q = z := ⟨_, rfl⟩
    rw [hpl] at HF
    clear hpl
    go_enter Tryz.func48, Tryz.ntmps48; (try simp only [List.append_eq, List.cons_append, List.nil_append])
    go_wp2_with fail
    refine HF.out.mono ?_
    rintro e w2 ⟨rfl, hb⟩
    have HB := Lib.hid hb
    clear hb
    go_wp2
    go_ret
    exact ⟨rfl, HB.out⟩
  | some x =>
    obtain ⟨e, he, hx, hid⟩ := h.place hf
    have e0 : settledG b id = b.s.foldl (fun m s => if (s.query == id) = true then min m s.acked else m) e.last := by
      unfold settledG
      rw [hf, ← hx]
      show settleAt b e.qy = _
      unfold settleAt ofG
      rw [fold_filter]
      show List.foldl (fun m s => if (s.query == e.id) = true then min m s.acked else m) e.last b.s = _
      rw [hid]
    rw [e0]
    rw [hf] at HF
    have HF := Lib.hid (show Calls Tryz.prog _ _ W fun r w' => r = .returned (.tuple #[.int .i64 (placeN QE.id id Q), .bool true]) ∧ Below W.heap.size W w' from HF.out)
    have H := Lib.hid h; have He := Lib.hid he
    have hpl9 := place_le (key := QE.id) id Q
    have hfew := h.few
    have hsf := h.inv.few
    clear hf e0 h he
    obtain ⟨pl, hpl⟩ : ∃ z, placeN QE.id id Q = z := ⟨_, rfl⟩
    rw [hpl] at HF He hpl9
    clear hpl
    go_enter Tryz.func48, Tryz.ntmps48; (try simp only [List.append_eq, List.cons_append, List.nil_append])
    go_wp2_with fail
    refine HF.out.mono ?_
    rintro r w2 ⟨rfl, hb⟩
    have HB := Lib.hid hb
    have H2 := H.out.keep hb
    have H2' := Lib.hid H2
    obtain ⟨gq, off, cq, rfl, -, hgq, -, -, d0, d1, d2, d3, -⟩ := H2.row He.out
    obtain ⟨ps, cs, rfl⟩ := H2.sliceS
    have hpq : pl < Q.length := (List.getElem?_eq_some_iff.1 He.out).1
    have c1 : w2.cell? ⟨g, 1, none⟩ = some (.slice (some ⟨gq, off, none⟩) Q.length cq) := H2.m.blk.cell 1 _ rfl
    have c2 : w2.cell? ⟨g, 2, none⟩ = some (.slice ps b.s.length cs) := H2.m.blk.cell 2 _ rfl
    have hg := H2.m.blk.lt
    clear hb H2
    go_upto_region 6 with fail
    go_loopw [7, 8] (fun v j wr => ∃ k : Nat, k ≤ b.s.length ∧ j = .int .i64 k ∧ v = .int .i64 ((b.s.take k).foldl (fun m s => if (s.query == id) = true then min m s.acked else m) e.last) ∧ wr = w2) (fun _ j _ => b.s.length - (intOf j).toNat)
    case atStart => exact ⟨0, Nat.zero_le _, rfl, rfl, rfl⟩
    case round =>
      obtain ⟨k, hk, rfl, rfl, hw⟩ := hrel
      subst hw
      by_cases hlt : k < b.s.length
      · have hki : (k : Int) < (b.s.length : Int) := by omega
        obtain ⟨s, hs⟩ : ∃ s, b.s[k]? = some s := ⟨_, List.getElem?_eq_getElem hlt⟩
        obtain ⟨gs, offs, cs', hpp, -, hgs, -, -, s0, s1, s2, s3, -⟩ := H2'.out.rowS hs
        cases hpp
        have Hst := Lib.hid (fold_if id hs e.last)
        clear hs
        obtain ⟨m0, hm0⟩ : ∃ m0, (b.s.take k).foldl (fun m s => if (s.query == id) = true then min m s.acked else m) e.last = m0 := ⟨_, rfl⟩
        rw [hm0] at Hst ⊢
        clear hm0
        by_cases hq : s.query = id
        · rw [if_pos hq] at Hst
          have hbq : (s.query == id) = true := by simp [hq]
          have Hq2 := Lib.hid hq
          clear hq
          by_cases hlt2 : s.acked < m0
          · have hmin : min m0 s.acked = s.acked := by omega
            rw [hmin] at Hst
            have Hst2 := Lib.hid Hst.out
            clear hmin
            go_wp2
            exact ⟨⟨k + 1, by omega, by go_num, by rw [Hst2.out], trivial⟩, by simp [intOf]; omega⟩
          · have hmin : min m0 s.acked = m0 := by omega
            rw [hmin] at Hst
            have Hst2 := Lib.hid Hst.out
            clear hmin
            go_wp2
            exact ⟨⟨k + 1, by omega, by go_num, by rw [Hst2.out], trivial⟩, by simp [intOf]; omega⟩
        · rw [if_neg hq] at Hst
          have hbq : (s.query == id) = false := by simp [hq]
          have Hst2 := Lib.hid Hst.out
          have Hq2 := Lib.hid hq
          clear hq
          go_wp2
          exact ⟨⟨k + 1, by omega, by go_num, by rw [Hst2.out], trivial⟩, by simp [intOf]; omega⟩
      · have hk' : k = b.s.length := by omega
        subst hk'
        have hki : ¬ ((b.s.length : Int) < (b.s.length : Int)) := by omega
        rw [List.take_length]
        go_wp2
        go_ret
        exact ⟨rfl, HB.out⟩
end
end Go.Proofs.YtfmolimnnheaoaaGreat

/- The document's Queries, Subs, Kept. -/
namespace Go.Proofs.YtfmolimnnheaoaaGreat
open Go.RowKit
set_option linter.unusedSimpArgs false
set_option linter.unusedVariables false

theorem infoInt : (Tryz.prog.info? 3).map (fun i => (i.zero, i.size, i.bytes)) = some (some (.int .i64 0), 1, 8) := by kernel_rfl
theorem app_intG {ops : Array Oper} {rest : List Oper} {o : Oper} {a : Act} {w : World} {Q : Exit → Act → World → Prop} (hgd : o.guard = none) (s x : Operand)
    (ho : o.op = .call { callee := .builtin .append, args := #[s, x], argTypes := #[86, 86] }) (base : Nat) (v : Value) (l : List Int) (i : Int) (g : Nat)
    (hs : a.eval s = v) (hx : a.eval x = .slice (some ⟨g, 0, none⟩) 1 1) (hown : OwnI 3 base w v l) (hc : w.cell? ⟨g, 0, none⟩ = some (.int .i64 i)) (hl : l.length ≤ 1000000) (hbase : base ≤ w.heap.size)
    (h : ∀ v' w', OwnI 3 base w' v' (l ++ [i]) → w.grownBy w' v.ownBlock → (v'.ownBlock = v.ownBlock ∨ v'.ownBlock = some w.heap.size) → wpList Tryz.prog ops Q rest (a.put o.dst v') w') :
    wpList Tryz.prog ops Q (o :: rest) a w := by
  obtain ⟨i0, hi, hz0, hz1, hz2⟩ := info_parts infoInt
  refine wpList_append_src _ hgd s x 86 ho base 3 i0 (.int .i64 0) 1 8 Tryz.underlying86 hi hz0 hz1 hz2 rfl (by decide) v l.length _ hs hown _ 1 [.int .i64 i] hx (.inr ⟨⟨g, 0, none⟩, 1, rfl, rfl, ?_⟩) (by intro u hu; simp at hu; subst hu; rfl) (by unfold maxLen; omega) (by omega) hbase ?_
  · intro j u hj
    match j, hj with
    | 0, hj => simp at hj; subst hj; simpa [Addr.add] using hc
    | j + 1, hj => simp at hj
  · intro v' w' h1 h2 h3
    refine h v' w' ?_ h2 h3
    unfold OwnI
    rw [List.length_append, List.map_append]
    exact h1
section
variable {base : Nat} {W W' : World} {g : Nat} {b b' : GB} {qv sv qv' sv' : Value} {Q : List QE} {M F F1 : Nat → Prop}
set_option maxRecDepth 100000 in
set_option maxHeartbeats 4000000 in
theorem rQueries (h : StJ base g W b qv sv Q) : Calls Tryz.prog 61 #[.pointer (some ⟨g, 0, none⟩)] W fun e w' => ∃ v, e = .returned v ∧ OwnI 3 W.heap.size w' v (b.q.map Qy.id) ∧ Below W.heap.size W w' := by
  have H := Lib.hid h
  have hg := h.m.blk.lt
  obtain ⟨p, c, hqv⟩ := h.sliceQ
  have c1 : W.cell? ⟨g, 1, none⟩ = some qv := h.m.blk.cell 1 _ rfl
  subst hqv
  have hfew := h.few
  have HK := Lib.hid (show Q.map QE.id = b.q.map Qy.id by rw [h.q, List.map_map]; rfl)
  clear h c1
  obtain ⟨N, hN⟩ : ∃ z, Q.length = z := ⟨_, rfl⟩
  rw [hN] at H hfew
  have HN := Lib.hid hN
  clear hN
  go_enter Tryz.func61, Tryz.ntmps61; (try simp only [List.append_eq, List.cons_append, List.nil_append])
  go_wp2
  go_loopw [3, 4] (fun v j wr => ∃ k : Nat, k ≤ N ∧ j = .int .i64 k ∧ OwnI 3 W.heap.size wr v ((Q.take k).map QE.id) ∧ Below W.heap.size W wr) (fun _ j _ => N - (intOf j).toNat)
  case atStart => exact ⟨0, Nat.zero_le _, rfl, by rw [List.take_zero]; exact OwnI.nil, Below.refl _ _⟩
  case round =>
    obtain ⟨k, hk, rfl, hown, hb⟩ := hrel
    have Hown := Lib.hid hown; have HB := Lib.hid hb
    have H2 := Lib.hid (H.out.keep hb)
    clear hown hb
    have c1 : wr.cell? ⟨g, 1, none⟩ = some (.slice p N c) := H2.out.m.blk.cell 1 _ rfl
    have hgw := H2.out.m.blk.lt
    by_cases hlt : k < N
    · have hki : (k : Int) < (N : Int) := by omega
      obtain ⟨e, he⟩ : ∃ e, Q[k]? = some e := ⟨_, List.getElem?_eq_getElem (by rw [HN.out]; exact hlt)⟩
      obtain ⟨gq, off, cq, hpp, -, hgq, -, -, d0, -, -, -, -⟩ := H2.out.row he
      have hpp : Value.slice p N c = .slice (some ⟨gq, off, none⟩) Q.length cq := hpp
      rw [HN.out] at hpp
      cases hpp
      have Htk := Lib.hid (show (Q.take (k + 1)).map QE.id = (Q.take k).map QE.id ++ [e.id] by rw [List.take_add_one, he, List.map_append]; rfl)
      have htl : ((Q.take k).map QE.id).length ≤ 1000000 := by rw [List.length_map, List.length_take]; omega
      have hsz := HB.out.size
      clear he
      go_wp2_with (at_builtin; refine app_intG rfl _ _ rfl W.heap.size _ ((Q.take k).map QE.id) e.id wr.heap.size rfl rfl (Hown.out.keep ((Below.refl _ _).alloc (Nat.le_refl _) _)) (by go_simp) htl (by simp; omega) ?_)
      intro v' w4 hown4 hg4 _
      have hb4 := below_app (HB.out.alloc hsz (.cells #[.int .i64 e.id] 3)) (Hown.out.keep ((Below.refl _ _).alloc (Nat.le_refl _) (.cells #[.int .i64 e.id] 3))) hg4 (Nat.le_refl _) (by simp; omega)
      have Hown4 := Lib.hid hown4; have Hb4 := Lib.hid hb4
      clear hown4 hg4 hb4
      go_wp2
      exact ⟨⟨k + 1, by omega, by go_num, by rw [Htk.out]; simpa only [List.map_take] using Hown4.out, Hb4.out⟩, by simp [intOf]; omega⟩
    · have hk' : k = N := by omega
      subst hk'
      have hki : ¬ ((k : Int) < (k : Int)) := by omega
      rw [List.take_of_length_le (by rw [HN.out]; omega), HK.out] at Hown
      go_wp2
      go_ret
      exact ⟨_, rfl, Hown.out, HB.out⟩
theorem ofG_step {l : List Su} {k : Nat} {s : Su} (h : l[k]? = some s) (id : Int) : (l.take (k + 1)).filter (fun s => s.query == id) = (l.take k).filter (fun s => s.query == id) ++ if s.query = id then [s] else [] := by
  rw [List.take_add_one, h, List.filter_append]
  congr 1
  simp only [Option.toList_some, List.filter_cons, List.filter_nil, beq_iff_eq]
set_option maxRecDepth 100000 in
set_option maxHeartbeats 4000000 in
theorem rSubs {id : Int} (h : StJ base g W b qv sv Q) : Calls Tryz.prog 58 #[.pointer (some ⟨g, 0, none⟩), .int .i64 id] W fun e w' => ∃ v, e = .returned v ∧ OwnSu W.heap.size w' v (ofG b id) ∧ Below W.heap.size W w' := by
  have H := Lib.hid h
  have hg := h.m.blk.lt
  obtain ⟨p, c, hsv⟩ := h.sliceS
  subst hsv
  have hfew := h.inv.few
  clear h
  obtain ⟨N, hN⟩ : ∃ z, b.s.length = z := ⟨_, rfl⟩
  rw [hN] at H hfew
  have HN := Lib.hid hN
  clear hN
  go_enter Tryz.func58, Tryz.ntmps58; (try simp only [List.append_eq, List.cons_append, List.nil_append])
  go_wp2
  go_loopw [5, 6] (fun v j wr => ∃ k : Nat, k ≤ N ∧ j = .int .i64 k ∧ OwnSu W.heap.size wr v ((b.s.take k).filter fun s => s.query == id) ∧ Below W.heap.size W wr) (fun _ j _ => N - (intOf j).toNat)
  case atStart => exact ⟨0, Nat.zero_le _, rfl, by rw [List.take_zero]; exact OwnSu.nil, Below.refl _ _⟩
  case round =>
    obtain ⟨k, hk, rfl, hown, hb⟩ := hrel
    have Hown := Lib.hid hown; have HB := Lib.hid hb
    have H2 := Lib.hid (H.out.keep hb)
    clear hown hb
    have c2 : wr.cell? ⟨g, 2, none⟩ = some (.slice p N c) := H2.out.m.blk.cell 2 _ rfl
    have hgw := H2.out.m.blk.lt
    by_cases hlt : k < N
    · have hki : (k : Int) < (N : Int) := by omega
      obtain ⟨s, hs⟩ : ∃ s, b.s[k]? = some s := ⟨_, List.getElem?_eq_getElem (by rw [HN.out]; exact hlt)⟩
      obtain ⟨gs, off, cs, hpp, -, hgs, -, -, d0, d1, d2, d3, -⟩ := H2.out.rowS hs
      have hpp : Value.slice p N c = .slice (some ⟨gs, off, none⟩) b.s.length cs := hpp
      rw [HN.out] at hpp
      cases hpp
      have Hst := Lib.hid (ofG_step hs id)
      have htl : ((b.s.take k).filter fun s => s.query == id).length ≤ 1000000 := Nat.le_trans (List.length_filter_le _ _) (by rw [List.length_take]; omega)
      have hsz := HB.out.size
      clear hs
      by_cases hid : s.query = id
      · rw [if_pos hid] at Hst
        have hbq : (s.query == id) = true := by simp [hid]
        have Hid2 := Lib.hid hid
        clear hid
        go_wp2_with (at_builtin; refine app_su rfl _ _ rfl W.heap.size _ ((b.s.take k).filter fun s => s.query == id) s wr.heap.size rfl rfl (ownsRow_keep Hown.out ((Below.refl _ _).alloc (Nat.le_refl _) _)) (by go_simp) (by go_simp) (by go_simp) (by go_simp) htl (by simp; omega) ?_)
        intro v' w4 hown4 hg4 _
        have hb4 := below_app (HB.out.alloc hsz (.cells #[.int .i64 s.id, .int .i64 s.query, .int .i64 s.cursor, .int .i64 s.acked] 73)) (ownsRow_keep Hown.out ((Below.refl _ _).alloc (Nat.le_refl _) (.cells #[.int .i64 s.id, .int .i64 s.query, .int .i64 s.cursor, .int .i64 s.acked] 73))) hg4 (Nat.le_refl _) (by simp; omega)
        have Hown4 := Lib.hid hown4; have Hb4 := Lib.hid hb4
        clear hown4 hg4 hb4
        go_wp2
        exact ⟨⟨k + 1, by omega, by go_num, by rw [Hst.out]; exact Hown4.out, Hb4.out⟩, by simp [intOf]; omega⟩
      · rw [if_neg hid, List.append_nil] at Hst
        have hbq : (s.query == id) = false := by simp [hid]
        have Hid2 := Lib.hid hid
        clear hid
        go_wp2
        exact ⟨⟨k + 1, by omega, by go_num, by rw [Hst.out]; exact Hown.out, HB.out⟩, by simp [intOf]; omega⟩
    · have hk' : k = N := by omega
      subst hk'
      have hki : ¬ ((k : Int) < (k : Int)) := by omega
      rw [List.take_of_length_le (by rw [HN.out]; omega)] at Hown
      go_wp2
      go_ret
      exact ⟨_, rfl, Hown.out, HB.out⟩
set_option maxRecDepth 100000 in
set_option maxHeartbeats 4000000 in
theorem rKept {id : Int} (h : StJ base g W b qv sv Q) : Calls Tryz.prog 55 #[.pointer (some ⟨g, 0, none⟩), .int .i64 id] W fun e w' => ∃ v L, e = .returned v ∧ OwnTd W.heap.size base w' v L ∧ L.map Prod.fst = keptG b id ∧ Below W.heap.size W w' := by
  have HF := Lib.hid (rFind (id := id) h)
  cases hf : findQ b id with
  | none =>
    have e0 : keptG b id = [] := by unfold keptG; rw [hf]
    rw [e0]
    rw [hf] at HF
    have HF := Lib.hid (show Calls Tryz.prog _ _ W fun r w' => r = .returned (.tuple #[.int .i64 (placeN QE.id id Q), .bool false]) ∧ Below W.heap.size W w' from HF.out)
    clear hf e0 h
    obtain ⟨pl, hpl⟩ : ∃ z, placeN QE.id id Q = z := ⟨_, rfl⟩
    rw [hpl] at HF
    clear hpl
    go_enter Tryz.func55, Tryz.ntmps55; (try simp only [List.append_eq, List.cons_append, List.nil_append])
    go_wp2_with fail
    refine HF.out.mono ?_
    rintro e w2 ⟨rfl, hb⟩
    have HB := Lib.hid hb
    clear hb
    go_wp2
    go_ret
    exact ⟨_, [], rfl, OwnTd.nil, rfl, HB.out⟩
  | some x =>
    obtain ⟨e, he, hx, hid⟩ := h.place hf
    have HM := Lib.hid (show e.L.map Prod.fst = keptG b id by unfold keptG; rw [hf, ← hx]; rfl)
    rw [hf] at HF
    have HF := Lib.hid (show Calls Tryz.prog _ _ W fun r w' => r = .returned (.tuple #[.int .i64 (placeN QE.id id Q), .bool true]) ∧ Below W.heap.size W w' from HF.out)
    have H := Lib.hid h; have He := Lib.hid he
    have hpl9 := place_le (key := QE.id) id Q
    have hfew := h.few
    have hkn := h.keptN he
    obtain ⟨ak, ck, hkv⟩ := (h.m.k.mem e (List.mem_of_getElem? he)).slice
    obtain ⟨i0, hi, hz0, hz1, hz2⟩ := info_parts infoTd
    clear hf h he
    obtain ⟨pl, hpl⟩ : ∃ z, placeN QE.id id Q = z := ⟨_, rfl⟩
    rw [hpl] at HF He hpl9
    clear hpl
    go_enter Tryz.func55, Tryz.ntmps55; (try simp only [List.append_eq, List.cons_append, List.nil_append])
    go_wp2_with fail
    refine HF.out.mono ?_
    rintro r w2 ⟨rfl, hb⟩
    have HB := Lib.hid hb
    have H2 := H.out.keep hb
    have hkm := H2.m.k.mem e (List.mem_of_getElem? He.out)
    unfold KMem at hkm
    rw [hkv] at hkm
    have HKm := Lib.hid hkm
    obtain ⟨gq, off, cq, rfl, -, hgq, -, -, d0, d1, d2, d3, -⟩ := H2.row He.out
    rw [hkv] at d1
    have hpq : pl < Q.length := (List.getElem?_eq_some_iff.1 He.out).1
    have c1 : w2.cell? ⟨g, 1, none⟩ = some (.slice (some ⟨gq, off, none⟩) Q.length cq) := H2.m.blk.cell 1 _ rfl
    have hg := H2.m.blk.lt
    have hsz := hb.size
    have hba := (Below.refl w2.heap.size w2).alloc (Nat.le_refl _) (.cells #[] 34)
    have HS := Lib.hid (Src.of_own (hkm.keep hba).1)
    have HR := Lib.hid ((hkm.keep hba).2)
    have HBA := Lib.hid hba
    have HLo := Lib.hid (Nat.le_trans H.out.lo hsz)
    clear hb H2 hkv hkm hba
    go_wp2_with (at_builtin; refine wpList_append_src _ rfl _ _ _ rfl w2.heap.size 34 i0 _ 2 32 Tryz.underlying37 hi hz0 hz1 hz2 rfl (by decide) (.slice (some ⟨w2.heap.size, 0, none⟩) 0 0) 0 [] rfl (own_empty0 34 2 w2) _ e.L.length (e.L.map tRow).flatten rfl HS.out (tRow_one HR.out) (by unfold maxLen; omega) (by omega) (by simp) ?_; intro v3 w3 hown3 hgr3 _)
    have hO3 : OwnTd w2.heap.size base w3 v3 e.L := by
      refine ⟨by simpa using hown3, HR.out.off (OffM.grown hgr3) (own_quiet (own_empty0 34 2 w2) HLo.out (by decide) (by decide))⟩
    have hB3 := HBA.out.grown hgr3 (by simp) (by simp [Value.ownBlock])
    have HO3 := Lib.hid hO3; have HB3 := Lib.hid hB3
    clear hO3 hB3 hown3 hgr3
    go_wp2
    go_ret
    exact ⟨_, _, rfl, HO3.out.low hsz, HM.out, HB.out.trans (HB3.out.mono hsz)⟩
end
end Go.Proofs.YtfmolimnnheaoaaGreat

/- The document's let. -/
namespace Go.Proofs.YtfmolimnnheaoaaGreat
open Go.RowKit
set_option linter.unusedSimpArgs false
set_option linter.unusedVariables false

section
variable {base : Nat} {W W' : World} {g : Nat} {b b' : GB} {qv sv qv' sv' : Value} {Q : List QE} {M F F1 : Nat → Prop}
theorem BrdR.row {room id : Int} {S : List Su} (h : BrdR base W g room id qv sv Q S) {k : Nat} {e : QE} (hk : Q[k]? = some e) : ∃ gq off cq, qv = .slice (some ⟨gq, off, none⟩) Q.length cq ∧ off = 0 ∧ gq < W.heap.size ∧ base ≤ gq ∧ TyB W gq 68 ∧
    W.cell? ⟨gq, off + k * 4, none⟩ = some (.int .i64 e.id) ∧ W.cell? ⟨gq, off + k * 4 + 1, none⟩ = some e.kv ∧ W.cell? ⟨gq, off + k * 4 + 2, none⟩ = some (.int .i64 e.last) ∧ W.cell? ⟨gq, off + k * 4 + 3, none⟩ = some (.int .i64 e.floor) ∧ ∀ j, W.frozen? ⟨gq, j, none⟩ = false := by
  obtain ⟨p, c, rfl⟩ := ownsRow_slice h.q
  obtain ⟨gq, off, rfl, h0, h1, h2, h3, h4, h5⟩ := own_row h.q (List.length_map _) (qRow_len Q) (k := k) (row := qRow e) (by rw [List.getElem?_map, hk]; rfl)
  exact ⟨gq, off, c, rfl, h0, h1, h2, h3, h4 0 _ rfl, h4 1 _ rfl, h4 2 _ rfl, h4 3 _ rfl, h5⟩
/-- A cell of a query's row is stored. -/
theorem BrdR.cellQ {room id : Int} {S : List Su} {gq off cq : Nat} (h : BrdR base W g room id (.slice (some ⟨gq, off, none⟩) Q.length cq) sv Q S) (hoff : off = 0) {k : Nat} {e e' : QE} (hk : Q[k]? = some e) {j : Nat} (hj : j < 4) {u : Value} (he : qRow e' = (qRow e).set j u) :
    (W.setCell ⟨gq, off + k * 4 + j, none⟩ u).ownsRow base 68 4 (.slice (some ⟨gq, off, none⟩) Q.length cq) Q.length ((Q.set k e').map qRow).flatten := by
  have h1 := own_set_row hoff h.q (qRow_len Q) hj (k := k) (row := qRow e) (by rw [List.getElem?_map, hk]; rfl) u
  rw [List.map_set, he]
  exact h1
theorem set_same {α : Type} {l : List α} {k : Nat} {x : α} (h : l[k]? = some x) : l.set k x = l := by
  apply List.ext_getElem?
  intro j
  by_cases hj : k = j
  · subst hj; rw [List.getElem?_set_self (List.getElem?_eq_some_iff.1 h).1, h]
  · rw [List.getElem?_set_ne hj]
theorem settled_at (h : StJ base g W b qv sv Q) {k : Nat} {e : QE} (hk : Q[k]? = some e) : settledG b e.id = settleAt b e.qy := by
  unfold settledG; rw [h.find_at hk]
theorem letG_atJ (h : StJ base g W b qv sv Q) {k : Nat} {e : QE} (hk : Q[k]? = some e) : letG b e.id = { b with q := turnQ e.id (letQ (settleAt b e.qy)) b.q } := by
  unfold letG
  rw [h.find_at hk]
theorem place_at_eq (h : StJ base g W b qv sv Q) {k : Nat} {e : QE} (hk : Q[k]? = some e) : placeN QE.id e.id Q = k := by
  refine place_is (fun j y hy hj => ?_) (fun y hy => ?_) (Nat.le_of_lt (List.getElem?_eq_some_iff.1 hk).1)
  · obtain ⟨hj1, rfl⟩ := List.getElem?_eq_some_iff.1 hy
    obtain ⟨hk1, rfl⟩ := List.getElem?_eq_some_iff.1 hk
    have := List.pairwise_iff_getElem.1 h.qIds j k (by rw [List.length_map]; exact hj1) (by rw [List.length_map]; exact hk1) hj
    simpa using this
  · rw [hk] at hy; cases hy; omega
theorem filt_step {l : List TV} {k : Nat} {x : TV} (h : l[k]? = some x) (n : Int) : (l.take (k + 1)).filter (fun x : TV => decide (n < x.1.time)) = (l.take k).filter (fun x : TV => decide (n < x.1.time)) ++ if n < x.1.time then [x] else [] := by
  rw [List.take_add_one, h, List.filter_append]
  congr 1
  simp only [Option.toList_some, List.filter_cons, List.filter_nil, decide_eq_true_eq]
set_option maxRecDepth 100000 in
set_option maxHeartbeats 8000000 in
theorem rLet {pl : Nat} {e : QE} (h : StJ base g W b qv sv Q) (he : Q[pl]? = some e) : Calls Tryz.prog 41 #[.pointer (some ⟨g, 0, none⟩), .int .i64 e.id] W fun r w' => r = .returned (.tuple #[]) ∧ PostB base g (FootR g qv sv Q) W (letG b e.id) w' := by
  have HF := Lib.hid (rFind (id := e.id) h)
  rw [place_at_eq h he, h.find_at he] at HF
  have HF := Lib.hid (show Calls Tryz.prog _ _ W fun r w' => r = .returned (.tuple #[.int .i64 (pl : Int), .bool true]) ∧ Below W.heap.size W w' from HF.out)
  have HLG := Lib.hid (letG_atJ h he)
  have HIn := Lib.hid (h.inv.letG e.id)
  rw [HLG.out] at HIn ⊢
  have HSt := Lib.hid (settled_at h he)
  have H := Lib.hid h; have He := Lib.hid he
  have HQo := Lib.hid (h.qOk he)
  have hfew := h.few
  have hkn := h.keptN he
  obtain ⟨ak, ck, hkv⟩ := (h.m.k.mem e (List.mem_of_getElem? he)).slice
  have hpq : pl < Q.length := (List.getElem?_eq_some_iff.1 he).1
  clear h he HLG
  obtain ⟨id, L, lst, fl, bk, kv⟩ := e
  simp only at hkv hkn HF HSt HIn ⊢
  subst hkv
  obtain ⟨n, hn0⟩ : ∃ z, settleAt b (QE.qy ⟨id, L, lst, fl, bk, .slice ak L.length ck⟩) = z := ⟨_, rfl⟩
  rw [hn0] at HSt HIn ⊢
  clear hn0
  go_enter Tryz.func41, Tryz.ntmps41; (try simp only [List.append_eq, List.cons_append, List.nil_append])
  go_wp2_with fail
  refine HF.out.mono ?_
  rintro r w2 ⟨rfl, hb⟩
  have HB := Lib.hid hb
  have H2 := Lib.hid (H.out.keep hb)
  clear hb
  go_wp2_with fail
  refine (rSettled H2.out).mono ?_
  rintro r w3 ⟨rfl, hb⟩
  rw [HSt.out]
  have HB3 := Lib.hid (HB.out.trans (hb.mono HB.out.size))
  have H3 := Lib.hid (H2.out.keep hb)
  clear hb
  obtain ⟨gq, off, cq, rfl, hoff, hgq, hbgq, hty, d0, d1, d2, d3, hfr⟩ := H3.out.row He.out
  have Hoff := Lib.hid hoff; have Hty := Lib.hid hty; have Hbgq := Lib.hid hbgq
  have c1 : w3.cell? ⟨g, 1, none⟩ = some (.slice (some ⟨gq, off, none⟩) Q.length cq) := H3.out.m.blk.cell 1 _ rfl
  have hg := H3.out.m.blk.lt
  have f3 := hfr (off + pl * 4 + 3)
  clear hoff hty hbgq
  simp only at d1 d3
  by_cases hle : n ≤ fl
  · have hnl : ¬ fl < n := by omega
    have HLQ := Lib.hid (show letQ n (QE.qy ⟨id, L, lst, fl, bk, .slice ak L.length ck⟩) = QE.qy ⟨id, L, lst, fl, bk, .slice ak L.length ck⟩ from by unfold letQ; exact if_neg hnl)
    go_wp2
    refine bodyPost_ret (results_none rfl _ _ _) rfl ?_
    obtain ⟨h5, h6⟩ := H3.out.setQ (W' := w3) (M := fun _ => False) (e' := ⟨id, L, lst, fl, bk, .slice ak L.length ck⟩) He.out (OffM.refl _ _) (fun _ _ h => h.elim) (by rw [set_same He.out]; exact H3.out.m.q) (H3.out.m.k.mem _ (List.mem_of_getElem? He.out)) (fun k hk => .inl hk) (letQ n) HLQ.out.symm HIn.out
    exact ⟨rfl, _, h5.st, (Turn.of HB3.out).trans h6⟩
  · have hlt : fl < n := by omega
    have HLQ := Lib.hid (show (⟨id, ((L.filter fun x : TV => decide (n < x.1.time)).map Prod.fst), lst, n⟩ : Qy (List Rs)) = letQ n (QE.qy ⟨id, L, lst, fl, bk, .slice ak L.length ck⟩) from by
      unfold letQ; rw [if_pos (show (QE.qy ⟨id, L, lst, fl, bk, .slice ak L.length ck⟩).floor < n from hlt)]
      unfold QE.qy
      simp only [List.filter_map]
      rfl)
    go_upto_region 7 with fail
    have HoY := Lib.hid (OffM.cell1 w3 gq (off + pl * 4 + 3) (.int .i64 n))
    have hkm3 : KMem base w3 ⟨id, L, lst, fl, bk, .slice ak L.length ck⟩ := H3.out.m.k.mem _ (List.mem_of_getElem? He.out)
    have HKm3 := Lib.hid hkm3
    have hrow1 := H3.out.m.cellQ Hoff.out He.out (j := 3) (by decide) (u := .int .i64 n) (e' := ⟨id, L, lst, n, bk, .slice ak L.length ck⟩) rfl
    have hY1 := (H3.out.m.setQ (e' := ⟨id, L, lst, n, bk, .slice ak L.length ck⟩) He.out HoY.out (fun j _ hj => .inl (by rw [hj]; rfl)) hrow1 ((kStays base).off _ _ _ _ (show KMem base w3 ⟨id, L, lst, n, bk, .slice ak L.length ck⟩ from hkm3) HoY.out (blk_quiet Hty.out Hbgq.out (by decide) (by decide)) (fun k hk e => (H3.out.m.tyK (List.mem_of_getElem? He.out) hk).2.ne Hty.out (by decide) e)) (fun k hk => .inl hk)).1
    have HY := Lib.hid hY1
    have hszY : (w3.setCell ⟨gq, off + pl * 4 + 3, none⟩ (.int .i64 n)).heap.size = w3.heap.size := by unfold World.setCell; simp
    have HszY := Lib.hid hszY
    obtain ⟨Y, hY⟩ : ∃ z, w3.setCell ⟨gq, off + pl * 4 + 3, none⟩ (.int .i64 n) = z := ⟨_, rfl⟩
    rw [hY] at HoY HY HszY ⊢
    clear hY hrow1 hY1 hszY d0 d1 d2 d3 hfr f3 c1 hg hgq
    have HE1 := Lib.hid (show (Q.set pl ⟨id, L, lst, n, bk, .slice ak L.length ck⟩)[pl]? = some ⟨id, L, lst, n, bk, .slice ak L.length ck⟩ from List.getElem?_set_self hpq)
    have hsl : (Q.set pl ⟨id, L, lst, n, bk, .slice ak L.length ck⟩).length = Q.length := List.length_set
    obtain ⟨Q1, hQ1⟩ : ∃ z, Q.set pl ⟨id, L, lst, n, bk, .slice ak L.length ck⟩ = z := ⟨_, rfl⟩
    rw [hQ1] at HY HE1 hsl
    have HQ1 := Lib.hid hQ1
    have Hsl := Lib.hid hsl
    clear hQ1 hsl
    go_loopw [7, 8] (fun v j wr => ∃ k : Nat, k ≤ L.length ∧ j = .int .i64 k ∧ OwnTd Y.heap.size base wr v ((L.take k).filter fun x : TV => decide (n < x.1.time)) ∧ Below Y.heap.size Y wr) (fun _ j _ => L.length - (intOf j).toNat)
    case atStart => exact ⟨0, Nat.zero_le _, rfl, by rw [List.take_zero]; exact OwnTd.nil, Below.refl _ _⟩
    case round =>
      obtain ⟨k, hk, rfl, hown, hb⟩ := hrel
      have Hown := Lib.hid hown; have HBw := Lib.hid hb
      have HR := Lib.hid (HY.out.keep hb)
      clear hown hb
      obtain ⟨gq', off', cq', hpp, -, hgq, -, -, d0, d1, d2, d3, hfr⟩ := HR.out.row HE1.out
      rw [Hsl.out] at hpp
      cases hpp
      simp only at d1
      have c1 : wr.cell? ⟨g, 1, none⟩ = some (.slice (some ⟨gq, off, none⟩) Q.length cq) := HR.out.blk.cell 1 _ rfl
      have hg := HR.out.blk.lt
      have hsz := HBw.out.size
      have HKd := Lib.hid (show OwnTd base base wr (.slice ak L.length ck) L from HR.out.k.mem _ (List.mem_of_getElem? HE1.out))
      by_cases hlt2 : k < L.length
      · have hki : (k : Int) < (L.length : Int) := by omega
        obtain ⟨x, hx⟩ : ∃ x, L[k]? = some x := ⟨_, List.getElem?_eq_getElem hlt2⟩
        obtain ⟨bb, ob, rfl, hbb, t0, t1, hres⟩ := (HKd.out.isTd (Nat.le_refl _)).get hx
        obtain ⟨⟨tm, res⟩, rv⟩ := x
        simp only at t0 t1 hres
        have Hst := Lib.hid (filt_step hx n)
        have HRes := Lib.hid hres
        have htl : ((L.take k).filter fun x : TV => decide (n < x.1.time)).length ≤ 1000000 := Nat.le_trans (List.length_filter_le _ _) (by rw [List.length_take]; omega)
        obtain ⟨q9, c9, rfl, -, -⟩ := hres.open
        clear hx hres d0 d2 d3 hfr
        by_cases hgt : n < tm
        · rw [if_pos (show n < ((⟨tm, res⟩, Value.slice q9 res.length c9) : TV).1.time from hgt)] at Hst
          go_wp2_with (at_builtin; refine app_td rfl _ _ rfl Y.heap.size base _ ((L.take k).filter fun x : TV => decide (n < x.1.time)) (⟨tm, res⟩, .slice q9 res.length c9) wr.heap.size rfl rfl (Hown.out.keep ((Below.refl _ _).alloc (Nat.le_refl _) _)) (by have := H3.out.lo; have := HszY.out; omega) (HRes.out.keep ((Below.refl _ _).alloc (Nat.le_refl _) _)) (by go_simp) (by go_simp) htl (by simp; omega) ?_)
          intro v' w4 hown4 hg4 _
          have hb4 := below_app (HBw.out.alloc hsz (.cells #[.int .i64 tm, .slice q9 res.length c9] 34)) (Hown.out.keep ((Below.refl _ _).alloc (Nat.le_refl _) (.cells #[.int .i64 tm, .slice q9 res.length c9] 34))).1 hg4 (Nat.le_refl _) (by simp; omega)
          have Hown4 := Lib.hid hown4; have Hb4 := Lib.hid hb4
          clear hown4 hg4 hb4
          go_wp2
          exact ⟨⟨k + 1, by omega, by go_num, by rw [Hst.out]; exact Hown4.out, Hb4.out⟩, by simp [intOf]; omega⟩
        · rw [if_neg (show ¬ n < ((⟨tm, res⟩, Value.slice q9 res.length c9) : TV).1.time from hgt), List.append_nil] at Hst
          go_wp2
          exact ⟨⟨k + 1, by omega, by go_num, by rw [Hst.out]; exact Hown.out, HBw.out⟩, by simp [intOf]; omega⟩
      · have hk' : k = L.length := by omega
        subst hk'
        have hki : ¬ ((L.length : Int) < (L.length : Int)) := by omega
        rw [List.take_length] at Hown
        obtain ⟨a7, c7, hv7⟩ := Hown.out.slice
        have f1 := hfr (off + pl * 4 + 1)
        clear d0 d2 d3 hfr
        subst hv7
        go_wp2
        go_end0
        have hq9 : (wr.setCell ⟨gq, off + pl * 4 + 1, none⟩ (.slice a7 (L.filter fun x : TV => decide (n < x.1.time)).length c7)).ownsRow base 68 4 (.slice (some ⟨gq, off, none⟩) Q.length cq) Q.length ((Q.set pl ⟨id, L.filter fun x : TV => decide (n < x.1.time), lst, n, bk, .slice a7 (L.filter fun x : TV => decide (n < x.1.time)).length c7⟩).map qRow).flatten := by
          have hq0 := HR.out.q
          rw [Hsl.out] at hq0
          have h9 := own_set_row Hoff.out hq0 (qRow_len Q1) (j := 1) (by decide) (k := pl) (row := qRow ⟨id, L, lst, n, bk, .slice ak L.length ck⟩) (by rw [List.getElem?_map, HE1.out]; rfl) (.slice a7 (L.filter fun x : TV => decide (n < x.1.time)).length c7)
          rw [show (Q1.map qRow).set pl ((qRow ⟨id, L, lst, n, bk, .slice ak L.length ck⟩).set 1 (.slice a7 (L.filter fun x : TV => decide (n < x.1.time)).length c7)) = (Q.set pl ⟨id, L.filter fun x : TV => decide (n < x.1.time), lst, n, bk, .slice a7 (L.filter fun x : TV => decide (n < x.1.time)).length c7⟩).map qRow from by
            rw [← HQ1.out, List.map_set, List.set_set, List.map_set]; rfl] at h9
          exact h9
        have hgw : TyB wr gq 68 := (HR.out.tyQ rfl).2
        have hown9 := Hown.out.off (OffM.cell1 wr gq (off + pl * 4 + 1) (.slice a7 (L.filter fun x : TV => decide (n < x.1.time)).length c7)) (blk_quiet hgw Hbgq.out (by decide) (by decide)) (fun k hk e => (own_ty Hown.out.1 hk).ne hgw (by decide) e)
        have ho9 : OffM (fun k => k = gq) w3 (wr.setCell ⟨gq, off + pl * 4 + 1, none⟩ (.slice a7 (L.filter fun x : TV => decide (n < x.1.time)).length c7)) := (HoY.out.trans (OffM.of (M := fun k => k = gq) HBw.out) (fun _ _ h => h)).trans (OffM.cell1 _ _ _ _) (fun _ _ h => h)
        obtain ⟨h5, h6⟩ := H3.out.setQ (e' := ⟨id, L.filter fun x : TV => decide (n < x.1.time), lst, n, bk, .slice a7 (L.filter fun x : TV => decide (n < x.1.time)).length c7⟩) He.out ho9 (fun j _ hj => .inl (by rw [hj]; rfl)) hq9 (hown9.low (by have := H3.out.lo; have := HszY.out; omega)) (fun k hk => .inr (by have := (Hown.out.foot_lt hk).1; have := HszY.out; omega)) (letQ n) HLQ.out HIn.out
        exact ⟨rfl, _, h5.st, (Turn.of HB3.out).trans h6⟩
end
end Go.Proofs.YtfmolimnnheaoaaGreat
