/- The document's Put. Printed by wip/gen_hr9.py. -/
import Derived.Test.YtfmolimnnheaoaaGreatK17
import Derived.Test.YtfmolimnnheaoaaGreatK20
import Derived.Test.YtfmolimnnheaoaaGreatK1
namespace Go.Proofs.YtfmolimnnheaoaaGreat
open Go.RowKit
set_option linter.unusedSimpArgs false
set_option linter.unusedVariables false

section
variable {base : Nat} {W W' : World} {g : Nat} {b b' : GB} {qv sv qv' sv' : Value} {Q Q' : List QE} {M F F1 : Nat → Prop}
set_option maxRecDepth 100000 in
set_option maxHeartbeats 16000000 in
theorem rPut {id t : Int} {res : List Rs} {rv : Value} (h : StJ base g W b qv sv Q) (hres : ResAt base W rv res) :
    Calls Tryz.prog 26 #[.pointer (some ⟨g, 0, none⟩), .int .i64 id, .agg #[.int .i64 t, rv]] W fun e w' => e = .returned (.int .i64 (putG checkV b id ⟨t, res⟩).2) ∧ PostB base g (FootR g qv sv Q) W (putG checkV b id ⟨t, res⟩).1 w' := by
  obtain ⟨pr, cr, rfl, -, -⟩ := hres.open
  have hb0 := (Below.refl W.heap.size W).alloc (Nat.le_refl _) (.cells #[.int .i64 t, .slice pr res.length cr] 34)
  have H := Lib.hid h
  have HB1 := Lib.hid (Blk.new W [.int .i64 t, .slice pr res.length cr] 34)
  have HRes := Lib.hid (hres.keep hb0)
  have HBel := Lib.hid hb0
  have hgl0 : W.heap.size < (W.alloc (.cells #[.int .i64 t, .slice pr res.length cr] 34)).heap.size := by rw [World.size_alloc]; omega
  have HF := Lib.hid (rFind (id := id) (h.keep hb0))
  have HInv := Lib.hid h.inv
  clear hb0 hres
  obtain ⟨po, hpo⟩ : ∃ r, putG checkV b id ⟨t, res⟩ = r := ⟨_, rfl⟩
  rw [hpo]
  unfold putG maxG at hpo
  obtain ⟨gB, hgB⟩ : ∃ z, W.heap.size = z := ⟨_, rfl⟩
  have HGB := Lib.hid hgB
  clear hgB
  cases hf : findQ b id with
  | none =>
    rw [hf] at hpo HF
    have HF := Lib.hid (show Calls Tryz.prog _ _ _ fun r w' => r = .returned (.tuple #[.int .i64 (placeN QE.id id Q), .bool false]) ∧ Below (W.alloc (.cells #[.int .i64 t, .slice pr res.length cr] 34)).heap.size (W.alloc (.cells #[.int .i64 t, .slice pr res.length cr] 34)) w' from HF.out)
    have HP := Lib.hid hpo
    obtain ⟨pl, hpl⟩ : ∃ z, placeN QE.id id Q = z := ⟨_, rfl⟩
    rw [hpl] at HF
    clear hpo hf h hpl
    go_enter Tryz.func26, Tryz.ntmps26; (try simp only [List.append_eq, List.cons_append, List.nil_append])
    go_wp2_with fail
    refine HF.out.mono ?_
    rintro e w2 ⟨rfl, hb⟩
    have HB := Lib.hid (HBel.out.trans (hb.mono HBel.out.size))
    clear hb
    go_wp2
    go_ret
    have hp := HP.out
    subst hp
    exact ⟨rfl, PostB.below H.out HB.out⟩
  | some x =>
  rw [hf] at hpo HF
  have HF := Lib.hid (show Calls Tryz.prog _ _ _ fun r w' => r = .returned (.tuple #[.int .i64 (placeN QE.id id Q), .bool true]) ∧ Below (W.alloc (.cells #[.int .i64 t, .slice pr res.length cr] 34)).heap.size (W.alloc (.cells #[.int .i64 t, .slice pr res.length cr] 34)) w' from HF.out)
  obtain ⟨e, he, hx, hid⟩ := h.place hf
  have HFq := Lib.hid hf
  have HP0 := Lib.hid hpo
  have HLn := Lib.hid (h.keptN he)
  have hfew := h.few
  have hroom := h.inv.room
  have hpq : placeN QE.id id Q < Q.length := (List.getElem?_eq_some_iff.1 he).1
  have He0 := Lib.hid he
  clear hpo hf h he
  subst hx
  obtain ⟨id2, L, lst, fl, bk, kv⟩ := e
  simp only at hid
  subst hid
  have HP : Hid ((if checkV res ≠ 0 then (b, checkV res) else if t < 1 ∨ 1099511627776 < t then (b, 2) else if t ≤ lst then (b, 8) else if b.room ≤ ((L.map Prod.fst).length : Int) then (b, 9) else (letG { b with q := turnQ id2 (fun x => { x with l := x.l ++ [⟨t, res⟩], last := t }) b.q } id2, 0)) = po) := HP0
  rw [List.length_map] at HP
  have HLn := Lib.hid (show L.length ≤ 4096 from HLn.out)
  obtain ⟨pl, hpl⟩ : ∃ z, placeN QE.id id2 Q = z := ⟨_, rfl⟩
  rw [hpl] at HF He0 hpq
  clear HP0 hpl
  have hkn : L.length ≤ 4096 := HLn.out
  go_enter Tryz.func26, Tryz.ntmps26; (try simp only [List.append_eq, List.cons_append, List.nil_append])
  go_wp2_with fail
  obtain ⟨W1, hW1⟩ : ∃ z, W.alloc (.cells #[.int .i64 t, .slice pr res.length cr] 34) = z := ⟨_, rfl⟩
  rw [show (W.alloc (.cells ([.int .i64 t, .slice pr res.length cr] : List Value).toArray 34)) = W1 from hW1] at HB1
  rw [hW1] at HBel HRes HF hgl0 ⊢
  rw [HGB.out] at HB1 hgl0 ⊢
  clear hW1
  refine HF.out.mono ?_
  rintro r w2 ⟨rfl, hb⟩
  have HB2 := Lib.hid (HB1.out.keep hb)
  have HR2 := Lib.hid (HRes.out.keep hb)
  have HBe2 := Lib.hid (HBel.out.trans (hb.mono HBel.out.size))
  have k1 : w2.cell? ⟨gB, 1, none⟩ = some (.slice pr res.length cr) := HB2.out.cell 1 _ rfl
  have hgb := HB2.out.lt
  clear hb
  go_wp2_with fail
  refine (rCheckV (Nat.le_refl _) HR2.out.isRes).mono ?_
  rintro r w3 ⟨rfl, hb⟩
  have HB3 := Lib.hid (HB2.out.keep hb)
  have HR3 := Lib.hid (HR2.out.keep hb)
  have HBe3 := Lib.hid (HBe2.out.trans (hb.mono HBe2.out.size))
  have H3 := Lib.hid (H.out.keep HBe3.out)
  clear hb k1 hgb
  obtain ⟨cv, hcv⟩ : ∃ z, checkV res = z := ⟨_, rfl⟩
  rw [hcv] at HP ⊢
  clear hcv
  have HP1 := HP
  clear HP
  by_cases hcv : cv = 0
  rotate_left
  · have hcb : (cv != 0) = true := by simp [hcv]
    have HP := Lib.hid ((if_pos (show cv ≠ 0 from hcv)).symm.trans HP1.out)
    clear hcv
    go_wp2
    go_ret
    have hp := HP.out
    subst hp
    exact ⟨rfl, PostB.below H.out HBe3.out⟩
  subst hcv
  have HP := Lib.hid ((if_neg (show ¬ ((0 : Int) ≠ 0) by simp)).symm.trans HP1.out)
  clear HP1
  have hkm3 : KMem base w3 ⟨id2, L, lst, fl, bk, kv⟩ := H3.out.m.k.mem _ (List.mem_of_getElem? He0.out)
  obtain ⟨ak, ck, hkv⟩ := hkm3.slice
  simp only at hkv
  subst hkv
  obtain ⟨gq, off, cq, rfl, hoff, hgq, hbgq, hty, d0, d1, d2, d3, hfr⟩ := H3.out.row He0.out
  simp only at d1 d2
  have Hoff := Lib.hid hoff; have Hty := Lib.hid hty; have Hbgq := Lib.hid hbgq
  have c0 : w3.cell? ⟨g, 0, none⟩ = some (.int .i64 b.room) := H3.out.m.blk.cell 0 _ rfl
  have c1 : w3.cell? ⟨g, 1, none⟩ = some (.slice (some ⟨gq, off, none⟩) Q.length cq) := H3.out.m.blk.cell 1 _ rfl
  have hg := H3.out.m.blk.lt
  have k0 : w3.cell? ⟨gB, 0, none⟩ = some (.int .i64 t) := HB3.out.cell 0 _ rfl
  have k1 : w3.cell? ⟨gB, 1, none⟩ = some (.slice pr res.length cr) := HB3.out.cell 1 _ rfl
  have hgb := HB3.out.lt
  clear hoff hty hbgq hfr d0 d3 hkm3
  by_cases h1 : t < 1
  · go_wp2
    go_ret
    have hp := HP.out
    rw [if_pos (.inl h1)] at hp
    subst hp
    exact ⟨rfl, PostB.below H.out HBe3.out⟩
  by_cases h2 : 1099511627776 < t
  · go_wp2
    go_ret
    have hp := HP.out
    rw [if_pos (.inr h2)] at hp
    subst hp
    exact ⟨rfl, PostB.below H.out HBe3.out⟩
  have HPa := Lib.hid ((if_neg (show ¬ (t < 1 ∨ 1099511627776 < t) by omega)).symm.trans HP.out)
  clear HP
  by_cases h3 : t ≤ lst
  · go_wp2_with fail
    all_goals first | (exfalso; omega) | skip
    go_quiet (fail)
    go_wp2
    go_ret
    have hp := HPa.out
    rw [if_pos h3] at hp
    subst hp
    exact ⟨rfl, PostB.below H.out (below_drewN HBe3.out _)⟩
  have HPb := Lib.hid ((if_neg h3).symm.trans HPa.out)
  clear HPa
  by_cases h4 : b.room ≤ (L.length : Int)
  · go_wp2_with fail
    all_goals first | (exfalso; omega) | skip
    go_quiet (fail)
    go_wp2_with fail
    all_goals first | (exfalso; omega) | skip
    go_quiet (fail)
    go_wp2
    go_ret
    have hp := HPb.out
    rw [if_pos h4] at hp
    subst hp
    exact ⟨rfl, PostB.below H.out (below_drewN (below_drewN HBe3.out _) _)⟩
  have HPc := Lib.hid ((if_neg h4).symm.trans HPb.out)
  clear HPb
  go_wp2_with fail
  all_goals first | (exfalso; omega) | skip
  go_quiet (fail)
  obtain ⟨nqa, hnqa⟩ : ∃ z, nq = z := ⟨_, rfl⟩
  rw [hnqa]
  clear hnqa
  go_wp2_with fail
  all_goals first | (exfalso; omega) | skip
  go_quiet (fail)
  go_wp2_with fail
  have hbq : Below w3.heap.size w3 ((w3.drewN nqa).drewN nq) := below_drewN (below_drewN (Below.refl _ _) _) _
  obtain ⟨Y, hY⟩ : ∃ z, (w3.drewN nqa).drewN nq = z := ⟨_, rfl⟩
  rw [hY] at hbq ⊢
  clear hY
  have HY := Lib.hid (H3.out.keep hbq)
  have HBY := Lib.hid (HB3.out.keep hbq)
  have HRY := Lib.hid (HR3.out.keep hbq)
  have HBeY := Lib.hid (HBe3.out.trans (hbq.mono HBe3.out.size))
  have HtyY := Lib.hid (HY.out.m.tyQ (k := gq) rfl).2
  have hcY : Y.cell? ⟨gq, off + pl * 4 + 1, none⟩ = some (.slice ak L.length ck) ∧ gq < Y.heap.size := ⟨(hbq.cell (p := ⟨gq, _, none⟩) hgq).trans d1, HtyY.out.lt⟩
  have HcY := Lib.hid hcY
  have HgbNe := Lib.hid (show ∀ k, FootR g (.slice (some ⟨gq, off, none⟩) Q.length cq) sv Q k → k ≠ gB from fun k hk e => by
    have h9 := H.out.m.foot_lt hk
    have := HGB.out; omega)
  have HKY := Lib.hid (show OwnTd base base Y (.slice ak L.length ck) L from HY.out.m.k.mem _ (List.mem_of_getElem? He0.out))
  have HIn := Lib.hid (inv_put_mid HInv.out HFq.out (t := ⟨t, res⟩) (show 1 ≤ t ∧ t ≤ maxG by unfold maxG; omega) (show lst < t by omega) (show ((L.map Prod.fst).length : Int) < b.room by rw [List.length_map]; omega))
  clear c0 c1 hg k0 k1 hgb d1 d2 hgq hbq hcY
  obtain ⟨i0, hi, hz0, hz1, hz2⟩ := info_parts infoTd
  refine wp_region_late [18] (fun X => Blk X g 59 (boardR b.room b.id (.slice (some ⟨gq, off, none⟩) Q.length cq) sv) ∧ (X.cell? ⟨gq, off + pl * 4 + 1, none⟩ = some (.slice ak L.length ck) ∧ gq < X.heap.size) ∧ Blk X gB 34 [.int .i64 t, .slice pr res.length cr]) (by kernel_rfl) ?_
  have HZ := Lib.hid (Below.drew (Below.refl Y.heap.size Y))
  obtain ⟨Z, hZ⟩ : ∃ z, Y.drew = z := ⟨_, rfl⟩
  rw [hZ] at HZ ⊢
  clear hZ
  have hik : IntKind.i64.wrap (pl : Int) = (pl : Int) := IntWalk.i64_in _ (by omega)
  have keepS : ∀ {X : World}, Below Y.heap.size Y X → Blk X g 59 (boardR b.room b.id (.slice (some ⟨gq, off, none⟩) Q.length cq) sv) ∧ (X.cell? ⟨gq, off + pl * 4 + 1, none⟩ = some (.slice ak L.length ck) ∧ gq < X.heap.size) ∧ Blk X gB 34 [.int .i64 t, .slice pr res.length cr] := fun hb => ⟨HY.out.m.blk.keep hb, ⟨(hb.cell (p := ⟨gq, _, none⟩) HcY.out.2).trans HcY.out.1, Nat.lt_of_lt_of_le HcY.out.2 hb.size⟩, HBY.out.keep hb⟩
  have hSd := keepS HZ.out
  (refine late_take 0 57 (.pointer (some ⟨g, 0, none⟩)) rfl rfl (by kernel_rfl) (by kernel_rfl) (by kernel_rfl) rfl (by kernel_rfl) (fun _ _ _ h => h) (by kernel_rfl) ?_ hSd ?_; (intro w' hSw; clear hSw; first | rfl | go_simp); simp only [lsz, lss])
  (refine late_take 1 58 (.pointer (some ⟨g, 0, none⟩)) rfl rfl (by kernel_rfl) (by kernel_rfl) (by kernel_rfl) rfl (by kernel_rfl) (fun _ _ _ h => h) (by kernel_rfl) ?_ hSd ?_; (intro w' hSw; clear hSw; first | rfl | go_simp); simp only [lsz, lss])
  (refine late_take 2 59 (.pointer (some ⟨g, 1, none⟩)) rfl rfl (by kernel_rfl) (by kernel_rfl) (by kernel_rfl) rfl (by kernel_rfl) (fun _ _ _ h => h) (by kernel_rfl) ?_ hSd ?_; (intro w' hSw; clear hSw; first | rfl | go_simp); simp only [lsz, lss])
  (refine late_take 3 60 (.slice (some ⟨gq, off, none⟩) Q.length cq) rfl rfl (by kernel_rfl) (by kernel_rfl) (by kernel_rfl) rfl (by kernel_rfl) (fun _ _ _ h => h) (by kernel_rfl) ?_ hSd ?_; (intro w' hSw; have s1 := hSw.1.cell 1 _ rfl; clear hSw; go_simp); simp only [lsz, lss])
  (refine late_take 4 61 (.int .i64 (pl : Int)) rfl rfl (by kernel_rfl) (by kernel_rfl) (by kernel_rfl) rfl (by kernel_rfl) (fun _ _ _ h => h) (by kernel_rfl) ?_ hSd ?_; (intro w' hSw; clear hSw; first | rfl | go_simp); simp only [lsz, lss])
  (refine late_take 5 62 (.pointer (some ⟨g, 0, none⟩)) rfl rfl (by kernel_rfl) (by kernel_rfl) (by kernel_rfl) rfl (by kernel_rfl) (fun _ _ _ h => h) (by kernel_rfl) ?_ hSd ?_; (intro w' hSw; clear hSw; first | rfl | go_simp); simp only [lsz, lss])
  (refine late_take 6 63 (.pointer (some ⟨g, 0, none⟩)) rfl rfl (by kernel_rfl) (by kernel_rfl) (by kernel_rfl) rfl (by kernel_rfl) (fun _ _ _ h => h) (by kernel_rfl) ?_ hSd ?_; (intro w' hSw; clear hSw; first | rfl | go_simp); simp only [lsz, lss])
  (refine late_take 7 64 (.pointer (some ⟨g, 1, none⟩)) rfl rfl (by kernel_rfl) (by kernel_rfl) (by kernel_rfl) rfl (by kernel_rfl) (fun _ _ _ h => h) (by kernel_rfl) ?_ hSd ?_; (intro w' hSw; clear hSw; first | rfl | go_simp); simp only [lsz, lss])
  (refine late_take 8 65 (.slice (some ⟨gq, off, none⟩) Q.length cq) rfl rfl (by kernel_rfl) (by kernel_rfl) (by kernel_rfl) rfl (by kernel_rfl) (fun _ _ _ h => h) (by kernel_rfl) ?_ hSd ?_; (intro w' hSw; have s1 := hSw.1.cell 1 _ rfl; clear hSw; go_simp); simp only [lsz, lss])
  (refine late_take 9 66 (.int .i64 (pl : Int)) rfl rfl (by kernel_rfl) (by kernel_rfl) (by kernel_rfl) rfl (by kernel_rfl) (fun _ _ _ h => h) (by kernel_rfl) ?_ hSd ?_; (intro w' hSw; clear hSw; first | rfl | go_simp); simp only [lsz, lss])
  (refine late_take 10 67 (.pointer (some ⟨gq, off + pl * 4, none⟩)) rfl rfl (by kernel_rfl) (by kernel_rfl) (by kernel_rfl) rfl (by kernel_rfl) (fun _ _ _ h => h) (by kernel_rfl) ?_ hSd ?_; (intro w' hSw; clear hSw; go_simp); simp only [lsz, lss])
  (refine late_take 11 68 (.pointer (some ⟨gq, off + pl * 4 + 1, none⟩)) rfl rfl (by kernel_rfl) (by kernel_rfl) (by kernel_rfl) rfl (by kernel_rfl) (fun _ _ _ h => h) (by kernel_rfl) ?_ hSd ?_; (intro w' hSw; clear hSw; first | rfl | go_simp); simp only [lsz, lss])
  (refine late_take 12 69 (.slice ak L.length ck) rfl rfl (by kernel_rfl) (by kernel_rfl) (by kernel_rfl) rfl (by kernel_rfl) (fun _ _ _ h => h) (by kernel_rfl) ?_ hSd ?_; (intro w' hSw; obtain ⟨s2, s3⟩ := hSw.2.1; clear hSw; go_simp); simp only [lsz, lss])
  (refine late_take 13 70 (.agg #[.int .i64 t, .slice pr res.length cr]) rfl rfl (by kernel_rfl) (by kernel_rfl) (by kernel_rfl) rfl (by kernel_rfl) (fun _ _ _ h => h) (by kernel_rfl) ?_ hSd ?_; (intro w' hSw; have s4 := hSw.2.2.cell 0 _ rfl; have s5 := hSw.2.2.cell 1 _ rfl; clear hSw; go_simp); simp only [lsz, lss])
  refine late_ready (rs := [14]) (by kernel_rfl) (by simp) (.cons rfl true rfl (fun K hK => ?_) .nil)
  rw [if_pos (by kernel_rfl)]
  go_simp
  have hba := (Below.refl Z.heap.size Z).alloc (Nat.le_refl _) (.cells #[.int .i64 t, .slice pr res.length cr] 34)
  have HNew := Lib.hid (Blk.new Z [.int .i64 t, .slice pr res.length cr] 34)
  have HZ1 := Lib.hid (HZ.out.trans (hba.mono HZ.out.size))
  obtain ⟨gN, hgN⟩ : ∃ z, Z.heap.size = z := ⟨_, rfl⟩
  obtain ⟨Z1, hZ1⟩ : ∃ z, Z.alloc (.cells #[.int .i64 t, .slice pr res.length cr] 34) = z := ⟨_, rfl⟩
  rw [show (Z.alloc (.cells ([.int .i64 t, .slice pr res.length cr] : List Value).toArray 34)) = Z1 from hZ1, hgN] at HNew
  rw [hgN]
  rw [hZ1] at HZ1 ⊢
  clear hZ1 hgN hba
  have hSd := keepS HZ1.out
  refine hK.out _ _ (fun _ => hSd) ?_
  clear hK K
  (try simp only [Act.put, lsa, lsz, lss])
  refine late_ready (rs := [15]) (by kernel_rfl) (by simp) (.cons rfl true rfl (fun K hK => ?_) .nil)
  rw [if_pos (by kernel_rfl)]
  refine wp_append_src _ _ _ _ rfl base 34 i0 _ 2 32 Tryz.underlying37 hi hz0 hz1 hz2 rfl (by decide) _ L.length _ rfl (HKY.out.keep HZ1.out).1 _ 1 (tRow (⟨t, res⟩, .slice pr res.length cr)) rfl (srcB HNew.out rfl) (by intro u hu; simp [tRow] at hu; rcases hu with rfl | rfl <;> rfl) (by unfold maxLen; omega) (by omega) (by have := HZ1.out.size; have := HY.out.lo; omega) ?_
  intro v4 X4 hown4 hg4 hat4
  obtain ⟨a4, c4, rfl⟩ := ownsRow_slice hown4
  have HO4 := Lib.hid ((OffM.of (M := fun k => (Value.slice ak L.length ck).ownBlock = some k) HZ1.out).trans (OffM.grown hg4) (fun k _ hk => hk))
  have HK4 := Lib.hid (show OwnTd base base X4 (.slice a4 (L.length + 1) c4) (L ++ [((⟨t, res⟩, .slice pr res.length cr) : TV)]) from OwnTd.app (HKY.out.keep HZ1.out) (Nat.le_refl _) ((HRY.out.keep HZ1.out)) (by simpa using hown4) hg4)
  have HAt := Lib.hid (show (Value.slice a4 (L.length + 1) c4).ownBlock = (Value.slice ak L.length ck).ownBlock ∨ (Value.slice a4 (L.length + 1) c4).ownBlock = some Z1.heap.size from hat4)
  have hkft : ∀ j, (Value.slice ak L.length ck).ownBlock = some j → TyB Y j 34 := fun j hj => own_ty HKY.out.1 hj
  have hgqb : X4.heap[gq]? = Y.heap[gq]? := HO4.out.block _ HcY.out.2 (fun hk => (hkft _ hk).ne HtyY.out (by decide) rfl)
  have HgqB := Lib.hid hgqb
  have hSd : Blk X4 g 59 (boardR b.room b.id (.slice (some ⟨gq, off, none⟩) Q.length cq) sv) ∧ (X4.cell? ⟨gq, off + pl * 4 + 1, none⟩ = some (.slice ak L.length ck) ∧ gq < X4.heap.size) ∧ Blk X4 gB 34 [.int .i64 t, .slice pr res.length cr] := ⟨(HO4.out.block _ HY.out.m.blk.lt (fun hk => (hkft _ hk).ne HY.out.m.blk.ty (by decide) rfl)).trans HY.out.m.blk, ⟨by have h9 := HcY.out.1; unfold World.cell? at h9 ⊢; rw [hgqb]; exact h9, Nat.lt_of_lt_of_le HcY.out.2 HO4.out.size⟩, (HO4.out.block _ HBY.out.lt (fun hk => HgbNe.out gB (.inr (.inr (.inr ⟨_, List.mem_of_getElem? He0.out, hk⟩))) rfl)).trans HBY.out⟩
  clear hown4 hg4 hat4 hgqb hkft
  refine hK.out _ _ (fun _ => hSd) ?_
  clear hK K
  (try simp only [Act.put, lsa, lsz, lss])
  refine late_ready (rs := [16]) (by kernel_rfl) (by simp) (.cons rfl true rfl (fun K hK => ?_) .nil)
  rw [if_pos (by kernel_rfl)]
  go_simp
  refine hK.out _ _ (fun _ => hSd) ?_
  clear hK K
  (try simp only [Act.put, lsa, lsz, lss])
  refine late_ready (rs := [17]) (by kernel_rfl) (by simp) (.cons rfl true rfl (fun K hK => ?_) .nil)
  rw [if_pos (by kernel_rfl)]
  go_simp
  refine hK.out _ _ (fun _ => hSd) ?_
  clear hK K
  (try simp only [Act.put, lsa, lsz, lss])
  have hgx := hSd.2.1.2
  have k2 := hSd.2.1.1
  have hqr := HY.out.m.q
  have hq4 : X4.ownsRow base 68 4 (.slice (some ⟨gq, off, none⟩) Q.length cq) Q.length (Q.map qRow).flatten := ownsRow_offM hqr HO4.out (fun j hj hk => by
    have h8 := own_ty HKY.out.1 hk
    exact h8.ne (HY.out.m.tyQ hj).2 (by decide) rfl)
  have HQ4 := Lib.hid hq4
  have fr2 : X4.frozen? ⟨gq, off + pl * 4 + 1, none⟩ = false := by
    obtain ⟨g9, o9, hp9, -, -, -, -, -, hfz⟩ := own_row hq4 (List.length_map _) (qRow_len Q) (k := pl) (row := qRow ⟨id2, L, lst, fl, bk, .slice ak L.length ck⟩) (by rw [List.getElem?_map, He0.out]; rfl)
    cases hp9
    exact hfz _
  clear hqr hq4
  refine late_ready (rs := [18]) (by kernel_rfl) (by simp) (.cons rfl false rfl (fun K hK => ?_) .nil)
  rw [if_pos (by kernel_rfl)]
  go_simp
  refine hK.out _ _ (fun h => by cases h) ?_
  clear hK K
  (try simp only [Act.put, lsa, lsz, lss])
  refine late_done (by kernel_rfl) ?_ _
  have hgN1 : g ≠ gq := HY.out.m.blk.ty.ne HtyY.out (by decide)
  have hgN2 : gB ≠ gq := fun e => HgbNe.out gq (.inr (.inl rfl)) e.symm
  have HT4 := Lib.hid (HtyY.out.same HgqB.out)
  have hq5 := own_set_row Hoff.out HQ4.out (qRow_len Q) (j := 1) (by decide) (k := pl) (row := qRow ⟨id2, L, lst, fl, bk, .slice ak L.length ck⟩) (by rw [List.getElem?_map, He0.out]; rfl) (.slice a4 (L.length + 1) c4)
  have HB5 := Lib.hid (hSd.1.far (p := ⟨gq, off + pl * 4 + 1, none⟩) hgN1 (.slice a4 (L.length + 1) c4))
  have HBB5 := Lib.hid (hSd.2.2.far (p := ⟨gq, off + pl * 4 + 1, none⟩) hgN2 (.slice a4 (L.length + 1) c4))
  have HK5 := Lib.hid (HK4.out.off (OffM.cell1 X4 gq (off + pl * 4 + 1) (.slice a4 (L.length + 1) c4)) (blk_quiet HT4.out Hbgq.out (by decide) (by decide)) (fun j hj e => (own_ty HK4.out.1 hj).ne HT4.out (by decide) e))
  have HO5 := Lib.hid ((HO4.out.more (N := fun j => (Value.slice (some ⟨gq, off, none⟩) Q.length cq).ownBlock = some j ∨ (Value.slice ak L.length ck).ownBlock = some j) (fun k _ h => .inr h)).trans (OffM.cell1 X4 gq (off + pl * 4 + 1) (.slice a4 (L.length + 1) c4)) (fun k _ e => .inl (by rw [e]; rfl)))
  have HT5 := Lib.hid (show TyB (X4.setCell ⟨gq, off + pl * 4 + 1, none⟩ (.slice a4 (L.length + 1) c4)) gq 68 from own_ty hq5 rfl)
  have HQ5 := Lib.hid hq5
  clear hSd k2 fr2 hgx hq5 keepS
  obtain ⟨X5, hX5⟩ : ∃ z, X4.setCell ⟨gq, off + pl * 4 + 1, none⟩ (.slice a4 (L.length + 1) c4) = z := ⟨_, rfl⟩
  rw [hX5] at HB5 HBB5 HK5 HO5 HT5 HQ5 ⊢
  clear hX5
  have c1 : X5.cell? ⟨g, 1, none⟩ = some (.slice (some ⟨gq, off, none⟩) Q.length cq) := HB5.out.cell 1 _ rfl
  have hg := HB5.out.lt
  have k0 : X5.cell? ⟨gB, 0, none⟩ = some (.int .i64 t) := HBB5.out.cell 0 _ rfl
  have hgb := HBB5.out.lt
  have hgq5 := HT5.out.lt
  have e2 : ∃ z, X5.cell? ⟨gq, off + pl * 4 + 2, none⟩ = some z := by
    obtain ⟨g9, o9, hp9, -, -, -, -, hcz, -⟩ := own_row HQ5.out (by rw [List.length_set, List.length_map]) (fun r hr => by
      rcases List.mem_or_eq_of_mem_set hr with h9 | rfl
      · exact qRow_len Q r h9
      · rfl) (k := pl) (row := (qRow ⟨id2, L, lst, fl, bk, .slice ak L.length ck⟩).set 1 (.slice a4 (L.length + 1) c4)) (List.getElem?_set_self (by rw [List.length_map]; exact hpq))
    cases hp9
    exact ⟨_, hcz 2 _ rfl⟩
  obtain ⟨z2, e2⟩ := e2
  have f2 : X5.frozen? ⟨gq, off + pl * 4 + 2, none⟩ = false := by
    obtain ⟨g9, o9, hp9, -, -, -, -, -, hfz⟩ := own_row HQ5.out (by rw [List.length_set, List.length_map]) (fun r hr => by
      rcases List.mem_or_eq_of_mem_set hr with h9 | rfl
      · exact qRow_len Q r h9
      · rfl) (k := pl) (row := (qRow ⟨id2, L, lst, fl, bk, .slice ak L.length ck⟩).set 1 (.slice a4 (L.length + 1) c4)) (List.getElem?_set_self (by rw [List.length_map]; exact hpq))
    cases hp9
    exact hfz _
  go_wp2_with fail
  go_region
  have hq6 := own_set_row Hoff.out HQ5.out (fun r hr => by
    rcases List.mem_or_eq_of_mem_set hr with h9 | rfl
    · exact qRow_len Q r h9
    · rfl) (j := 2) (by decide) (k := pl) (row := (qRow ⟨id2, L, lst, fl, bk, .slice ak L.length ck⟩).set 1 (.slice a4 (L.length + 1) c4)) (List.getElem?_set_self (by rw [List.length_map]; exact hpq)) (.int .i64 t)
  have hq6' : (X5.setCell ⟨gq, off + pl * 4 + 2, none⟩ (.int .i64 t)).ownsRow base 68 4 (.slice (some ⟨gq, off, none⟩) Q.length cq) Q.length ((Q.set pl ⟨id2, L ++ [((⟨t, res⟩, .slice pr res.length cr) : TV)], t, fl, bk, .slice a4 (L.length + 1) c4⟩).map qRow).flatten := by
    rw [List.map_set]
    rw [List.set_set] at hq6
    exact hq6
  obtain ⟨h6, h7⟩ := HY.out.setQ (W' := X5.setCell ⟨gq, off + pl * 4 + 2, none⟩ (.int .i64 t)) (e' := ⟨id2, L ++ [((⟨t, res⟩, .slice pr res.length cr) : TV)], t, fl, bk, .slice a4 (L.length + 1) c4⟩) He0.out (HO5.out.trans (OffM.cell1 X5 gq (off + pl * 4 + 2) (.int .i64 t)) (fun k _ e => .inl (by rw [e]; rfl))) (fun j _ hj => hj) hq6' (HK5.out.off (OffM.cell1 X5 gq (off + pl * 4 + 2) (.int .i64 t)) (blk_quiet HT5.out Hbgq.out (by decide) (by decide)) (fun j hj e => (own_ty HK5.out.1 hj).ne HT5.out (by decide) e)) (fun k hk => by
    rcases HAt.out with h9 | h9
    · exact .inl (show (Value.slice ak L.length ck).ownBlock = some k from h9.symm.trans hk)
    · have hk' : (Value.slice a4 (L.length + 1) c4).ownBlock = some k := hk
      rw [h9] at hk'; cases hk'; exact .inr HZ1.out.size) (fun x => { x with l := x.l ++ [⟨t, res⟩], last := t }) (by unfold QE.qy; simp only [List.map_append, List.map_cons, List.map_nil]) HIn.out
  have h8 := h6.keep (Below.drew (Below.refl _ _))
  have HT := Lib.hid (h7.trans (Turn.of (Below.drew (Below.refl _ _))))
  have HL := Lib.hid (rLet h8 (pl := pl) (e := ⟨id2, L ++ [((⟨t, res⟩, .slice pr res.length cr) : TV)], t, fl, bk, .slice a4 (L.length + 1) c4⟩) (List.getElem?_set_self hpq))
  clear h6 h7 h8 hq6 hq6' c1 hg k0 hgb e2 f2 hgq5
  obtain ⟨X6, hX6⟩ : ∃ z, (X5.setCell ⟨gq, off + pl * 4 + 2, none⟩ (.int .i64 t)).drew = z := ⟨_, rfl⟩
  rw [hX6] at HT HL ⊢
  clear hX6
  go_wp2_with fail
  refine HL.out.mono ?_
  rintro r w9 ⟨rfl, hp⟩
  have HP9 := Lib.hid (PostB.trans ((Turn.of HBeY.out).trans HT.out) hp); clear hp
  go_wp2
  go_ret
  have hp := HPc.out
  subst hp
  exact ⟨rfl, HP9.out⟩
end
end Go.Proofs.YtfmolimnnheaoaaGreat
