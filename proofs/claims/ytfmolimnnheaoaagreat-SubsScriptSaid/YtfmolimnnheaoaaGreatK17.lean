/- The document's Back, Ack, add, Subscribe, Resume. -/
import Derived.Test.YtfmolimnnheaoaaGreatK16
import Derived.Test.YtfmolimnnheaoaaGreatK1
import Derived.RegionTactic
import Derived.BigRegion
namespace Go.Proofs.YtfmolimnnheaoaaGreat
open Go.RowKit
set_option linter.unusedSimpArgs false
set_option linter.unusedVariables false

section
variable {base : Nat} {W W' : World} {g : Nat} {b b' : GB} {qv sv qv' sv' : Value} {Q : List QE} {M F F1 : Nat → Prop}
theorem turnU_set (h : GInv b) {k : Nat} {s : Su} (hk : b.s[k]? = some s) (f : Su → Su) : turnU s.id f b.s = b.s.set k (f s) := turn_set (key := Su.id) h.ss hk rfl f
/-- A cell of a subscriber's row is stored. -/
theorem StJ.cellS {gs off cs : Nat} (h : StJ base g W b qv (.slice (some ⟨gs, off, none⟩) b.s.length cs) Q) (hoff : off = 0) {k : Nat} {s : Su} (hk : b.s[k]? = some s) {j : Nat} (hj : j < 4) {u : Value} (f : Su → Su) (hf : subV (f s) = (subV s).set j u) (hid : (f s).id = s.id) (hinv : GInv { b with s := turnU s.id f b.s }) :
    StJ base g (W.setCell ⟨gs, off + k * 4 + j, none⟩ u) { b with s := turnU s.id f b.s } qv (.slice (some ⟨gs, off, none⟩) b.s.length cs) Q ∧ Turn (FootR g qv (.slice (some ⟨gs, off, none⟩) b.s.length cs) Q) W (FootR g qv (.slice (some ⟨gs, off, none⟩) b.s.length cs) Q) (W.setCell ⟨gs, off + k * 4 + j, none⟩ u) := by
  have hgs := h.m.tyS (k := gs) rfl
  have e0 := turnU_set h.inv hk f
  refine h.setS (M := fun j => j = gs) (OffM.cell1 W gs (off + k * 4 + j) u) (fun j _ hj => .inl (by rw [hj]; rfl)) ?_ ?_ (fun k hk => .inl hk) hinv h.num
  · exact h.m.blk.far (p := ⟨gs, off + k * 4 + j, none⟩) (h.m.blk.ty.ne hgs.2 (by decide)) _
  · have h1 := own_set_row hoff h.m.s (subV_len b.s) hj (k := k) (row := subV s) (by rw [List.getElem?_map, hk]; rfl) u
    unfold OwnSu
    rw [e0, List.length_set, List.map_set, hf]
    exact h1
set_option maxRecDepth 100000 in
set_option maxHeartbeats 4000000 in
theorem rBack {n : Int} (h : StJ base g W b qv sv Q) : Calls Tryz.prog 22 #[.pointer (some ⟨g, 0, none⟩), .int .i64 n] W fun r w' => r = .returned (.int .i64 (backG b n).2) ∧ PostB base g (FootR g qv sv Q) W (backG b n).1 w' := by
  obtain ⟨i, hi, hc⟩ := rSub (n := n) h
  have HF := Lib.hid hc
  have HIn := Lib.hid (inv_back h.inv n)
  clear hc
  rcases hi with ⟨hf, rfl⟩ | ⟨k, s, hk, rfl, rfl⟩
  · have e0 : backG b n = (b, 6) := by unfold backG; rw [hf]
    rw [e0]
    have H := Lib.hid h
    clear e0 hf h HIn
    go_enter Tryz.func22, Tryz.ntmps22; (try simp only [List.append_eq, List.cons_append, List.nil_append])
    go_wp2_with fail
    refine HF.out.mono ?_
    rintro r w2 ⟨rfl, rfl⟩
    go_wp2
    go_ret
    exact ⟨rfl, PostB.below H.out (Below.refl _ _)⟩
  · have e0 : backG b s.id = ({ b with s := turnU s.id (fun s => { s with cursor := s.acked }) b.s }, 0) := by unfold backG; rw [h.findU_at hk]
    rw [e0] at HIn ⊢
    have H := Lib.hid h; have Hk := Lib.hid hk
    have hsf := h.inv.few
    have hkl := (List.getElem?_eq_some_iff.1 hk).1
    obtain ⟨gs, off, cs, rfl, hoff, hgs, -, -, d0, d1, d2, d3, hfr⟩ := h.rowS hk
    have c2 : W.cell? ⟨g, 2, none⟩ = some (.slice (some ⟨gs, off, none⟩) b.s.length cs) := h.m.blk.cell 2 _ rfl
    have hg := h.m.blk.lt
    have f2 := hfr (off + k * 4 + 2)
    have Hoff := Lib.hid hoff
    clear e0 h hk hfr hoff
    go_enter Tryz.func22, Tryz.ntmps22; (try simp only [List.append_eq, List.cons_append, List.nil_append])
    go_wp2_with fail
    refine HF.out.mono ?_
    rintro r w2 ⟨rfl, rfl⟩
    go_wp2_with fail
    go_region
    go_wp2
    go_ret
    obtain ⟨h5, h6⟩ := H.out.cellS Hoff.out Hk.out (j := 2) (by decide) (u := .int .i64 s.acked) (fun s => { s with cursor := s.acked }) rfl rfl HIn.out
    exact ⟨rfl, _, (h5.keep (Below.drew (Below.refl _ _))).st, h6.trans (Turn.of (Below.drew (Below.refl _ _)))⟩
set_option maxRecDepth 100000 in
set_option maxHeartbeats 8000000 in
theorem rAdd {id frm : Int} (h : StJ base g W b qv sv Q) (hf : 0 ≤ frm ∧ frm ≤ maxG) (hq' : ∃ x ∈ b.q, x.id = id) (hi9 : b.id + 1 ≤ 10000) :
    Calls Tryz.prog 37 #[.pointer (some ⟨g, 0, none⟩), .int .i64 id, .int .i64 frm] W fun e w' => e = .returned (.tuple #[.int .i64 (addG b id frm).2.1, .int .i64 (addG b id frm).2.2]) ∧ PostB base g (FootR g qv sv Q) W (addG b id frm).1 w' := by
  have H := Lib.hid h
  have hg := h.m.blk.lt
  obtain ⟨ps, cs, rfl⟩ := h.sliceS
  have c2 : W.cell? ⟨g, 2, none⟩ = some (.slice ps b.s.length cs) := h.m.blk.cell 2 _ rfl
  have c3 : W.cell? ⟨g, 3, none⟩ = some (.int .i64 b.id) := h.m.blk.cell 3 _ rfl
  have f3 := h.m.blk.free 3
  have hsf := h.inv.few
  have hnum : 0 ≤ b.id ∧ b.id ≤ 10000 := ⟨h.inv.id0, h.num⟩
  have HIn := Lib.hid (h.inv.add hf hq')
  by_cases hl : 256 ≤ b.s.length
  · have hli : (256 : Int) ≤ (b.s.length : Int) := by omega
    have e0 : addG b id frm = (b, 0, 3) := by unfold addG; rw [if_pos hl]
    rw [e0]
    clear h hf hq' e0 HIn
    go_enter Tryz.func37, Tryz.ntmps37; (try simp only [List.append_eq, List.cons_append, List.nil_append])
    go_wp2
    go_ret2
    exact ⟨rfl, PostB.below H.out (Below.refl _ _)⟩
  · have hli : ¬ (256 : Int) ≤ (b.s.length : Int) := by omega
    have e0 : addG b id frm = ({ b with s := b.s ++ [⟨b.id + 1, id, frm, frm⟩], id := b.id + 1 }, b.id + 1, 0) := by unfold addG; rw [if_neg hl]
    rw [e0] at HIn ⊢
    clear h hf hq' e0 hl
    obtain ⟨i0, hi, hz0, hz1, hz2⟩ := info_parts infoSub
    go_enter Tryz.func37, Tryz.ntmps37; (try simp only [List.append_eq, List.cons_append, List.nil_append])
    go_upto_region 4 with fail
    have HoY := Lib.hid (OffM.cell1 W g 3 (.int .i64 (b.id + 1)))
    have HBk := Lib.hid (show Blk (W.setCell ⟨g, 3, none⟩ (.int .i64 (b.id + 1))) g 59 (boardR b.room (b.id + 1) qv (.slice ps b.s.length cs)) from H.out.m.blk.set_ 3 _)
    have HOw := Lib.hid (show (W.setCell ⟨g, 3, none⟩ (.int .i64 (b.id + 1))).ownsRow base 73 4 (.slice ps b.s.length cs) b.s.length (b.s.map subV).flatten from ownsRow_offM H.out.m.s HoY.out (fun k hk e => (H.out.m.tyS hk).2.ne H.out.m.blk.ty (by decide) e))
    have Hlo := Lib.hid (Nat.le_trans H.out.lo HoY.out.size)
    obtain ⟨Y, hY⟩ : ∃ z, W.setCell ⟨g, 3, none⟩ (.int .i64 (b.id + 1)) = z := ⟨_, rfl⟩
    rw [hY] at HoY HBk HOw Hlo ⊢
    clear hY c2 c3 f3 hg
    refine wp_region_late [17] (fun X => Blk X g 59 (boardR b.room (b.id + 1) qv (.slice ps b.s.length cs))) (by kernel_rfl) ?_
    have hSd := HBk.out.drew
    have HZ := Lib.hid (Below.drew (Below.refl Y.heap.size Y))
    obtain ⟨Z, hZ⟩ : ∃ z, Y.drew = z := ⟨_, rfl⟩
    rw [hZ] at hSd HZ ⊢
    clear hZ
    (refine late_take 0 21 (.pointer (some ⟨g, 0, none⟩)) rfl rfl (by kernel_rfl) (by kernel_rfl) (by kernel_rfl) rfl (by kernel_rfl) (fun _ _ _ h => h) (by kernel_rfl) ?_ hSd ?_; (intro w' hSw; clear hSw; first | rfl | go_simp); simp only [lsz, lss])
    (refine late_take 1 22 (.pointer (some ⟨g, 0, none⟩)) rfl rfl (by kernel_rfl) (by kernel_rfl) (by kernel_rfl) rfl (by kernel_rfl) (fun _ _ _ h => h) (by kernel_rfl) ?_ hSd ?_; (intro w' hSw; clear hSw; first | rfl | go_simp); simp only [lsz, lss])
    (refine late_take 2 23 (.pointer (some ⟨g, 0, none⟩)) rfl rfl (by kernel_rfl) (by kernel_rfl) (by kernel_rfl) rfl (by kernel_rfl) (fun _ _ _ h => h) (by kernel_rfl) ?_ hSd ?_; (intro w' hSw; clear hSw; first | rfl | go_simp); simp only [lsz, lss])
    (refine late_take 3 24 (.pointer (some ⟨g, 2, none⟩)) rfl rfl (by kernel_rfl) (by kernel_rfl) (by kernel_rfl) rfl (by kernel_rfl) (fun _ _ _ h => h) (by kernel_rfl) ?_ hSd ?_; (intro w' hSw; clear hSw; first | rfl | go_simp); simp only [lsz, lss])
    (refine late_take 4 25 (.slice ps b.s.length cs) rfl rfl (by kernel_rfl) (by kernel_rfl) (by kernel_rfl) rfl (by kernel_rfl) (fun _ _ _ h => h) (by kernel_rfl) ?_ hSd ?_; (intro w' hSw; have s2 := hSw.cell 2 _ rfl; clear hSw; go_simp); simp only [lsz, lss])
    (refine late_take 5 26 (.pointer (some ⟨g, 0, none⟩)) rfl rfl (by kernel_rfl) (by kernel_rfl) (by kernel_rfl) rfl (by kernel_rfl) (fun _ _ _ h => h) (by kernel_rfl) ?_ hSd ?_; (intro w' hSw; clear hSw; first | rfl | go_simp); simp only [lsz, lss])
    (refine late_take 6 27 (.pointer (some ⟨g, 0, none⟩)) rfl rfl (by kernel_rfl) (by kernel_rfl) (by kernel_rfl) rfl (by kernel_rfl) (fun _ _ _ h => h) (by kernel_rfl) ?_ hSd ?_; (intro w' hSw; clear hSw; first | rfl | go_simp); simp only [lsz, lss])
    (refine late_take 7 28 (.pointer (some ⟨g, 3, none⟩)) rfl rfl (by kernel_rfl) (by kernel_rfl) (by kernel_rfl) rfl (by kernel_rfl) (fun _ _ _ h => h) (by kernel_rfl) ?_ hSd ?_; (intro w' hSw; clear hSw; first | rfl | go_simp); simp only [lsz, lss])
    (refine late_take 8 29 (.int .i64 (b.id + 1)) rfl rfl (by kernel_rfl) (by kernel_rfl) (by kernel_rfl) rfl (by kernel_rfl) (fun _ _ _ h => h) (by kernel_rfl) ?_ hSd ?_; (intro w' hSw; have s3 := hSw.cell 3 _ rfl; clear hSw; go_simp); simp only [lsz, lss])
    (refine late_take 9 30 (.int .i64 id) rfl rfl (by kernel_rfl) (by kernel_rfl) (by kernel_rfl) rfl (by kernel_rfl) (fun _ _ _ h => h) (by kernel_rfl) ?_ hSd ?_; (intro w' hSw; clear hSw; first | rfl | go_simp); simp only [lsz, lss])
    (refine late_take 10 31 (.int .i64 frm) rfl rfl (by kernel_rfl) (by kernel_rfl) (by kernel_rfl) rfl (by kernel_rfl) (fun _ _ _ h => h) (by kernel_rfl) ?_ hSd ?_; (intro w' hSw; clear hSw; first | rfl | go_simp); simp only [lsz, lss])
    (refine late_take 11 32 (.int .i64 frm) rfl rfl (by kernel_rfl) (by kernel_rfl) (by kernel_rfl) rfl (by kernel_rfl) (fun _ _ _ h => h) (by kernel_rfl) ?_ hSd ?_; (intro w' hSw; clear hSw; first | rfl | go_simp); simp only [lsz, lss])
    (refine late_take 12 33 (.agg #[.int .i64 (b.id + 1), .int .i64 id, .int .i64 frm, .int .i64 frm]) rfl rfl (by kernel_rfl) (by kernel_rfl) (by kernel_rfl) rfl (by kernel_rfl) (fun _ _ _ h => h) (by kernel_rfl) ?_ hSd ?_; (intro w' hSw; clear hSw; first | rfl | go_simp); simp only [lsz, lss])
    refine late_ready (rs := [13]) (by kernel_rfl) (by simp) (.cons rfl true rfl (fun K hK => ?_) .nil)
    rw [if_pos (by kernel_rfl)]
    go_simp
    have hba := (Below.refl Z.heap.size Z).alloc (Nat.le_refl _) (.cells #[.int .i64 (b.id + 1), .int .i64 id, .int .i64 frm, .int .i64 frm] 73)
    have HNew := Lib.hid (Blk.new Z [.int .i64 (b.id + 1), .int .i64 id, .int .i64 frm, .int .i64 frm] 73)
    have HZ1 := Lib.hid (HZ.out.trans (hba.mono HZ.out.size))
    obtain ⟨gN, hgN⟩ : ∃ z, Z.heap.size = z := ⟨_, rfl⟩
    obtain ⟨Z1, hZ1⟩ : ∃ z, Z.alloc (.cells #[.int .i64 (b.id + 1), .int .i64 id, .int .i64 frm, .int .i64 frm] 73) = z := ⟨_, rfl⟩
    rw [show (Z.alloc (.cells ([.int .i64 (b.id + 1), .int .i64 id, .int .i64 frm, .int .i64 frm] : List Value).toArray 73)) = Z1 from hZ1, hgN] at HNew
    rw [hgN] at ⊢
    rw [hZ1] at HZ1 ⊢
    clear hZ1 hgN hba
    have hSd := HBk.out.keep HZ1.out
    refine hK.out _ _ (fun _ => hSd) ?_
    clear hK K
    (try simp only [Act.put, lsa, lsz, lss])
    refine late_ready (rs := [14]) (by kernel_rfl) (by simp) (.cons rfl true rfl (fun K hK => ?_) .nil)
    rw [if_pos (by kernel_rfl)]
    refine wp_append_src _ _ _ _ rfl base 73 i0 _ 4 32 Tryz.underlying57 hi hz0 hz1 hz2 rfl (by decide) _ b.s.length _ rfl (ownsRow_keep HOw.out HZ1.out) _ 1 (subV ⟨b.id + 1, id, frm, frm⟩) rfl (srcB HNew.out rfl) (sub_one _) (by unfold maxLen; omega) (by omega) (by have := HZ1.out.size; have := Hlo.out; omega) ?_
    intro v4 X4 hown4 hg4 hat4
    obtain ⟨a4, c4, rfl⟩ := ownsRow_slice hown4
    have HO4 := Lib.hid ((OffM.of (M := fun k => (Value.slice ps b.s.length cs).ownBlock = some k) HZ1.out).trans (OffM.grown hg4) (fun k _ hk => hk))
    have HOw4 := Lib.hid (show OwnSu base X4 (.slice a4 (b.s.length + 1) c4) (b.s ++ [⟨b.id + 1, id, frm, frm⟩]) from by unfold OwnSu; rw [List.length_append, List.map_append, List.flatten_append]; simpa using hown4)
    have HAt := Lib.hid (show (Value.slice a4 (b.s.length + 1) c4).ownBlock = (Value.slice ps b.s.length cs).ownBlock ∨ (Value.slice a4 (b.s.length + 1) c4).ownBlock = some Z1.heap.size from hat4)
    have hSd : Blk X4 g 59 (boardR b.room (b.id + 1) qv (.slice ps b.s.length cs)) := (HO4.out.block _ HBk.out.lt (fun hk => (own_ty HOw.out hk).ne HBk.out.ty (by decide) rfl)).trans HBk.out
    clear hown4 hg4 hat4
    refine hK.out _ _ (fun _ => hSd) ?_
    clear hK K
    (try simp only [Act.put, lsa, lsz, lss])
    refine late_ready (rs := [15]) (by kernel_rfl) (by simp) (.cons rfl true rfl (fun K hK => ?_) .nil)
    rw [if_pos (by kernel_rfl)]
    go_simp
    refine hK.out _ _ (fun _ => hSd) ?_
    clear hK K
    (try simp only [Act.put, lsa, lsz, lss])
    refine late_ready (rs := [16]) (by kernel_rfl) (by simp) (.cons rfl true rfl (fun K hK => ?_) .nil)
    rw [if_pos (by kernel_rfl)]
    go_simp
    refine hK.out _ _ (fun _ => hSd) ?_
    clear hK K
    (try simp only [Act.put, lsa, lsz, lss])
    have fr2 := hSd.free 2
    have k2 := hSd.cell 2 _ rfl
    have hgx := hSd.lt
    refine late_ready (rs := [17]) (by kernel_rfl) (by simp) (.cons rfl false rfl (fun K hK => ?_) .nil)
    rw [if_pos (by kernel_rfl)]
    go_simp
    refine hK.out _ _ (fun h => by cases h) ?_
    clear hK K
    (try simp only [Act.put, lsa, lsz, lss])
    refine late_done (by kernel_rfl) ?_ _
    have hB6 := hSd.set_ 2 (.slice a4 (b.s.length + 1) c4)
    have HB6 := Lib.hid (show Blk (X4.setCell ⟨g, 2, none⟩ (.slice a4 (b.s.length + 1) c4)) g 59 (boardR b.room (b.id + 1) qv (.slice a4 (b.s.length + 1) c4)) from hB6)
    have HO6 := Lib.hid (((HoY.out.more (N := fun j => (Value.slice ps b.s.length cs).ownBlock = some j ∨ j = g) (fun k _ e => .inr e)).trans HO4.out (fun k _ hk => .inl hk)).trans (OffM.cell1 X4 g 2 (.slice a4 (b.s.length + 1) c4)) (fun k _ e => .inr e))
    have hs6 : OwnSu base (X4.setCell ⟨g, 2, none⟩ (.slice a4 (b.s.length + 1) c4)) (.slice a4 (b.s.length + 1) c4) (b.s ++ [⟨b.id + 1, id, frm, frm⟩]) := ownsRow_offM HOw4.out (OffM.cell1 X4 g 2 _) (fun k hk e => (own_ty HOw4.out hk).ne hSd.ty (by decide) e)
    have HT := Lib.hid (H.out.setS HO6.out (fun j _ hj => hj) HB6.out hs6 (fun k hk => by
      rcases HAt.out with h9 | h9
      · exact .inl (by rw [← h9]; exact hk)
      · rw [h9] at hk; cases hk; exact .inr (by have := HZ1.out.size; have := HoY.out.size; omega)) HIn.out hi9)
    have k3 := HB6.out.cell 3 _ rfl
    have hg6 := HB6.out.lt
    clear hB6 hs6 hSd k2 fr2 hgx
    obtain ⟨X6, hX6⟩ : ∃ z, X4.setCell ⟨g, 2, none⟩ (.slice a4 (b.s.length + 1) c4) = z := ⟨_, rfl⟩
    rw [hX6] at HT k3 hg6 ⊢
    clear hX6 HB6 HO6
    go_wp2
    go_ret2
    exact ⟨rfl, _, HT.out.1.st, HT.out.2⟩
theorem StJ.qOf (h : StJ base g W b qv sv Q) {s : Su} (hs : s ∈ b.s) : ∃ (j : Nat) (e : QE), Q[j]? = some e ∧ e.id = s.query := by
  obtain ⟨-, -, x, hx, hid⟩ := h.inv.uok s hs
  rw [h.q] at hx
  obtain ⟨e, he, rfl⟩ := List.mem_map.1 hx
  obtain ⟨j, hj, rfl⟩ := List.getElem_of_mem he
  exact ⟨j, _, List.getElem?_eq_getElem hj, hid⟩
set_option maxRecDepth 100000 in
set_option maxHeartbeats 4000000 in
theorem rAck {n t : Int} (h : StJ base g W b qv sv Q) : Calls Tryz.prog 24 #[.pointer (some ⟨g, 0, none⟩), .int .i64 n, .int .i64 t] W fun r w' => r = .returned (.int .i64 (ackG b n t).2) ∧ PostB base g (FootR g qv sv Q) W (ackG b n t).1 w' := by
  obtain ⟨i, hi, hc⟩ := rSub (n := n) h
  have HF := Lib.hid hc
  have H := Lib.hid h
  clear hc
  rcases hi with ⟨hf, rfl⟩ | ⟨k, s, hk, rfl, rfl⟩
  · have e0 : ackG b n t = (b, 6) := by unfold ackG; rw [hf]
    rw [e0]
    clear e0 hf h
    go_enter Tryz.func24, Tryz.ntmps24; (try simp only [List.append_eq, List.cons_append, List.nil_append])
    go_wp2_with fail
    refine HF.out.mono ?_
    rintro r w2 ⟨rfl, rfl⟩
    go_wp2
    go_ret
    exact ⟨rfl, PostB.below H.out (Below.refl _ _)⟩
  · have hsf := h.inv.few
    have hkl := (List.getElem?_eq_some_iff.1 hk).1
    obtain ⟨gs, off, cs, rfl, hoff, hgs, -, -, d0, d1, d2, d3, hfr⟩ := h.rowS hk
    have c2 : W.cell? ⟨g, 2, none⟩ = some (.slice (some ⟨gs, off, none⟩) b.s.length cs) := h.m.blk.cell 2 _ rfl
    have hg := h.m.blk.lt
    have f3 := hfr (off + k * 4 + 3)
    clear hfr
    by_cases h1 : s.cursor < t
    · have e0 : ackG b s.id t = (b, 2) := by unfold ackG; rw [h.findU_at hk]; simp only; rw [if_pos h1]
      rw [e0]
      clear e0 h hk hoff
      go_enter Tryz.func24, Tryz.ntmps24; (try simp only [List.append_eq, List.cons_append, List.nil_append])
      go_wp2_with fail
      refine HF.out.mono ?_
      rintro r w2 ⟨rfl, rfl⟩
      go_wp2
      go_ret
      exact ⟨rfl, PostB.below H.out (Below.refl _ _)⟩
    by_cases h2 : t < s.acked
    · have e0 : ackG b s.id t = (b, 8) := by unfold ackG; rw [h.findU_at hk]; simp only; rw [if_neg h1, if_pos h2]
      rw [e0]
      clear e0 h hk hoff
      go_enter Tryz.func24, Tryz.ntmps24; (try simp only [List.append_eq, List.cons_append, List.nil_append])
      go_wp2_with fail
      refine HF.out.mono ?_
      rintro r w2 ⟨rfl, rfl⟩
      go_wp2
      go_ret
      exact ⟨rfl, PostB.below H.out (Below.refl _ _)⟩
    have e0 : ackG b s.id t = (letG { b with s := turnU s.id (fun s => { s with acked := t }) b.s } s.query, 0) := by unfold ackG; rw [h.findU_at hk]; simp only; rw [if_neg h1, if_neg h2]
    rw [e0]
    have hub := h.inv.uok s (List.mem_of_getElem? hk)
    have hmid : GInv { b with s := turnU s.id (fun s => { s with acked := t }) b.s } := h.inv.turnU s.id (fun s => ⟨rfl, rfl⟩) (fun u hu hid => by
      have := su_uniq h.inv hu (List.mem_of_getElem? hk) hid
      subst this
      have := hub.bd
      exact ⟨this.1, by simp only; omega, by simp only; omega⟩)
    obtain ⟨j, e, hj, he⟩ := h.qOf (List.mem_of_getElem? hk)
    obtain ⟨h6, h7⟩ := h.cellS hoff hk (j := 3) (by decide) (u := .int .i64 t) (fun s => { s with acked := t }) rfl rfl hmid
    have HT := Lib.hid h7
    have HL := Lib.hid (rLet h6 hj)
    rw [he] at HL
    have hsk := h6.rowS (k := k) (s := { s with acked := t }) (by show (turnU s.id _ b.s)[k]? = _; rw [turnU_set h.inv hk]; exact List.getElem?_set_self hkl)
    have hlen9 : (turnU s.id (fun s => { s with acked := t }) b.s).length = b.s.length := by rw [turnU_set h.inv hk, List.length_set]
    obtain ⟨gs', off', cs', hpp, -, hgs2, -, -, t0, t1, t2, t3, -⟩ := hsk
    simp only at hpp t1
    rw [hlen9] at hpp
    cases hpp
    have k2 : (W.setCell ⟨gs, off + k * 4 + 3, none⟩ (.int .i64 t)).cell? ⟨g, 2, none⟩ = some (.slice (some ⟨gs, off, none⟩) b.s.length cs) := h6.m.blk.cell 2 _ rfl
    have hg2 := h6.m.blk.lt
    clear e0 h hk hoff hmid h6 h7 hub hj he hlen9 t0 t2 t3
    go_enter Tryz.func24, Tryz.ntmps24; (try simp only [List.append_eq, List.cons_append, List.nil_append])
    go_wp2_with fail
    refine HF.out.mono ?_
    rintro r w2 ⟨rfl, rfl⟩
    go_upto_region 9 with fail
    obtain ⟨X, hX⟩ : ∃ z, w2.setCell ⟨gs, off + k * 4 + 3, none⟩ (.int .i64 t) = z := ⟨_, rfl⟩
    rw [hX] at HL HT t1 k2 hg2 hgs2 ⊢
    clear hX d0 d1 d2 d3 c2 hg f3 hgs
    go_wp2_with fail
    refine HL.out.mono ?_
    rintro r w9 ⟨rfl, hp⟩
    have HP := Lib.hid hp; clear hp
    go_wp2
    go_ret
    exact ⟨rfl, HP.out.trans HT.out⟩
end
end Go.Proofs.YtfmolimnnheaoaaGreat

/- The document's Subscribe, Resume, Open. -/
namespace Go.Proofs.YtfmolimnnheaoaaGreat
open Go.RowKit
set_option linter.unusedSimpArgs false
set_option linter.unusedVariables false

theorem rowsQU : Tryz.prog.underlying 56 = some (.slice (Tryz.prog.elem 56)) ∧ Tryz.prog.elem 56 = 68 := ⟨by simp [Program.elem, Tryz.underlying56], by simp [Program.elem, Tryz.underlying56]⟩
/-- l[k:]. -/
theorem cutRQ {w : World} {lo n c : Nat} {p : Option Addr} {rows : List (List Value)} (h : w.ownsRow lo 68 4 (.slice p n c) n rows.flatten) (hl : rows.length = n) (hr : ∀ r ∈ rows, r.length = 4) {k : Nat} (hk : k ≤ n) :
    ∃ pp cc, (∀ X : World, (Instr.slice 56 (.slice p n c) (some (.int .i64 (k : Int))) none none).run Tryz.prog X = .ok (.slice pp (n - k) cc) X) ∧ SrcN w (.slice pp (n - k) cc) 4 (n - k) (rows.drop k).flatten := by
  subst hl
  have hA : Arr w.heap.size w (.slice p rows.length c) 4 rows := (own_arrP h rfl hr).arr fun k hk => hk.lt
  obtain ⟨-, h1, h2⟩ := hA.len
  have hs : sliced p k rows.length c 4 = .slice (if rows.length - k = 0 ∧ c - k = 0 then p else p.map (fun a => a.add (k * 4))) (rows.length - k) (c - k) ∨ True := .inr trivial
  obtain ⟨pp, hpp⟩ : ∃ pp, sliced p k rows.length c 4 = .slice pp (rows.length - k) (c - k) := ⟨_, rfl⟩
  refine ⟨pp, c - k, fun X => ?_, ?_⟩
  · rw [run_slice_l X 56 _ _ _ rowsQU.1 .i64 _ (by omega) (by omega), rowsQU.2, Tryz.sizeOf68]
    simp [Result.andThen, hpp]
  · have hd : (rows.drop k).length = rows.length - k := List.length_drop
    rw [← hd]
    refine SrcN.of_arr (n := w.heap.size) ?_ (fun r hr' => hr r (List.mem_of_mem_drop hr')) (by decide)
    rw [hd]
    refine ⟨_, c - k, by rw [hd], by rw [hd]; omega, by omega, fun hne => ?_⟩
    have hlt : k < rows.length := by
      rcases Nat.lt_or_ge k rows.length with h1 | h1
      · exact h1
      · exact absurd (by rw [List.drop_eq_nil_of_le h1]) hne
    obtain ⟨p0, c0, hv, _, _, hall⟩ := hA
    simp only [Value.slice.injEq, true_and] at hv
    obtain ⟨rfl, rfl⟩ := hv
    obtain ⟨b, off, rfl, hb, hcell⟩ := hall (by intro h0; subst h0; simp at hlt)
    refine ⟨b, off + k * 4, ?_, hb, fun i r hr2 j x hx => ?_⟩
    · unfold sliced at hpp
      rw [if_neg (by omega)] at hpp
      have h9 : some ((⟨b, off, none⟩ : Addr).add (k * 4)) = pp := by simpa using hpp
      rw [← h9, add_off]
    · rw [List.getElem?_drop] at hr2
      have := hcell (k + i) r hr2 j x hx
      rw [show off + k * 4 + i * 4 + j = off + (k + i) * 4 + j by omega]
      exact this
theorem rowsSU : Tryz.prog.underlying 57 = some (.slice (Tryz.prog.elem 57)) ∧ Tryz.prog.elem 57 = 73 := ⟨by simp [Program.elem, Tryz.underlying57], by simp [Program.elem, Tryz.underlying57]⟩
/-- l[k:]. -/
theorem cutRS {w : World} {lo n c : Nat} {p : Option Addr} {rows : List (List Value)} (h : w.ownsRow lo 73 4 (.slice p n c) n rows.flatten) (hl : rows.length = n) (hr : ∀ r ∈ rows, r.length = 4) {k : Nat} (hk : k ≤ n) :
    ∃ pp cc, (∀ X : World, (Instr.slice 57 (.slice p n c) (some (.int .i64 (k : Int))) none none).run Tryz.prog X = .ok (.slice pp (n - k) cc) X) ∧ SrcN w (.slice pp (n - k) cc) 4 (n - k) (rows.drop k).flatten := by
  subst hl
  have hA : Arr w.heap.size w (.slice p rows.length c) 4 rows := (own_arrP h rfl hr).arr fun k hk => hk.lt
  obtain ⟨-, h1, h2⟩ := hA.len
  have hs : sliced p k rows.length c 4 = .slice (if rows.length - k = 0 ∧ c - k = 0 then p else p.map (fun a => a.add (k * 4))) (rows.length - k) (c - k) ∨ True := .inr trivial
  obtain ⟨pp, hpp⟩ : ∃ pp, sliced p k rows.length c 4 = .slice pp (rows.length - k) (c - k) := ⟨_, rfl⟩
  refine ⟨pp, c - k, fun X => ?_, ?_⟩
  · rw [run_slice_l X 57 _ _ _ rowsSU.1 .i64 _ (by omega) (by omega), rowsSU.2, Tryz.sizeOf73]
    simp [Result.andThen, hpp]
  · have hd : (rows.drop k).length = rows.length - k := List.length_drop
    rw [← hd]
    refine SrcN.of_arr (n := w.heap.size) ?_ (fun r hr' => hr r (List.mem_of_mem_drop hr')) (by decide)
    rw [hd]
    refine ⟨_, c - k, by rw [hd], by rw [hd]; omega, by omega, fun hne => ?_⟩
    have hlt : k < rows.length := by
      rcases Nat.lt_or_ge k rows.length with h1 | h1
      · exact h1
      · exact absurd (by rw [List.drop_eq_nil_of_le h1]) hne
    obtain ⟨p0, c0, hv, _, _, hall⟩ := hA
    simp only [Value.slice.injEq, true_and] at hv
    obtain ⟨rfl, rfl⟩ := hv
    obtain ⟨b, off, rfl, hb, hcell⟩ := hall (by intro h0; subst h0; simp at hlt)
    refine ⟨b, off + k * 4, ?_, hb, fun i r hr2 j x hx => ?_⟩
    · unfold sliced at hpp
      rw [if_neg (by omega)] at hpp
      have h9 : some ((⟨b, off, none⟩ : Addr).add (k * 4)) = pp := by simpa using hpp
      rw [← h9, add_off]
    · rw [List.getElem?_drop] at hr2
      have := hcell (k + i) r hr2 j x hx
      rw [show off + k * 4 + i * 4 + j = off + (k + i) * 4 + j by omega]
      exact this
theorem infoQry : (Tryz.prog.info? 68).map (fun i => (i.zero, i.size, i.bytes)) = some (some (.agg #[.int .i64 0, .slice none 0 0, .int .i64 0, .int .i64 0]), 4, 48) := by kernel_rfl
section
variable {base : Nat} {W W' : World} {g : Nat} {b b' : GB} {qv sv qv' sv' : Value} {Q : List QE} {M F F1 : Nat → Prop}
set_option maxRecDepth 100000 in
set_option maxHeartbeats 4000000 in
theorem rSubscribe {id : Int} (h : StJ base g W b qv sv Q) (hi9 : b.id + 1 ≤ 10000) :
    Calls Tryz.prog 14 #[.pointer (some ⟨g, 0, none⟩), .int .i64 id] W fun e w' => e = .returned (.tuple #[.int .i64 (subscribeG b id).2.1, .int .i64 (subscribeG b id).2.2]) ∧ PostB base g (FootR g qv sv Q) W (subscribeG b id).1 w' := by
  have HF := Lib.hid (rFind (id := id) h)
  have H := Lib.hid h
  unfold subscribeG
  cases hf : findQ b id with
  | none =>
    rw [hf] at HF
    have HF := Lib.hid (show Calls Tryz.prog _ _ W fun r w' => r = .returned (.tuple #[.int .i64 (placeN QE.id id Q), .bool false]) ∧ Below W.heap.size W w' from HF.out)
    clear hf h
    obtain ⟨pl, hpl⟩ : ∃ z, placeN QE.id id Q = z := ⟨_, rfl⟩
    rw [hpl] at HF
    clear hpl
    go_enter Tryz.func14, Tryz.ntmps14; (try simp only [List.append_eq, List.cons_append, List.nil_append])
    go_wp2_with fail
    refine HF.out.mono ?_
    rintro e w2 ⟨rfl, hb⟩
    have HP := Lib.hid (PostB.below H.out hb)
    clear hb
    go_wp2
    go_ret2
    exact ⟨rfl, HP.out⟩
  | some x =>
    obtain ⟨e, he, hx, hid⟩ := h.place hf
    subst hid hx
    rw [hf] at HF
    have HF := Lib.hid (show Calls Tryz.prog _ _ W fun r w' => r = .returned (.tuple #[.int .i64 (placeN QE.id e.id Q), .bool true]) ∧ Below W.heap.size W w' from HF.out)
    rw [place_at_eq h he] at HF he
    have He := Lib.hid he
    have hfew := h.few
    have hpq : placeN QE.id e.id Q < Q.length := (List.getElem?_eq_some_iff.1 he).1
    have HC := Lib.hid (fun (X : World) (hb : Below W.heap.size W X) => rAdd (id := e.id) (frm := e.last) (H.out.keep hb) (H.out.qOk he).bd.1 ⟨_, H.out.qIn he, rfl⟩ hi9)
    simp only
    obtain ⟨pl, hpl⟩ : ∃ z, placeN QE.id e.id Q = z := ⟨_, rfl⟩
    rw [hpl] at HF He hpq
    clear hf h he hpl
    go_enter Tryz.func14, Tryz.ntmps14; (try simp only [List.append_eq, List.cons_append, List.nil_append])
    go_wp2_with fail
    refine HF.out.mono ?_
    rintro r w2 ⟨rfl, hb⟩
    have HB := Lib.hid hb
    have H2 := H.out.keep hb
    have HC2 := Lib.hid (HC.out _ hb)
    obtain ⟨gq, off, cq, rfl, -, hgq, -, -, d0, d1, d2, d3, -⟩ := H2.row He.out
    have c1 : w2.cell? ⟨g, 1, none⟩ = some (.slice (some ⟨gq, off, none⟩) Q.length cq) := H2.m.blk.cell 1 _ rfl
    have hg := H2.m.blk.lt
    clear hb H2
    go_wp2_with fail
    refine HC2.out.mono ?_
    rintro r w3 ⟨rfl, hp⟩
    have HP := Lib.hid (PostB.trans (Turn.of HB.out) hp)
    clear hp
    go_wp2
    go_ret2
    exact ⟨rfl, HP.out⟩
set_option maxRecDepth 100000 in
set_option maxHeartbeats 4000000 in
theorem rResume {id t : Int} (h : StJ base g W b qv sv Q) (hi9 : b.id + 1 ≤ 10000) :
    Calls Tryz.prog 16 #[.pointer (some ⟨g, 0, none⟩), .int .i64 id, .int .i64 t] W fun e w' => e = .returned (.tuple #[.int .i64 (resumeG b id t).2.1, .int .i64 (resumeG b id t).2.2]) ∧ PostB base g (FootR g qv sv Q) W (resumeG b id t).1 w' := by
  have HF := Lib.hid (rFind (id := id) h)
  have H := Lib.hid h
  unfold resumeG maxG
  cases hf : findQ b id with
  | none =>
    rw [hf] at HF
    have HF := Lib.hid (show Calls Tryz.prog _ _ W fun r w' => r = .returned (.tuple #[.int .i64 (placeN QE.id id Q), .bool false]) ∧ Below W.heap.size W w' from HF.out)
    clear hf h
    obtain ⟨pl, hpl⟩ : ∃ z, placeN QE.id id Q = z := ⟨_, rfl⟩
    rw [hpl] at HF
    clear hpl
    go_enter Tryz.func16, Tryz.ntmps16; (try simp only [List.append_eq, List.cons_append, List.nil_append])
    go_wp2_with fail
    refine HF.out.mono ?_
    rintro e w2 ⟨rfl, hb⟩
    have HP := Lib.hid (PostB.below H.out hb)
    clear hb
    go_wp2
    go_ret2
    exact ⟨rfl, HP.out⟩
  | some x =>
    obtain ⟨e, he, hx, hid⟩ := h.place hf
    subst hid hx
    rw [hf] at HF
    have HF := Lib.hid (show Calls Tryz.prog _ _ W fun r w' => r = .returned (.tuple #[.int .i64 (placeN QE.id e.id Q), .bool true]) ∧ Below W.heap.size W w' from HF.out)
    have He := Lib.hid he
    have hfew := h.few
    have hpq : placeN QE.id e.id Q < Q.length := (List.getElem?_eq_some_iff.1 he).1
    have hfl : e.qy.floor = e.floor := rfl
    simp only [hfl]
    clear hfl
    by_cases ht : t < 0 ∨ 1099511627776 < t
    · rw [if_pos ht]
      obtain ⟨pl, hpl⟩ : ∃ z, placeN QE.id e.id Q = z := ⟨_, rfl⟩
      rw [hpl] at HF He hpq
      clear hf h he hpl
      rcases ht with ht | ht
      · go_enter Tryz.func16, Tryz.ntmps16; (try simp only [List.append_eq, List.cons_append, List.nil_append])
        go_wp2_with fail
        refine HF.out.mono ?_
        rintro r w2 ⟨rfl, hb⟩
        have HP := Lib.hid (PostB.below H.out hb)
        clear hb
        go_wp2
        go_ret2
        exact ⟨rfl, HP.out⟩
      · have ht0 : ¬ t < 0 := by omega
        go_enter Tryz.func16, Tryz.ntmps16; (try simp only [List.append_eq, List.cons_append, List.nil_append])
        go_wp2_with fail
        refine HF.out.mono ?_
        rintro r w2 ⟨rfl, hb⟩
        have HP := Lib.hid (PostB.below H.out hb)
        clear hb
        go_wp2
        go_ret2
        exact ⟨rfl, HP.out⟩
    rw [if_neg ht]
    have ht0 : ¬ t < 0 := by omega
    have ht1 : ¬ 1099511627776 < t := by omega
    by_cases hlt : t < e.floor
    · rw [if_pos hlt]
      obtain ⟨pl, hpl⟩ : ∃ z, placeN QE.id e.id Q = z := ⟨_, rfl⟩
      rw [hpl] at HF He hpq
      clear hf h he hpl ht
      go_enter Tryz.func16, Tryz.ntmps16; (try simp only [List.append_eq, List.cons_append, List.nil_append])
      go_wp2_with fail
      refine HF.out.mono ?_
      rintro r w2 ⟨rfl, hb⟩
      have HP := Lib.hid (PostB.below H.out hb)
      have H2 := H.out.keep hb
      obtain ⟨gq, off, cq, rfl, -, hgq, -, -, d0, d1, d2, d3, -⟩ := H2.row He.out
      have c1 : w2.cell? ⟨g, 1, none⟩ = some (.slice (some ⟨gq, off, none⟩) Q.length cq) := H2.m.blk.cell 1 _ rfl
      have hg := H2.m.blk.lt
      clear hb H2
      go_wp2
      go_ret2
      exact ⟨rfl, HP.out⟩
    · rw [if_neg hlt]
      have HC := Lib.hid (fun (X : World) (hb : Below W.heap.size W X) => rAdd (id := e.id) (frm := t) (H.out.keep hb) (show 0 ≤ t ∧ t ≤ maxG by unfold maxG; omega) ⟨_, H.out.qIn he, rfl⟩ hi9)
      obtain ⟨pl, hpl⟩ : ∃ z, placeN QE.id e.id Q = z := ⟨_, rfl⟩
      rw [hpl] at HF He hpq
      clear hf h he hpl ht
      go_enter Tryz.func16, Tryz.ntmps16; (try simp only [List.append_eq, List.cons_append, List.nil_append])
      go_wp2_with fail
      refine HF.out.mono ?_
      rintro r w2 ⟨rfl, hb⟩
      have HB := Lib.hid hb
      have H2 := H.out.keep hb
      have HC2 := Lib.hid (HC.out _ hb)
      obtain ⟨gq, off, cq, rfl, -, hgq, -, -, d0, d1, d2, d3, -⟩ := H2.row He.out
      have c1 : w2.cell? ⟨g, 1, none⟩ = some (.slice (some ⟨gq, off, none⟩) Q.length cq) := H2.m.blk.cell 1 _ rfl
      have hg := H2.m.blk.lt
      clear hb H2
      go_wp2_with fail
      all_goals first | (exfalso; omega) | skip
      refine HC2.out.mono ?_
      rintro r w3 ⟨rfl, hp⟩
      have HP := Lib.hid (PostB.trans (Turn.of HB.out) hp)
      clear hp
      go_wp2
      go_ret2
      exact ⟨rfl, HP.out⟩
end
end Go.Proofs.YtfmolimnnheaoaaGreat

/- The document's Open. -/
namespace Go.Proofs.YtfmolimnnheaoaaGreat
open Go.RowKit
set_option linter.unusedSimpArgs false
set_option linter.unusedVariables false

section
variable {base : Nat} {W W' : World} {g : Nat} {b b' : GB} {qv sv qv' sv' : Value} {Q Q' : List QE} {M F F1 : Nat → Prop}
/-- The queries turn. -/
theorem StJ.newQ {q' : List (Qy (List Rs))} (h : StJ base g W b qv sv Q) (ho : OffM M W W') (hM : ∀ j, j < W.heap.size → M j → qv.ownBlock = some j ∨ j = g) (hb : Blk W' g 59 (boardR b.room b.id qv' sv)) (hq : W'.ownsRow base 68 4 qv' Q'.length (Q'.map qRow).flatten)
    (hk : Fam (KMem base) KFoot W Q → OffM (fun j => qv.ownBlock = some j ∨ j = g) W W' → Quiet base W (fun j => qv.ownBlock = some j ∨ j = g) → (∀ e ∈ Q, ∀ k, KFoot e k → ¬ (qv.ownBlock = some k ∨ k = g)) → Fam (KMem base) KFoot W' Q') (hf : ∀ k, qv'.ownBlock = some k → qv.ownBlock = some k ∨ W.heap.size ≤ k) (hf2 : ∀ e ∈ Q', ∀ k, KFoot e k → ∃ e0 ∈ Q, KFoot e0 k)
    (hq' : q' = Q'.map QE.qy) (hinv : GInv { b with q := q' }) (hfew : Q'.length ≤ 10000) : StJ base g W' { b with q := q' } qv' sv Q' ∧ Turn (FootR g qv sv Q) W (FootR g qv' sv Q') W' := by
  obtain ⟨h1, h2⟩ := h.m.newQ ho hM hb hq hk hf hf2
  exact ⟨⟨h1, hq', hinv, h.num, hfew, Nat.le_trans h.lo ho.size⟩, h2⟩
theorem StJ.ones (h : StJ base g W b qv sv Q) : ∀ u ∈ (Q.map qRow).flatten, u.oneCell' = true := by
  intro u hu
  obtain ⟨r, hr, hu⟩ := List.mem_flatten.1 hu
  obtain ⟨e, he, rfl⟩ := List.mem_map.1 hr
  obtain ⟨a, c, hkv⟩ := (h.m.k.mem e he).slice
  simp [qRow] at hu
  rcases hu with rfl | rfl | rfl | rfl
  · rfl
  · rw [hkv]; rfl
  · rfl
  · rfl
theorem mem_flat_drop {rows : List (List Value)} {k : Nat} {u : Value} (h : u ∈ (rows.drop k).flatten) : u ∈ rows.flatten := by
  obtain ⟨r, hr, hu⟩ := List.mem_flatten.1 h
  exact List.mem_flatten.2 ⟨r, List.mem_of_mem_drop hr, hu⟩
theorem mem_flat_take {rows : List (List Value)} {k : Nat} {u : Value} (h : u ∈ (rows.take k).flatten) : u ∈ rows.flatten := by
  obtain ⟨r, hr, hu⟩ := List.mem_flatten.1 h
  exact List.mem_flatten.2 ⟨r, List.mem_of_mem_take hr, hu⟩
set_option maxRecDepth 100000 in
set_option maxHeartbeats 8000000 in
theorem rOpen {id mark : Int} (h : StJ base g W b qv sv Q) (hi9 : Q.length + 1 ≤ 10000) :
    Calls Tryz.prog 10 #[.pointer (some ⟨g, 0, none⟩), .int .i64 id, .int .i64 mark] W fun e w' => e = .returned (.int .i64 (openG b id mark).2) ∧ PostB base g (FootR g qv sv Q) W (openG b id mark).1 w' := by
  have HF := Lib.hid (rFind (id := id) h)
  have H := Lib.hid h
  obtain ⟨po, hpo⟩ : ∃ r, openG b id mark = r := ⟨_, rfl⟩
  have HOp := Lib.hid hpo
  rw [hpo]
  unfold openG maxG at hpo
  by_cases h1 : id < 1
  · rw [if_pos (.inl h1)] at hpo
    have HP := Lib.hid hpo
    clear hpo h HOp HF
    go_enter Tryz.func10, Tryz.ntmps10; (try simp only [List.append_eq, List.cons_append, List.nil_append])
    go_wp2
    go_ret
    have hp := HP.out
    subst hp
    exact ⟨rfl, PostB.below H.out (Below.refl _ _)⟩
  by_cases h2 : mark < 0
  · rw [if_pos (.inr (.inl h2))] at hpo
    have HP := Lib.hid hpo
    clear hpo h HOp HF
    go_enter Tryz.func10, Tryz.ntmps10; (try simp only [List.append_eq, List.cons_append, List.nil_append])
    go_wp2
    go_ret
    have hp := HP.out
    subst hp
    exact ⟨rfl, PostB.below H.out (Below.refl _ _)⟩
  by_cases h3 : 1099511627776 < mark
  · rw [if_pos (.inr (.inr h3))] at hpo
    have HP := Lib.hid hpo
    clear hpo h HOp HF
    go_enter Tryz.func10, Tryz.ntmps10; (try simp only [List.append_eq, List.cons_append, List.nil_append])
    go_wp2
    go_ret
    have hp := HP.out
    subst hp
    exact ⟨rfl, PostB.below H.out (Below.refl _ _)⟩
  rw [if_neg (by omega)] at hpo
  cases hf : findQ b id with
  | some x =>
    rw [hf] at hpo HF
    have HF := Lib.hid (show Calls Tryz.prog _ _ W fun r w' => r = .returned (.tuple #[.int .i64 (placeN QE.id id Q), .bool true]) ∧ Below W.heap.size W w' from HF.out)
    have HP := Lib.hid hpo
    obtain ⟨pl, hpl⟩ : ∃ z, placeN QE.id id Q = z := ⟨_, rfl⟩
    rw [hpl] at HF
    clear hpo h HOp hpl hf
    go_enter Tryz.func10, Tryz.ntmps10; (try simp only [List.append_eq, List.cons_append, List.nil_append])
    go_wp2_with fail
    all_goals first | (exfalso; omega) | skip
    refine HF.out.mono ?_
    rintro r w2 ⟨rfl, hb⟩
    have HB := Lib.hid hb
    clear hb
    go_wp2
    go_ret
    have hp := HP.out
    subst hp
    exact ⟨rfl, PostB.below H.out HB.out⟩
  | none =>
    rw [hf] at hpo HF
    have HF := Lib.hid (show Calls Tryz.prog _ _ W fun r w' => r = .returned (.tuple #[.int .i64 (placeN QE.id id Q), .bool false]) ∧ Below W.heap.size W w' from HF.out)
    have HP := Lib.hid hpo
    have HIn := Lib.hid (inv_open h.inv id mark)
    have hq9 : (b.q.takeWhile fun x => decide (x.id < id)) ++ ⟨id, [], mark, mark⟩ :: (b.q.dropWhile fun x => decide (x.id < id)) = (Q.take (placeN QE.id id Q) ++ (⟨id, [], mark, mark, 0, .slice none 0 0⟩ : QE) :: Q.drop (placeN QE.id id Q)).map QE.qy := by
      rw [takeWhile_place (key := Qy.id), dropWhile_place (key := Qy.id), h.q, place_map (key := Qy.id) QE.qy id Q, List.map_append, List.map_cons, List.map_take, List.map_drop]
      rfl
    rw [hq9] at HP
    have hpl9 := place_le (key := QE.id) id Q
    obtain ⟨pl, hpl⟩ : ∃ z, placeN QE.id id Q = z := ⟨_, rfl⟩
    rw [hpl] at HF HP hpl9
    rw [HOp.out, ← HP.out] at HIn
    obtain ⟨i0, hi, hz0, hz1, hz2⟩ := info_parts infoQry
    clear hpo h HOp hpl hf hq9
    obtain ⟨N, hN⟩ : ∃ z, Q.length = z := ⟨_, rfl⟩
    have HN := Lib.hid hN
    rw [hN] at hpl9 hi9
    clear hN
    go_enter Tryz.func10, Tryz.ntmps10; (try simp only [List.append_eq, List.cons_append, List.nil_append])
    go_wp2_with fail
    all_goals first | (exfalso; omega) | skip
    refine HF.out.mono ?_
    rintro r w2 ⟨rfl, hb⟩
    have HB := Lib.hid hb
    have H2 := Lib.hid (H.out.keep hb)
    clear hb
    obtain ⟨p, c, hqv⟩ := H2.out.sliceQ
    subst hqv
    have hqr := H2.out.m.q
    have hlm : (Q.map qRow).length = Q.length := List.length_map _
    obtain ⟨pp, cc, hrun, hsrc⟩ := cutRQ hqr hlm (qRow_len Q) (k := pl) (by rw [HN.out]; exact hpl9)
    have Hcut := Lib.hid (own_cut hqr hlm (qRow_len Q) (k := pl) (by rw [HN.out]; exact hpl9))
    have hcap : N ≤ c := by
      rcases hqr.2 with ⟨hv, h0⟩ | ⟨g1, c1, cur, hv, -, -, h1, -⟩
      · have := HN.out; omega
      · cases hv; have := HN.out; omega
    rw [HN.out] at hrun hsrc
    have c1 : w2.cell? ⟨g, 1, none⟩ = some (.slice p N c) := by rw [← HN.out]; exact H2.out.m.blk.cell 1 _ rfl
    have hg := H2.out.m.blk.lt
    have HSrc := Lib.hid hsrc
    have hba := (Below.refl w2.heap.size w2).alloc (Nat.le_refl _) (.cells #[] 68)
    clear hsrc hqr hlm
    go_wp2_with (at_builtin; refine wpList_append_srcN _ rfl _ _ _ rfl w2.heap.size 68 i0 _ 4 48 Tryz.underlying56 hi hz0 hz1 hz2 rfl (by decide) (.slice (some ⟨w2.heap.size, 0, none⟩) 0 0) 0 [] rfl (own_empty0 68 4 w2) (.slice pp (N - pl) cc) (N - pl) _ rfl (HSrc.out.below hba) (fun u hu => H2.out.ones u (mem_flat_drop hu)) (by unfold maxLen; omega) (by omega) (by simp) ?_)
    intro v3 w3 hown3 hgr3 _
    have hb3 : Below w2.heap.size w2 w3 := hba.grown hgr3 (by simp) (by simp [Value.ownBlock])
    have hown3 : w3.ownsRow w2.heap.size 68 4 v3 (N - pl) ((Q.map qRow).drop pl).flatten := by simpa using hown3
    have H3 := Lib.hid (H2.out.keep hb3)
    have HO3 := Lib.hid hown3
    have HB3 := Lib.hid hb3
    have hsz3 := hb3.size
    have hg3 : g < w3.heap.size := by omega
    have c3 : w3.cell? ⟨g, 1, none⟩ = some (.slice p N c) := by rw [← HN.out]; exact H3.out.m.blk.cell 1 _ rfl
    have hcut3 := own_cut H3.out.m.q (List.length_map _) (qRow_len Q) (k := pl) (by rw [HN.out]; exact hpl9)
    have Hcut3 := Lib.hid hcut3
    have hbb := (Below.refl w3.heap.size w3).alloc (Nat.le_refl _) (.cells #[.int .i64 id, .slice none 0 0, .int .i64 mark, .int .i64 mark] 68)
    clear hcut3 hown3 hgr3 hb3 c1 hrun hba
    have Hlo := Lib.hid H3.out.lo
    go_wp2_with (at_builtin; refine wpList_append_src _ rfl _ _ _ rfl base 68 i0 _ 4 48 Tryz.underlying56 hi hz0 hz1 hz2 rfl (by decide) (.slice p pl c) pl _ rfl (ownsRow_keep Hcut3.out hbb) _ 1 (qRow ⟨id, [], mark, mark, 0, .slice none 0 0⟩) rfl (srcB (Blk.new w3 [.int .i64 id, .slice none 0 0, .int .i64 mark, .int .i64 mark] 68) rfl) (by intro u hu; simp [qRow] at hu; rcases hu with rfl | rfl | rfl <;> rfl) (by unfold maxLen; omega) (by omega) (by have := Hlo.out; simp; omega) ?_)
    intro v5 w5 hown5 hgr5 hat5
    have hg5 := OffM.grown hgr5
    have HBk3 := Lib.hid (H3.out.m.blk.keep hbb)
    have hbk5 : Blk w5 g 59 (boardR b.room b.id (.slice p N c) sv) := by
      have h9 := hg5.block g HBk3.out.lt (fun hk => by
        have h8 := own_ty (ownsRow_keep Hcut3.out hbb) hk
        exact h8.ne HBk3.out.ty (by decide) rfl)
      have := h9.trans HBk3.out
      rw [HN.out] at this
      exact this
    have HBk5 := Lib.hid hbk5
    have hsz5 := hg5.size
    have hrest5 : w5.ownsRow w2.heap.size 68 4 v3 (N - pl) ((Q.map qRow).drop pl).flatten := ownsRow_offM (ownsRow_keep HO3.out hbb) hg5 (fun k hk hk2 => by
      have h8 := own_lo HO3.out hk
      have h9 := H2.out.m.foot_lt (k := k) (.inr (.inl (by rw [HN.out]; exact (ownBlock_len p N pl c).trans hk2)))
      omega)
    have HRest5 := Lib.hid hrest5
    have HOw5 := Lib.hid hown5
    have HAt5 := Lib.hid hat5
    have HBel5 := Lib.hid (show OffM (fun k => (Value.slice p N c).ownBlock = some k) w2 w5 from ((OffM.of (M := fun k => (Value.slice p N c).ownBlock = some k) HB3.out).trans (OffM.of (M := fun k => (Value.slice p N c).ownBlock = some k) hbb) (fun _ _ h => h)).trans hg5 (fun k _ hk => (ownBlock_len p N pl c).trans hk))
    have hg5b := hbk5.lt
    have k1 := hbk5.cell 1 _ rfl
    have fr1 := hbk5.free 1
    have hs59 : w3.heap.size ≤ w5.heap.size := by have := hbb.size; omega
    clear hown5 hgr5 hat5 hg5 hbk5 hrest5 c3 hg3 hbb
    go_wp2_with (at_builtin; refine wpList_append_src _ rfl _ _ _ rfl base 68 i0 _ 4 48 Tryz.underlying56 hi hz0 hz1 hz2 rfl (by decide) v5 (pl + 1) _ rfl HOw5.out v3 (N - pl) _ rfl (Src.of_own HRest5.out) (fun u hu => H2.out.ones u (mem_flat_drop hu)) (by unfold maxLen; omega) (by omega) (by have := Hlo.out; omega) ?_)
    intro v6 w6 hown6 hgr6 hat6
    obtain ⟨a6, c6, rfl⟩ := ownsRow_slice hown6
    have hg6 := OffM.grown hgr6
    have hbk6 : Blk w6 g 59 (boardR b.room b.id (.slice p N c) sv) := (hg6.block g HBk5.out.lt (fun hk => (own_ty HOw5.out hk).ne HBk5.out.ty (by decide) rfl)).trans HBk5.out
    have HBk6 := Lib.hid hbk6
    have HOw6 := Lib.hid hown6
    have HAt6 := Lib.hid hat6
    have HG6 := Lib.hid hg6
    have hg6b := hbk6.lt
    have k2 := hbk6.cell 1 _ rfl
    have fr2 := hbk6.free 1
    clear hown6 hgr6 hat6 hg6 hbk6 k1 fr1 hg5b
    go_wp2
    go_ret
    have hb7 := HBk6.out.set_ 1 (.slice a6 (pl + 1 + (N - pl)) c6)
    have hrow : ∀ k, (Value.slice a6 (pl + 1 + (N - pl)) c6).ownBlock = some k → (Value.slice p N c).ownBlock = some k ∨ w2.heap.size ≤ k := fun k hk => by
      have h5 : v5.ownBlock = some k ∨ w2.heap.size ≤ k := by
        rcases HAt6.out with h9 | h9
        · exact .inl (by rw [← h9]; exact hk)
        · rw [h9] at hk; cases hk; exact .inr (by omega)
      rcases h5 with h5 | h5
      · rcases HAt5.out with h9 | h9
        · rw [h9] at h5; exact .inl ((ownBlock_len p N pl c).trans h5)
        · rw [h9] at h5; cases h5; exact .inr (by have := World.size_alloc w3 (.cells #[.int .i64 id, .slice none 0 0, .int .i64 mark, .int .i64 mark] 68); simp; omega)
      · exact .inr h5
    have ho7 : OffM (fun j => (Value.slice p Q.length c).ownBlock = some j ∨ j = g) w2 (w6.setCell ⟨g, 1, none⟩ (.slice a6 (pl + 1 + (N - pl)) c6)) := by
      rw [HN.out]
      refine ((HBel5.out.more (fun k _ hk => .inl hk)).trans HG6.out (fun k hk9 hk => ?_)).trans (OffM.cell1 w6 g 1 (.slice a6 (pl + 1 + (N - pl)) c6)) (fun k _ hk => .inr hk)
      rcases HAt5.out with h9 | h9
      · rw [h9] at hk; exact .inl ((ownBlock_len p N pl c).trans hk)
      · rw [h9] at hk; cases hk; exfalso; omega
    have hown7 : (w6.setCell ⟨g, 1, none⟩ (.slice a6 (pl + 1 + (N - pl)) c6)).ownsRow base 68 4 (.slice a6 (pl + 1 + (N - pl)) c6) (Q.take pl ++ (⟨id, [], mark, mark, 0, .slice none 0 0⟩ : QE) :: Q.drop pl).length ((Q.take pl ++ (⟨id, [], mark, mark, 0, .slice none 0 0⟩ : QE) :: Q.drop pl).map qRow).flatten := by
      have h8 := ownsRow_offM HOw6.out (OffM.cell1 w6 g 1 (.slice a6 (pl + 1 + (N - pl)) c6)) (fun k hk e => (own_ty HOw6.out hk).ne HBk6.out.ty (by decide) e)
      have e1 : (Q.take pl ++ (⟨id, [], mark, mark, 0, .slice none 0 0⟩ : QE) :: Q.drop pl).length = pl + 1 + (N - pl) := by
        rw [List.length_append, List.length_take, List.length_cons, List.length_drop, HN.out]; omega
      have e2 : ((Q.take pl ++ (⟨id, [], mark, mark, 0, .slice none 0 0⟩ : QE) :: Q.drop pl).map qRow).flatten = ((Q.map qRow).take pl).flatten ++ (qRow ⟨id, [], mark, mark, 0, .slice none 0 0⟩ ++ ((Q.map qRow).drop pl).flatten) := by
        rw [List.map_append, List.map_cons, List.map_take, List.map_drop, List.flatten_append, List.flatten_cons]
      rw [e1, e2]
      exact h8
    obtain ⟨h5, h6⟩ := H2.out.newQ (W' := w6.setCell ⟨g, 1, none⟩ (.slice a6 (pl + 1 + (N - pl)) c6)) (qv' := (.slice a6 (pl + 1 + (N - pl)) c6)) (Q' := Q.take pl ++ ⟨id, [], mark, mark, 0, .slice none 0 0⟩ :: Q.drop pl) ho7 (fun j _ hj => hj) hb7 hown7 (fun hk ho hq hd => hk.ins (kStays base) pl ho hq hd OwnTd.nil (fun k hk => by cases hk)) (fun k hk => by rw [HN.out]; exact hrow k hk) (fun e he k hk => by
      rcases List.mem_append.1 he with he | he
      · exact ⟨e, List.mem_of_mem_take he, hk⟩
      · rcases List.mem_cons.1 he with rfl | he
        · cases hk
        · exact ⟨e, List.mem_of_mem_drop he, hk⟩) rfl HIn.out (by rw [List.length_append, List.length_take, List.length_cons, List.length_drop, HN.out]; omega)
    have hp := HP.out
    subst hp
    exact ⟨rfl, _, h5.st, (Turn.of HB.out).trans h6⟩
end
end Go.Proofs.YtfmolimnnheaoaaGreat

/- The document's Close, Unsubscribe. Printed by wip/gen_hr8.py. -/
namespace Go.Proofs.YtfmolimnnheaoaaGreat
open Go.RowKit
set_option linter.unusedSimpArgs false
set_option linter.unusedVariables false

section
variable {base : Nat} {W W' : World} {g : Nat} {b b' : GB} {qv sv qv' sv' : Value} {Q Q' : List QE} {M F F1 : Nat → Prop}
theorem subs_ones (l : List Su) : ∀ u ∈ (l.map subV).flatten, u.oneCell' = true := by
  intro u hu
  obtain ⟨r, hr, hu⟩ := List.mem_flatten.1 hu
  obtain ⟨s, -, rfl⟩ := List.mem_map.1 hr
  exact sub_one s u hu
theorem flat_cut (rows : List (List Value)) (k : Nat) : (rows.take k).flatten ++ (rows.drop (k + 1)).flatten = (rows.take k ++ rows.drop (k + 1)).flatten := by rw [List.flatten_append]
theorem cap_own {w : World} {lo e sz n c : Nat} {p : Option Addr} {xs : List Value} (h : w.ownsRow lo e sz (.slice p n c) n xs) : n ≤ c := by
  rcases h.2 with ⟨hv, h0⟩ | ⟨g1, c1, cur, hv, -, -, h1, -⟩
  · omega
  · cases hv; exact h1
theorem headRQ {w : World} {lo n c : Nat} {p : Option Addr} {xs : List Value} (h : w.ownsRow lo 68 4 (.slice p n c) n xs) {k : Nat} (hk : k ≤ n) (X : World) : (Instr.slice 56 (.slice p n c) none (some (.int .i64 (k : Int))) none).run Tryz.prog X = .ok (.slice p k c) X := by
  have h2 : n ≤ c ∧ c ≤ maxLen := by
    rcases h.2 with ⟨hv, h0⟩ | ⟨g1, c1, cur, hv, -, -, h1, h2, -⟩
    · cases hv; exact ⟨by omega, Nat.zero_le _⟩
    · cases hv; exact ⟨h1, h2⟩
  rw [run_slice_h X 56 _ _ _ rowsQU.1 .i64 _ (by omega) (by omega), rowsQU.2, Tryz.sizeOf68]
  have hs : sliced p 0 k c 4 = .slice p k c := by
    unfold sliced
    simp only [Nat.sub_zero, Nat.zero_mul]
    cases p with
    | none => split <;> rfl
    | some a => split <;> rfl
  simp [Result.andThen, hs]
theorem headRS {w : World} {lo n c : Nat} {p : Option Addr} {xs : List Value} (h : w.ownsRow lo 73 4 (.slice p n c) n xs) {k : Nat} (hk : k ≤ n) (X : World) : (Instr.slice 57 (.slice p n c) none (some (.int .i64 (k : Int))) none).run Tryz.prog X = .ok (.slice p k c) X := by
  have h2 : n ≤ c ∧ c ≤ maxLen := by
    rcases h.2 with ⟨hv, h0⟩ | ⟨g1, c1, cur, hv, -, -, h1, h2, -⟩
    · cases hv; exact ⟨by omega, Nat.zero_le _⟩
    · cases hv; exact ⟨h1, h2⟩
  rw [run_slice_h X 57 _ _ _ rowsSU.1 .i64 _ (by omega) (by omega), rowsSU.2, Tryz.sizeOf73]
  have hs : sliced p 0 k c 4 = .slice p k c := by
    unfold sliced
    simp only [Nat.sub_zero, Nat.zero_mul]
    cases p with
    | none => split <;> rfl
    | some a => split <;> rfl
  simp [Result.andThen, hs]
set_option maxRecDepth 100000 in
set_option maxHeartbeats 16000000 in
theorem rUnsub {n : Int} (h : StJ base g W b qv sv Q) : Calls Tryz.prog 18 #[.pointer (some ⟨g, 0, none⟩), .int .i64 n] W fun r w' => r = .returned (.int .i64 (unsubG b n).2) ∧ PostB base g (FootR g qv sv Q) W (unsubG b n).1 w' := by
  obtain ⟨i, hi, hc⟩ := rSub (n := n) h
  have HF := Lib.hid hc
  have H := Lib.hid h
  clear hc
  rcases hi with ⟨hf, rfl⟩ | ⟨k, s, hk, rfl, rfl⟩
  · have e0 : unsubG b n = (b, 6) := by unfold unsubG; rw [hf]
    rw [e0]
    clear e0 hf h
    go_enter Tryz.func18, Tryz.ntmps18; (try simp only [List.append_eq, List.cons_append, List.nil_append])
    go_wp2_with fail
    refine HF.out.mono ?_
    rintro r w2 ⟨rfl, rfl⟩
    go_wp2
    go_ret
    exact ⟨rfl, PostB.below H.out (Below.refl _ _)⟩
  · have e0 : unsubG b s.id = (letG { b with s := b.s.filter fun t => t.id != s.id } s.query, 0) := by unfold unsubG; rw [h.findU_at hk]
    rw [e0]
    have hcut := gone_cut (key := Su.id) h.inv.ss hk rfl
    have hsf := h.inv.few
    have hkl := (List.getElem?_eq_some_iff.1 hk).1
    have hIn : GInv { b with s := b.s.filter fun t => t.id != s.id } := h.inv.subS _
    obtain ⟨j, e, hj, he⟩ := h.qOf (List.mem_of_getElem? hk)
    rw [hcut] at hIn ⊢
    have HIn := Lib.hid hIn; have Hj := Lib.hid hj; have Hje := Lib.hid he
    obtain ⟨gs, off, cs, hsv, -, hgs, -, -, d0, d1, d2, d3, -⟩ := h.rowS hk
    obtain ⟨p, c, hpc⟩ : ∃ p c, sv = .slice p b.s.length c := ⟨_, _, hsv⟩
    have HSv := Lib.hid hsv
    have hsq := Lib.hid d1
    have c2 : W.cell? ⟨g, 2, none⟩ = some sv := h.m.blk.cell 2 _ rfl
    have hg := h.m.blk.lt
    subst hpc
    cases hsv
    have hown : W.ownsRow base 73 4 (.slice (some ⟨gs, off, none⟩) b.s.length cs) b.s.length (b.s.map subV).flatten := h.m.s
    have HBk := Lib.hid h.m.blk
    obtain ⟨i0, hi, hz0, hz1, hz2⟩ := info_parts infoSub
    have hcap := cap_own hown
    have hlm : (b.s.map subV).length = b.s.length := List.length_map _
    clear h e0 hk hcut hIn hj he d0 d2 d3
    go_enter Tryz.func18, Tryz.ntmps18; (try simp only [List.append_eq, List.cons_append, List.nil_append])
    go_wp2_with fail
    refine HF.out.mono ?_
    rintro r w2 ⟨rfl, rfl⟩
    go_upto_region 5 with fail
    obtain ⟨p, hp⟩ : ∃ z, (some ⟨gs, off, none⟩ : Option Addr) = z := ⟨_, rfl⟩
    have Hp := Lib.hid hp
    rw [hp] at HBk hown H ⊢
    clear hp d1 c2 hg hgs HSv hsq
    obtain ⟨c, hc⟩ : ∃ z, cs = z := ⟨_, rfl⟩
    have Hc := Lib.hid hc
    rw [hc] at HBk hown H hcap ⊢
    clear hc
    obtain ⟨pp, cc, hrun0, hsrc⟩ := cutRS hown hlm (subV_len b.s) (k := k + 1) (by omega)
    have hrun : ∀ X : World, (Instr.slice 57 (.slice p b.s.length c) (some (.int .i64 ((k : Int) + 1))) none none).run Tryz.prog X = .ok (.slice pp (b.s.length - (k + 1)) cc) X := fun X => by
      have h9 := hrun0 X
      rw [show ((k + 1 : Nat) : Int) = (k : Int) + 1 by omega] at h9
      exact h9
    have hkw : IntKind.i64.wrap ((k : Int) + 1) = (k : Int) + 1 := IntWalk.i64_in _ (by omega)
    have hrunH : ∀ X : World, (Instr.slice 57 (.slice p b.s.length c) none (some (.int .i64 (k : Int))) none).run Tryz.prog X = .ok (.slice p k c) X := fun X => headRS hown (by omega) X
    have HSrc1 := Lib.hid (Src.of_own (own_cut hown hlm (subV_len b.s) (k := k) (by omega)))
    have HSrc2 := Lib.hid hsrc
    have HOne := Lib.hid (subs_ones b.s)
    clear hrun0 hsrc
    refine wp_region_late [19] (fun X => Blk X g 59 (boardR b.room b.id qv (.slice p b.s.length c))) (by kernel_rfl) ?_
    have hSd := HBk.out.drew
    have HZ := Lib.hid (Below.drew (Below.refl w2.heap.size w2))
    obtain ⟨Z, hZ⟩ : ∃ z, w2.drew = z := ⟨_, rfl⟩
    rw [hZ] at hSd HZ ⊢
    clear hZ
    (refine late_take 0 20 (.pointer (some ⟨g, 0, none⟩)) rfl rfl (by kernel_rfl) (by kernel_rfl) (by kernel_rfl) rfl (by kernel_rfl) (fun _ _ _ h => h) (by kernel_rfl) ?_ hSd ?_; (intro w' hSw; clear hSw; first | rfl | go_simp); simp only [lsz, lss])
    (refine late_take 2 22 (.pointer (some ⟨g, 0, none⟩)) rfl rfl (by kernel_rfl) (by kernel_rfl) (by kernel_rfl) rfl (by kernel_rfl) (fun _ _ _ h => h) (by kernel_rfl) ?_ hSd ?_; (intro w' hSw; clear hSw; first | rfl | go_simp); simp only [lsz, lss])
    (refine late_take 3 23 (.pointer (some ⟨g, 0, none⟩)) rfl rfl (by kernel_rfl) (by kernel_rfl) (by kernel_rfl) rfl (by kernel_rfl) (fun _ _ _ h => h) (by kernel_rfl) ?_ hSd ?_; (intro w' hSw; clear hSw; first | rfl | go_simp); simp only [lsz, lss])
    (refine late_take 4 24 (.pointer (some ⟨g, 2, none⟩)) rfl rfl (by kernel_rfl) (by kernel_rfl) (by kernel_rfl) rfl (by kernel_rfl) (fun _ _ _ h => h) (by kernel_rfl) ?_ hSd ?_; (intro w' hSw; clear hSw; first | rfl | go_simp); simp only [lsz, lss])
    (refine late_take 5 25 (.slice p b.s.length c) rfl rfl (by kernel_rfl) (by kernel_rfl) (by kernel_rfl) rfl (by kernel_rfl) (fun _ _ _ h => h) (by kernel_rfl) ?_ hSd ?_; (intro w' hSw; have s1 := hSw.cell 2 _ rfl; clear hSw; go_simp); simp only [lsz, lss])
    (refine late_take 6 26 (.int .i64 (k : Int)) rfl rfl (by kernel_rfl) (by kernel_rfl) (by kernel_rfl) rfl (by kernel_rfl) (fun _ _ _ h => h) (by kernel_rfl) ?_ hSd ?_; (intro w' hSw; clear hSw; first | rfl | go_simp); simp only [lsz, lss])
    (refine late_take 7 27 (.slice p k c) rfl rfl (by kernel_rfl) (by kernel_rfl) (by kernel_rfl) rfl (by kernel_rfl) (fun _ _ _ h => h) (by kernel_rfl) ?_ hSd ?_; (intro w' hSw; clear hSw; go_simp); simp only [lsz, lss])
    (refine late_take 9 29 (.pointer (some ⟨g, 0, none⟩)) rfl rfl (by kernel_rfl) (by kernel_rfl) (by kernel_rfl) rfl (by kernel_rfl) (fun _ _ _ h => h) (by kernel_rfl) ?_ hSd ?_; (intro w' hSw; clear hSw; first | rfl | go_simp); simp only [lsz, lss])
    (refine late_take 10 30 (.pointer (some ⟨g, 0, none⟩)) rfl rfl (by kernel_rfl) (by kernel_rfl) (by kernel_rfl) rfl (by kernel_rfl) (fun _ _ _ h => h) (by kernel_rfl) ?_ hSd ?_; (intro w' hSw; clear hSw; first | rfl | go_simp); simp only [lsz, lss])
    (refine late_take 11 31 (.pointer (some ⟨g, 2, none⟩)) rfl rfl (by kernel_rfl) (by kernel_rfl) (by kernel_rfl) rfl (by kernel_rfl) (fun _ _ _ h => h) (by kernel_rfl) ?_ hSd ?_; (intro w' hSw; clear hSw; first | rfl | go_simp); simp only [lsz, lss])
    (refine late_take 12 32 (.slice p b.s.length c) rfl rfl (by kernel_rfl) (by kernel_rfl) (by kernel_rfl) rfl (by kernel_rfl) (fun _ _ _ h => h) (by kernel_rfl) ?_ hSd ?_; (intro w' hSw; have s1 := hSw.cell 2 _ rfl; clear hSw; go_simp); simp only [lsz, lss])
    (refine late_take 13 33 (.int .i64 (k : Int)) rfl rfl (by kernel_rfl) (by kernel_rfl) (by kernel_rfl) rfl (by kernel_rfl) (fun _ _ _ h => h) (by kernel_rfl) ?_ hSd ?_; (intro w' hSw; clear hSw; first | rfl | go_simp); simp only [lsz, lss])
    (refine late_take 14 34 (.int .i64 ((k : Int) + 1)) rfl rfl (by kernel_rfl) (by kernel_rfl) (by kernel_rfl) rfl (by kernel_rfl) (fun _ _ _ h => h) (by kernel_rfl) ?_ hSd ?_; (intro w' hSw; clear hSw; simp [go_sem]; exact hkw); simp only [lsz, lss])
    (refine late_take 15 35 (.slice pp (b.s.length - (k + 1)) cc) rfl rfl (by kernel_rfl) (by kernel_rfl) (by kernel_rfl) rfl (by kernel_rfl) (fun _ _ _ h => h) (by kernel_rfl) ?_ hSd ?_; (intro w' hSw; clear hSw; go_simp); simp only [lsz, lss])
    refine late_ready (rs := [1]) (by kernel_rfl) (by simp) (.cons rfl true rfl (fun K hK => ?_) .nil)
    rw [if_pos (by kernel_rfl)]
    go_simp
    have hba := (Below.refl Z.heap.size Z).alloc (Nat.le_refl _) (.cells #[] 73)
    have HEm := Lib.hid (own_empty0 73 4 Z)
    have HZ1 := Lib.hid (HZ.out.trans (hba.mono HZ.out.size))
    obtain ⟨gN, hgN⟩ : ∃ z, Z.heap.size = z := ⟨_, rfl⟩
    have HgN := Lib.hid (show w2.heap.size ≤ gN by rw [← hgN]; exact HZ.out.size)
    have hz1 := World.size_alloc Z (.cells #[] 73)
    obtain ⟨Z1, hZ1⟩ : ∃ z, Z.alloc (.cells #[] 73) = z := ⟨_, rfl⟩
    rw [hZ1, hgN] at HEm hz1
    rw [hgN]
    rw [hZ1] at HZ1 ⊢
    have Hz1 := Lib.hid hz1
    clear hZ1 hgN hba hz1
    have hSd := HBk.out.keep HZ1.out
    refine hK.out _ _ (fun _ => hSd) ?_
    clear hK K
    (try simp only [Act.put, lsa, lsz, lss])
    refine late_ready (rs := [8]) (by kernel_rfl) (by simp) (.cons rfl true rfl (fun K hK => ?_) .nil)
    rw [if_pos (by kernel_rfl)]
    refine wp_append_src _ _ _ _ rfl gN 73 i0 _ 4 32 Tryz.underlying57 hi hz0 hz1 hz2 rfl (by decide) (.slice (some ⟨gN, 0, none⟩) 0 0) 0 [] rfl HEm.out (.slice p k c) k _ rfl (HSrc1.out.keep fun q x hx => (HZ1.out.cell (World.block_lt_of_cell? _ _ hx)).trans hx) (fun u hu => HOne.out u (mem_flat_take hu)) (by unfold maxLen; omega) (by omega) (by have := Hz1.out; omega) ?_
    intro v3 X3 hown3 hg3 _
    have hown3 : X3.ownsRow gN 73 4 v3 k ((b.s.map subV).take k).flatten := by simpa using hown3
    have hb3 : Below w2.heap.size Z1 X3 := ⟨hg3.os, hg3.tape, hg3.output, hg3.size, fun j hj => hg3.block j (by have := HZ1.out.size; omega) (fun e => by have e2 : j = gN := (by simpa [Value.ownBlock] using e); have := HgN.out; omega)⟩
    have HX3 := Lib.hid (HZ1.out.trans hb3)
    have HO3 := Lib.hid hown3
    have Hs3 := Lib.hid (show gN ≤ X3.heap.size by have := hg3.size; have := Hz1.out; omega)
    clear hown3 hg3 hb3
    have hSd := HBk.out.keep HX3.out
    refine hK.out _ _ (fun _ => hSd) ?_
    clear hK K
    (try simp only [Act.put, lsa, lsz, lss])
    refine late_ready (rs := [16]) (by kernel_rfl) (by simp) (.cons rfl true rfl (fun K hK => ?_) .nil)
    rw [if_pos (by kernel_rfl)]
    refine wp_append_srcN _ _ _ _ rfl gN 73 i0 _ 4 32 Tryz.underlying57 hi hz0 hz1 hz2 rfl (by decide) v3 k _ rfl HO3.out (.slice pp (b.s.length - (k + 1)) cc) (b.s.length - (k + 1)) _ rfl (HSrc2.out.below HX3.out) (fun u hu => HOne.out u (mem_flat_drop hu)) (by unfold maxLen; omega) (by omega) Hs3.out ?_
    intro v4 X4 hown4 hg4 _
    obtain ⟨a4, c4, rfl⟩ := ownsRow_slice hown4
    have hb4 : Below w2.heap.size X3 X4 := ⟨hg4.os, hg4.tape, hg4.output, hg4.size, fun j hj => hg4.block j (by have := HX3.out.size; omega) (fun e => by have := own_lo HO3.out e.symm; have := HgN.out; omega)⟩
    have HX4 := Lib.hid (HX3.out.trans hb4)
    have HO4 := Lib.hid hown4
    clear hown4 hg4 hb4
    have hSd := HBk.out.keep HX4.out
    refine hK.out _ _ (fun _ => hSd) ?_
    clear hK K
    (try simp only [Act.put, lsa, lsz, lss])
    refine late_ready (rs := [17]) (by kernel_rfl) (by simp) (.cons rfl true rfl (fun K hK => ?_) .nil)
    rw [if_pos (by kernel_rfl)]
    go_simp
    refine hK.out _ _ (fun _ => hSd) ?_
    clear hK K
    (try simp only [Act.put, lsa, lsz, lss])
    refine late_ready (rs := [18]) (by kernel_rfl) (by simp) (.cons rfl true rfl (fun K hK => ?_) .nil)
    rw [if_pos (by kernel_rfl)]
    go_simp
    refine hK.out _ _ (fun _ => hSd) ?_
    clear hK K
    (try simp only [Act.put, lsa, lsz, lss])
    have fr2 := hSd.free 2
    have k2 := hSd.cell 2 _ rfl
    have hgx := hSd.lt
    refine late_ready (rs := [19]) (by kernel_rfl) (by simp) (.cons rfl false rfl (fun K hK => ?_) .nil)
    rw [if_pos (by kernel_rfl)]
    go_simp
    refine hK.out _ _ (fun h => by cases h) ?_
    clear hK K
    (try simp only [Act.put, lsa, lsz, lss])
    refine late_done (by kernel_rfl) ?_ _
    have hB6 := hSd.set_ 2 (.slice a4 (k + (b.s.length - (k + 1))) c4)
    have ho6 : OffM (fun j => j = g) w2 (X4.setCell ⟨g, 2, none⟩ (.slice a4 (k + (b.s.length - (k + 1))) c4)) := (OffM.of (M := fun j => j = g) HX4.out).trans (OffM.cell1 X4 g 2 _) (fun _ _ h => h)
    have hs6 : OwnSu gN (X4.setCell ⟨g, 2, none⟩ (.slice a4 (k + (b.s.length - (k + 1))) c4)) (.slice a4 (k + (b.s.length - (k + 1))) c4) (b.s.take k ++ b.s.drop (k + 1)) := by
      have h8 := ownsRow_offM HO4.out (OffM.cell1 X4 g 2 (.slice a4 (k + (b.s.length - (k + 1))) c4)) (fun j hj e => (own_ty HO4.out hj).ne hSd.ty (by decide) e)
      unfold OwnSu
      rw [show (b.s.take k ++ b.s.drop (k + 1)).length = k + (b.s.length - (k + 1)) by rw [List.length_append, List.length_take, List.length_drop]; omega, List.map_append, List.map_take, List.map_drop, ← flat_cut]
      exact h8
    obtain ⟨h5, h6⟩ := H.out.setS ho6 (fun j _ hj => .inr hj) (show Blk _ g 59 (boardR b.room b.id qv (.slice a4 (k + (b.s.length - (k + 1))) c4)) from hB6) (ownsRow_base hs6 (by have := HgN.out; have := H.out.lo; omega)) (fun j hj => .inr (by have := own_lo HO4.out hj; have := HgN.out; omega)) HIn.out H.out.num
    have HT := Lib.hid h6
    have HL := Lib.hid (rLet h5 Hj.out)
    rw [Hje.out] at HL
    clear hB6 ho6 hs6 h5 h6 hSd k2 fr2 hgx hrun
    obtain ⟨X6, hX6⟩ : ∃ z, X4.setCell ⟨g, 2, none⟩ (.slice a4 (k + (b.s.length - (k + 1))) c4) = z := ⟨_, rfl⟩
    rw [hX6] at HT HL ⊢
    clear hX6
    go_wp2_with fail
    refine HL.out.mono ?_
    rintro r w9 ⟨rfl, hp⟩
    have HP := Lib.hid (PostB.trans HT.out hp); clear hp
    go_wp2
    go_ret
    rw [Hp.out, Hc.out]
    exact ⟨rfl, HP.out⟩
theorem BrdR.rowS {room id : Int} {S : List Su} (h : BrdR base W g room id qv sv Q S) {k : Nat} {s : Su} (hk : S[k]? = some s) : ∃ gs off cs, sv = .slice (some ⟨gs, off, none⟩) S.length cs ∧ gs < W.heap.size ∧
    W.cell? ⟨gs, off + k * 4, none⟩ = some (.int .i64 s.id) ∧ W.cell? ⟨gs, off + k * 4 + 1, none⟩ = some (.int .i64 s.query) ∧ W.cell? ⟨gs, off + k * 4 + 2, none⟩ = some (.int .i64 s.cursor) ∧ W.cell? ⟨gs, off + k * 4 + 3, none⟩ = some (.int .i64 s.acked) := by
  have hs : W.ownsRow base 73 4 sv S.length (S.map subV).flatten := h.s
  obtain ⟨p, c, rfl⟩ := ownsRow_slice hs
  obtain ⟨gq, off, rfl, h0, h1, h2, h3, h4, h5⟩ := own_row hs (List.length_map _) (subV_len S) (k := k) (row := subV s) (by rw [List.getElem?_map, hk]; rfl)
  exact ⟨gq, off, c, rfl, h1, h4 0 _ rfl, h4 1 _ rfl, h4 2 _ rfl, h4 3 _ rfl⟩
theorem notG_step {l : List Su} {k : Nat} {s : Su} (h : l[k]? = some s) (id : Int) : (l.take (k + 1)).filter (fun s => s.query != id) = (l.take k).filter (fun s => s.query != id) ++ if s.query = id then [] else [s] := by
  rw [List.take_add_one, h, List.filter_append]
  congr 1
  simp only [Option.toList_some, List.filter_cons, List.filter_nil, bne_iff_ne, ne_eq, ite_not]
set_option maxRecDepth 100000 in
set_option maxHeartbeats 16000000 in
theorem rClose {id : Int} (h : StJ base g W b qv sv Q) : Calls Tryz.prog 12 #[.pointer (some ⟨g, 0, none⟩), .int .i64 id] W fun r w' => r = .returned (.int .i64 (closeG b id).2) ∧ PostB base g (FootR g qv sv Q) W (closeG b id).1 w' := by
  have HF := Lib.hid (rFind (id := id) h)
  have H := Lib.hid h
  cases hf : findQ b id with
  | none =>
    have e0 : closeG b id = (b, 6) := by unfold closeG; rw [hf]
    rw [e0]
    rw [hf] at HF
    have HF := Lib.hid (show Calls Tryz.prog _ _ W fun r w' => r = .returned (.tuple #[.int .i64 (placeN QE.id id Q), .bool false]) ∧ Below W.heap.size W w' from HF.out)
    obtain ⟨pl, hpl⟩ : ∃ z, placeN QE.id id Q = z := ⟨_, rfl⟩
    rw [hpl] at HF
    clear e0 hf h hpl
    go_enter Tryz.func12, Tryz.ntmps12; (try simp only [List.append_eq, List.cons_append, List.nil_append])
    go_wp2_with fail
    refine HF.out.mono ?_
    rintro r w2 ⟨rfl, hb⟩
    have HP := Lib.hid (PostB.below H.out hb)
    clear hb
    go_wp2
    go_ret
    exact ⟨rfl, HP.out⟩
  | some x =>
    have e0 : closeG b id = ({ b with q := b.q.filter fun x => x.id != id, s := b.s.filter fun s => s.query != id }, 0) := by unfold closeG; rw [hf]
    have HIn := Lib.hid (inv_close h.inv id)
    rw [e0] at HIn ⊢
    obtain ⟨e, he, hx, hid⟩ := h.place hf
    subst hid
    rw [hf] at HF
    have HF := Lib.hid (show Calls Tryz.prog _ _ W fun r w' => r = .returned (.tuple #[.int .i64 (placeN QE.id e.id Q), .bool true]) ∧ Below W.heap.size W w' from HF.out)
    have HGc := Lib.hid (show (b.q.filter fun x => x.id != e.id) = (Q.take (placeN QE.id e.id Q) ++ Q.drop (placeN QE.id e.id Q + 1)).map QE.qy by
      rw [h.q, List.filter_map, ← gone_cut (key := QE.id) h.qIds he rfl]; rfl)
    have hpl9 : placeN QE.id e.id Q < Q.length := (List.getElem?_eq_some_iff.1 he).1
    have hfew := h.few
    have hsf := h.inv.few
    obtain ⟨pl, hpl⟩ : ∃ z, placeN QE.id e.id Q = z := ⟨_, rfl⟩
    rw [hpl] at HF HGc hpl9
    obtain ⟨id, hid⟩ : ∃ z, e.id = z := ⟨_, rfl⟩
    rw [hid] at HF HGc HIn ⊢
    obtain ⟨i0, hi, hz0, hz1, hz2⟩ := info_parts infoQry
    have hlm : (Q.map qRow).length = Q.length := List.length_map _
    clear h e0 hf he hx hpl hid
    go_enter Tryz.func12, Tryz.ntmps12; (try simp only [List.append_eq, List.cons_append, List.nil_append])
    go_wp2_with fail
    refine HF.out.mono ?_
    rintro r w2 ⟨rfl, hb⟩
    have HB := Lib.hid hb
    have H2 := Lib.hid (H.out.keep hb)
    clear hb
    obtain ⟨p, c, hqv⟩ := H2.out.sliceQ
    subst hqv
    have hown := H2.out.m.q
    have HBk := Lib.hid H2.out.m.blk
    have hcap := cap_own hown
    obtain ⟨pp, cc, hrun0, hsrc⟩ := cutRQ hown hlm (qRow_len Q) (k := pl + 1) (by omega)
    have hrun : ∀ X : World, (Instr.slice 56 (.slice p Q.length c) (some (.int .i64 ((pl : Int) + 1))) none none).run Tryz.prog X = .ok (.slice pp (Q.length - (pl + 1)) cc) X := fun X => by
      have h9 := hrun0 X
      rw [show ((pl + 1 : Nat) : Int) = (pl : Int) + 1 by omega] at h9
      exact h9
    have hkw : IntKind.i64.wrap ((pl : Int) + 1) = (pl : Int) + 1 := IntWalk.i64_in _ (by omega)
    have hrunH : ∀ X : World, (Instr.slice 56 (.slice p Q.length c) none (some (.int .i64 (pl : Int))) none).run Tryz.prog X = .ok (.slice p pl c) X := fun X => headRQ hown (by omega) X
    have HSrc1 := Lib.hid (Src.of_own (own_cut hown hlm (qRow_len Q) (k := pl) (by omega)))
    have HSrc2 := Lib.hid hsrc
    have HOne := Lib.hid (H2.out.ones)
    clear hrun0 hsrc
    go_wp2_with fail
    refine wp_region_late [19] (fun X => Blk X g 59 (boardR b.room b.id (.slice p Q.length c) sv)) (by kernel_rfl) ?_
    have hSd := HBk.out.drew
    have HZ := Lib.hid (Below.drew (Below.refl w2.heap.size w2))
    obtain ⟨Z, hZ⟩ : ∃ z, w2.drew = z := ⟨_, rfl⟩
    rw [hZ] at hSd HZ ⊢
    clear hZ
    (refine late_take 0 17 (.pointer (some ⟨g, 0, none⟩)) rfl rfl (by kernel_rfl) (by kernel_rfl) (by kernel_rfl) rfl (by kernel_rfl) (fun _ _ _ h => h) (by kernel_rfl) ?_ hSd ?_; (intro w' hSw; clear hSw; first | rfl | go_simp); simp only [lsz, lss])
    (refine late_take 2 19 (.pointer (some ⟨g, 0, none⟩)) rfl rfl (by kernel_rfl) (by kernel_rfl) (by kernel_rfl) rfl (by kernel_rfl) (fun _ _ _ h => h) (by kernel_rfl) ?_ hSd ?_; (intro w' hSw; clear hSw; first | rfl | go_simp); simp only [lsz, lss])
    (refine late_take 3 20 (.pointer (some ⟨g, 0, none⟩)) rfl rfl (by kernel_rfl) (by kernel_rfl) (by kernel_rfl) rfl (by kernel_rfl) (fun _ _ _ h => h) (by kernel_rfl) ?_ hSd ?_; (intro w' hSw; clear hSw; first | rfl | go_simp); simp only [lsz, lss])
    (refine late_take 4 21 (.pointer (some ⟨g, 1, none⟩)) rfl rfl (by kernel_rfl) (by kernel_rfl) (by kernel_rfl) rfl (by kernel_rfl) (fun _ _ _ h => h) (by kernel_rfl) ?_ hSd ?_; (intro w' hSw; clear hSw; first | rfl | go_simp); simp only [lsz, lss])
    (refine late_take 5 22 (.slice p Q.length c) rfl rfl (by kernel_rfl) (by kernel_rfl) (by kernel_rfl) rfl (by kernel_rfl) (fun _ _ _ h => h) (by kernel_rfl) ?_ hSd ?_; (intro w' hSw; have s1 := hSw.cell 1 _ rfl; clear hSw; go_simp); simp only [lsz, lss])
    (refine late_take 6 23 (.int .i64 (pl : Int)) rfl rfl (by kernel_rfl) (by kernel_rfl) (by kernel_rfl) rfl (by kernel_rfl) (fun _ _ _ h => h) (by kernel_rfl) ?_ hSd ?_; (intro w' hSw; clear hSw; first | rfl | go_simp); simp only [lsz, lss])
    (refine late_take 7 24 (.slice p pl c) rfl rfl (by kernel_rfl) (by kernel_rfl) (by kernel_rfl) rfl (by kernel_rfl) (fun _ _ _ h => h) (by kernel_rfl) ?_ hSd ?_; (intro w' hSw; clear hSw; go_simp); simp only [lsz, lss])
    (refine late_take 9 26 (.pointer (some ⟨g, 0, none⟩)) rfl rfl (by kernel_rfl) (by kernel_rfl) (by kernel_rfl) rfl (by kernel_rfl) (fun _ _ _ h => h) (by kernel_rfl) ?_ hSd ?_; (intro w' hSw; clear hSw; first | rfl | go_simp); simp only [lsz, lss])
    (refine late_take 10 27 (.pointer (some ⟨g, 0, none⟩)) rfl rfl (by kernel_rfl) (by kernel_rfl) (by kernel_rfl) rfl (by kernel_rfl) (fun _ _ _ h => h) (by kernel_rfl) ?_ hSd ?_; (intro w' hSw; clear hSw; first | rfl | go_simp); simp only [lsz, lss])
    (refine late_take 11 28 (.pointer (some ⟨g, 1, none⟩)) rfl rfl (by kernel_rfl) (by kernel_rfl) (by kernel_rfl) rfl (by kernel_rfl) (fun _ _ _ h => h) (by kernel_rfl) ?_ hSd ?_; (intro w' hSw; clear hSw; first | rfl | go_simp); simp only [lsz, lss])
    (refine late_take 12 29 (.slice p Q.length c) rfl rfl (by kernel_rfl) (by kernel_rfl) (by kernel_rfl) rfl (by kernel_rfl) (fun _ _ _ h => h) (by kernel_rfl) ?_ hSd ?_; (intro w' hSw; have s1 := hSw.cell 1 _ rfl; clear hSw; go_simp); simp only [lsz, lss])
    (refine late_take 13 30 (.int .i64 (pl : Int)) rfl rfl (by kernel_rfl) (by kernel_rfl) (by kernel_rfl) rfl (by kernel_rfl) (fun _ _ _ h => h) (by kernel_rfl) ?_ hSd ?_; (intro w' hSw; clear hSw; first | rfl | go_simp); simp only [lsz, lss])
    (refine late_take 14 31 (.int .i64 ((pl : Int) + 1)) rfl rfl (by kernel_rfl) (by kernel_rfl) (by kernel_rfl) rfl (by kernel_rfl) (fun _ _ _ h => h) (by kernel_rfl) ?_ hSd ?_; (intro w' hSw; clear hSw; simp [go_sem]; exact hkw); simp only [lsz, lss])
    (refine late_take 15 32 (.slice pp (Q.length - (pl + 1)) cc) rfl rfl (by kernel_rfl) (by kernel_rfl) (by kernel_rfl) rfl (by kernel_rfl) (fun _ _ _ h => h) (by kernel_rfl) ?_ hSd ?_; (intro w' hSw; clear hSw; go_simp); simp only [lsz, lss])
    refine late_ready (rs := [1]) (by kernel_rfl) (by simp) (.cons rfl true rfl (fun K hK => ?_) .nil)
    rw [if_pos (by kernel_rfl)]
    go_simp
    have hba := (Below.refl Z.heap.size Z).alloc (Nat.le_refl _) (.cells #[] 68)
    have HEm := Lib.hid (own_empty0 68 4 Z)
    have HZ1 := Lib.hid (HZ.out.trans (hba.mono HZ.out.size))
    obtain ⟨gN, hgN⟩ : ∃ z, Z.heap.size = z := ⟨_, rfl⟩
    have HgN := Lib.hid (show w2.heap.size ≤ gN by rw [← hgN]; exact HZ.out.size)
    have hz1 := World.size_alloc Z (.cells #[] 68)
    obtain ⟨Z1, hZ1⟩ : ∃ z, Z.alloc (.cells #[] 68) = z := ⟨_, rfl⟩
    rw [hZ1, hgN] at HEm hz1
    rw [hgN]
    rw [hZ1] at HZ1 ⊢
    have Hz1 := Lib.hid hz1
    clear hZ1 hgN hba hz1
    have hSd := HBk.out.keep HZ1.out
    refine hK.out _ _ (fun _ => hSd) ?_
    clear hK K
    (try simp only [Act.put, lsa, lsz, lss])
    refine late_ready (rs := [8]) (by kernel_rfl) (by simp) (.cons rfl true rfl (fun K hK => ?_) .nil)
    rw [if_pos (by kernel_rfl)]
    refine wp_append_src _ _ _ _ rfl gN 68 i0 _ 4 48 Tryz.underlying56 hi hz0 hz1 hz2 rfl (by decide) (.slice (some ⟨gN, 0, none⟩) 0 0) 0 [] rfl HEm.out (.slice p pl c) pl _ rfl (HSrc1.out.keep fun q x hx => (HZ1.out.cell (World.block_lt_of_cell? _ _ hx)).trans hx) (fun u hu => HOne.out u (mem_flat_take hu)) (by unfold maxLen; omega) (by omega) (by have := Hz1.out; omega) ?_
    intro v3 X3 hown3 hg3 _
    have hown3 : X3.ownsRow gN 68 4 v3 pl ((Q.map qRow).take pl).flatten := by simpa using hown3
    have hb3 : Below w2.heap.size Z1 X3 := ⟨hg3.os, hg3.tape, hg3.output, hg3.size, fun j hj => hg3.block j (by have := HZ1.out.size; omega) (fun e => by have e2 : j = gN := (by simpa [Value.ownBlock] using e); have := HgN.out; omega)⟩
    have HX3 := Lib.hid (HZ1.out.trans hb3)
    have HO3 := Lib.hid hown3
    have Hs3 := Lib.hid (show gN ≤ X3.heap.size by have := hg3.size; have := Hz1.out; omega)
    clear hown3 hg3 hb3
    have hSd := HBk.out.keep HX3.out
    refine hK.out _ _ (fun _ => hSd) ?_
    clear hK K
    (try simp only [Act.put, lsa, lsz, lss])
    refine late_ready (rs := [16]) (by kernel_rfl) (by simp) (.cons rfl true rfl (fun K hK => ?_) .nil)
    rw [if_pos (by kernel_rfl)]
    refine wp_append_srcN _ _ _ _ rfl gN 68 i0 _ 4 48 Tryz.underlying56 hi hz0 hz1 hz2 rfl (by decide) v3 pl _ rfl HO3.out (.slice pp (Q.length - (pl + 1)) cc) (Q.length - (pl + 1)) _ rfl (HSrc2.out.below HX3.out) (fun u hu => HOne.out u (mem_flat_drop hu)) (by unfold maxLen; omega) (by omega) Hs3.out ?_
    intro v4 X4 hown4 hg4 _
    obtain ⟨a4, c4, rfl⟩ := ownsRow_slice hown4
    have hb4 : Below w2.heap.size X3 X4 := ⟨hg4.os, hg4.tape, hg4.output, hg4.size, fun j hj => hg4.block j (by have := HX3.out.size; omega) (fun e => by have := own_lo HO3.out e.symm; have := HgN.out; omega)⟩
    have HX4 := Lib.hid (HX3.out.trans hb4)
    have HO4 := Lib.hid hown4
    clear hown4 hg4 hb4
    have hSd := HBk.out.keep HX4.out
    refine hK.out _ _ (fun _ => hSd) ?_
    clear hK K
    (try simp only [Act.put, lsa, lsz, lss])
    refine late_ready (rs := [17]) (by kernel_rfl) (by simp) (.cons rfl true rfl (fun K hK => ?_) .nil)
    rw [if_pos (by kernel_rfl)]
    go_simp
    refine hK.out _ _ (fun _ => hSd) ?_
    clear hK K
    (try simp only [Act.put, lsa, lsz, lss])
    refine late_ready (rs := [18]) (by kernel_rfl) (by simp) (.cons rfl true rfl (fun K hK => ?_) .nil)
    rw [if_pos (by kernel_rfl)]
    go_simp
    refine hK.out _ _ (fun _ => hSd) ?_
    clear hK K
    (try simp only [Act.put, lsa, lsz, lss])
    have fr2 := hSd.free 1
    have k2 := hSd.cell 1 _ rfl
    have hgx := hSd.lt
    refine late_ready (rs := [19]) (by kernel_rfl) (by simp) (.cons rfl false rfl (fun K hK => ?_) .nil)
    rw [if_pos (by kernel_rfl)]
    go_simp
    refine hK.out _ _ (fun h => by cases h) ?_
    clear hK K
    (try simp only [Act.put, lsa, lsz, lss])
    refine late_done (by kernel_rfl) ?_ _
    have hB6 := hSd.set_ 1 (.slice a4 (pl + (Q.length - (pl + 1))) c4)
    have ho6 : OffM (fun j => j = g) w2 (X4.setCell ⟨g, 1, none⟩ (.slice a4 (pl + (Q.length - (pl + 1))) c4)) := (OffM.of (M := fun j => j = g) HX4.out).trans (OffM.cell1 X4 g 1 _) (fun _ _ h => h)
    have hs6 : (X4.setCell ⟨g, 1, none⟩ (.slice a4 (pl + (Q.length - (pl + 1))) c4)).ownsRow gN 68 4 (.slice a4 (pl + (Q.length - (pl + 1))) c4) (Q.take pl ++ Q.drop (pl + 1)).length ((Q.take pl ++ Q.drop (pl + 1)).map qRow).flatten := by
      have h8 := ownsRow_offM HO4.out (OffM.cell1 X4 g 1 (.slice a4 (pl + (Q.length - (pl + 1))) c4)) (fun j hj e => (own_ty HO4.out hj).ne hSd.ty (by decide) e)
      rw [show (Q.take pl ++ Q.drop (pl + 1)).length = pl + (Q.length - (pl + 1)) by rw [List.length_append, List.length_take, List.length_drop]; omega, List.map_append, List.map_take, List.map_drop, ← flat_cut]
      exact h8
    have hsl : (Q.take pl ++ Q.drop (pl + 1)).Sublist Q := by
      have h9 : (Q.take pl ++ Q.drop (pl + 1)).Sublist (Q.take pl ++ Q.drop pl) := (List.Sublist.refl _).append (by rw [← List.drop_drop]; exact List.drop_sublist 1 _)
      rwa [List.take_append_drop] at h9
    obtain ⟨h5, h6⟩ := H2.out.m.newQ ho6 (fun j _ hj => .inr hj) (show Blk _ g 59 (boardR b.room b.id (.slice a4 (pl + (Q.length - (pl + 1))) c4) sv) from hB6) (ownsRow_base hs6 (by have := HgN.out; have := H2.out.lo; omega)) (fun hk ho hq hd => (hk.off (kStays base) ho hq hd).sub hsl) (fun j hj => .inr (by have := own_lo HO4.out hj; have := HgN.out; omega)) (fun e he k hk => ⟨e, hsl.subset he, hk⟩)
    have HT := Lib.hid h6
    have H5 := Lib.hid h5
    have Hsl := Lib.hid hsl.length_le
    have HsX := Lib.hid (Nat.le_trans H2.out.lo ho6.size)
    clear hB6 ho6 hs6 h5 h6 hSd k2 fr2 hgx hrun hsl hown
    obtain ⟨X6, hX6⟩ : ∃ z, X4.setCell ⟨g, 1, none⟩ (.slice a4 (pl + (Q.length - (pl + 1))) c4) = z := ⟨_, rfl⟩
    rw [hX6] at HT H5 HsX ⊢
    clear hX6
    obtain ⟨v6, hv6⟩ : ∃ z, Value.slice a4 (pl + (Q.length - (pl + 1))) c4 = z := ⟨_, rfl⟩
    rw [hv6] at HT H5
    clear hv6
    obtain ⟨Q1, hQ1⟩ : ∃ z, Q.take pl ++ Q.drop (pl + 1) = z := ⟨_, rfl⟩
    rw [hQ1] at HT H5 HGc Hsl
    clear hQ1
    have hss : X6.ownsRow base 73 4 sv b.s.length (b.s.map subV).flatten := H5.out.s
    obtain ⟨ps, cs, hsv⟩ := ownsRow_slice hss
    subst hsv
    have hg6 := H5.out.blk.lt
    clear hss
    obtain ⟨N, hN⟩ : ∃ z, b.s.length = z := ⟨_, rfl⟩
    have HN := Lib.hid hN
    rw [hN] at H5 hsf HT
    clear hN
    go_upto_region 7 with fail
    go_loopw [7, 8] (fun v j wr => ∃ k : Nat, k ≤ N ∧ j = .int .i64 k ∧ OwnSu X6.heap.size wr v ((b.s.take k).filter fun s => s.query != id) ∧ Below X6.heap.size X6 wr) (fun _ j _ => N - (intOf j).toNat)
    case atStart => exact ⟨0, Nat.zero_le _, rfl, by rw [List.take_zero]; exact OwnSu.nil, Below.refl _ _⟩
    case round =>
      obtain ⟨k, hk, rfl, hown, hb⟩ := hrel
      have Hown := Lib.hid hown; have HBw := Lib.hid hb
      have HR := Lib.hid (H5.out.keep hb)
      clear hown hb
      have c2 : wr.cell? ⟨g, 2, none⟩ = some (.slice ps N cs) := HR.out.blk.cell 2 _ rfl
      have hgw := HR.out.blk.lt
      have hsz := HBw.out.size
      by_cases hlt : k < N
      · have hki : (k : Int) < (N : Int) := by omega
        obtain ⟨s, hs⟩ : ∃ s, b.s[k]? = some s := ⟨_, List.getElem?_eq_getElem (by rw [HN.out]; exact hlt)⟩
        obtain ⟨gs, off, cs', hpp, hgs, d0, d1, d2, d3⟩ := HR.out.rowS hs
        rw [HN.out] at hpp
        cases hpp
        have Hst := Lib.hid (notG_step hs id)
        have htl : ((b.s.take k).filter fun s => s.query != id).length ≤ 1000000 := Nat.le_trans (List.length_filter_le _ _) (by rw [List.length_take]; omega)
        clear hs
        by_cases hid : s.query = id
        · rw [if_pos hid, List.append_nil] at Hst
          have hbq : (s.query != id) = false := by simp [hid]
          have Hid2 := Lib.hid hid
          clear hid
          go_wp2
          exact ⟨⟨k + 1, by omega, by go_num, by rw [Hst.out]; exact Hown.out, HBw.out⟩, by simp [intOf]; omega⟩
        · rw [if_neg hid] at Hst
          have hbq : (s.query != id) = true := by simp [hid]
          have Hid2 := Lib.hid hid
          clear hid
          go_wp2_with (at_builtin; refine app_su rfl _ _ rfl X6.heap.size _ ((b.s.take k).filter fun s => s.query != id) s wr.heap.size rfl rfl (ownsRow_keep Hown.out ((Below.refl _ _).alloc (Nat.le_refl _) _)) (by go_simp) (by go_simp) (by go_simp) (by go_simp) htl (by simp; omega) ?_)
          intro v' w4 hown4 hg4 _
          have hb4 := below_app (HBw.out.alloc hsz (.cells #[.int .i64 s.id, .int .i64 s.query, .int .i64 s.cursor, .int .i64 s.acked] 73)) (ownsRow_keep Hown.out ((Below.refl _ _).alloc (Nat.le_refl _) (.cells #[.int .i64 s.id, .int .i64 s.query, .int .i64 s.cursor, .int .i64 s.acked] 73))) hg4 (Nat.le_refl _) (by simp; omega)
          have Hown4 := Lib.hid hown4; have Hb4 := Lib.hid hb4
          clear hown4 hg4 hb4
          go_wp2
          exact ⟨⟨k + 1, by omega, by go_num, by rw [Hst.out]; exact Hown4.out, Hb4.out⟩, by simp [intOf]; omega⟩
      · have hk' : k = N := by omega
        subst hk'
        have hki : ¬ ((k : Int) < (k : Int)) := by omega
        rw [List.take_of_length_le (by rw [HN.out]; omega)] at Hown
        have hown9 := Hown.out
        unfold OwnSu at hown9
        obtain ⟨a7, c7, hv7⟩ := ownsRow_slice hown9
        subst hv7
        clear hown9
        have f2 := HR.out.blk.free 2
        go_wp2
        go_ret
        have hB9 := HR.out.blk.set_ 2 (.slice a7 (b.s.filter fun s => s.query != id).length c7)
        have ho9 : OffM (fun j => j = g) X6 (wr.setCell ⟨g, 2, none⟩ (.slice a7 (b.s.filter fun s => s.query != id).length c7)) := (OffM.of (M := fun j => j = g) HBw.out).trans (OffM.cell1 wr g 2 _) (fun _ _ h => h)
        have hs9 : OwnSu X6.heap.size (wr.setCell ⟨g, 2, none⟩ (.slice a7 (b.s.filter fun s => s.query != id).length c7)) (.slice a7 (b.s.filter fun s => s.query != id).length c7) (b.s.filter fun s => s.query != id) := ownsRow_offM Hown.out (OffM.cell1 wr g 2 _) (fun j hj e => (own_ty Hown.out hj).ne HR.out.blk.ty (by decide) e)
        obtain ⟨h7, h8⟩ := H5.out.setS ho9 (fun j _ hj => .inr hj) (show Blk _ g 59 (boardR b.room b.id v6 (.slice a7 (b.s.filter fun s => s.query != id).length c7)) from hB9) (ownsRow_base hs9 HsX.out) (fun j hj => .inr (own_lo Hown.out hj))
        rw [HN.out]
        exact ⟨rfl, _, StJ.st ⟨h7, HGc.out, HIn.out, H2.out.num, Nat.le_trans Hsl.out H2.out.few, Nat.le_trans HsX.out ho9.size⟩, (Turn.of HB.out).trans (HT.out.trans h8)⟩
end
end Go.Proofs.YtfmolimnnheaoaaGreat

/- The document's Poll. -/
namespace Go.Proofs.YtfmolimnnheaoaaGreat
open Go.RowKit
set_option linter.unusedSimpArgs false
set_option linter.unusedVariables false

section
variable {base : Nat} {W W' : World} {g : Nat} {b b' : GB} {qv sv qv' sv' : Value} {Q Q' : List QE} {M F F1 : Nat → Prop}
def handV (c : Int) (L : List TV) (k : Nat) : List TV := (L.take k).filter fun x : TV => decide (c < x.1.time)
theorem handV_step {c : Int} {L : List TV} {k : Nat} {x : TV} (h : L[k]? = some x) : handV c L (k + 1) = handV c L k ++ if c < x.1.time then [x] else [] := filt_step h c
/-- What the loop has gathered is what is handed. -/
theorem handV_done {c most : Int} {L : List TV} {k : Nat} (hk : k ≤ L.length) (hm : (handV c L k).length ≤ most.toNat) (hd : L.length ≤ k ∨ most ≤ ((handV c L k).length : Int)) : (handV c L k).map Prod.fst = ((L.map Prod.fst).filter fun t => decide (c < t.time)).take most.toNat := by
  have e0 : ((L.map Prod.fst).filter fun t => decide (c < t.time)).take most.toNat = ((L.filter fun x : TV => decide (c < x.1.time)).take most.toNat).map Prod.fst := by
    rw [List.filter_map, List.map_take]; rfl
  rw [e0]
  congr 1
  rcases hd with hd | hd
  · have e1 : handV c L k = L.filter fun x : TV => decide (c < x.1.time) := by unfold handV; rw [List.take_of_length_le hd]
    rw [e1] at hm ⊢
    exact (List.take_of_length_le hm).symm
  · have e2 : (handV c L k).length = most.toNat := by omega
    exact (poll_full (p := fun x : TV => decide (c < x.1.time)) (l := L) (m := most.toNat) (k := k) e2).symm
def PollB (base g : Nat) (F : Nat → Prop) (W : World) (b : GB) (n m : Int) (e : Ending) (w' : World) : Prop := ∃ v L, e = .returned (.tuple #[v, .int .i64 (pollG b n m).2.2]) ∧ OwnTd W.heap.size base w' v L ∧ L.map Prod.fst = (pollG b n m).2.1 ∧ PostB base g F W (pollG b n m).1 w'
set_option maxRecDepth 100000 in
set_option maxHeartbeats 16000000 in
theorem rPoll {n m : Int} (h : StJ base g W b qv sv Q) (hm6 : i64 m) : Calls Tryz.prog 20 #[.pointer (some ⟨g, 0, none⟩), .int .i64 n, .int .i64 m] W (PollB base g (FootR g qv sv Q) W b n m) := by
  obtain ⟨i, hi, hc⟩ := rSub (n := n) h
  have HF := Lib.hid hc
  have H := Lib.hid h
  have HIn := Lib.hid (inv_poll h.inv n m)
  unfold PollB
  clear hc
  rcases hi with ⟨hf, rfl⟩ | ⟨k, s, hk, rfl, rfl⟩
  · have e0 : pollG b n m = (b, [], 6) := by unfold pollG; rw [hf]
    rw [e0]
    clear e0 hf h HIn
    go_enter Tryz.func20, Tryz.ntmps20; (try simp only [List.append_eq, List.cons_append, List.nil_append])
    go_wp2_with fail
    refine HF.out.mono ?_
    rintro r w2 ⟨rfl, rfl⟩
    go_wp2
    go_ret2
    exact ⟨_, [], rfl, OwnTd.nil, rfl, PostB.below H.out (Below.refl _ _)⟩
  · have e0 : pollG b s.id m = ({ b with s := turnU s.id (fun v => { v with cursor := lastT v.cursor (handG b s m) }) b.s }, handG b s m, 0) := by unfold pollG; rw [h.findU_at hk]
    rw [e0] at HIn ⊢
    obtain ⟨j, e, hj, he⟩ := h.qOf (List.mem_of_getElem? hk)
    have hh : handG b s m = ((e.L.map Prod.fst).filter fun t => decide (s.cursor < t.time)).take m.toNat := by
      unfold handG
      rw [← he, h.find_at hj]; rfl
    have HFq := Lib.hid (rFind (id := e.id) h)
    rw [place_at_eq h hj, h.find_at hj, he] at HFq
    have HFq := Lib.hid (show Calls Tryz.prog _ _ W fun r w' => r = .returned (.tuple #[.int .i64 (j : Int), .bool true]) ∧ Below W.heap.size W w' from HFq.out)
    have hsf := h.inv.few
    have hfew := h.few
    have hkl := (List.getElem?_eq_some_iff.1 hk).1
    have hjl := (List.getElem?_eq_some_iff.1 hj).1
    have hkn := h.keptN hj
    obtain ⟨gs, offs, cs, rfl, hoffs, hgs, hbgs, htys, d0, d1, d2, d3, hfr⟩ := h.rowS hk
    have c2 : W.cell? ⟨g, 2, none⟩ = some (.slice (some ⟨gs, offs, none⟩) b.s.length cs) := h.m.blk.cell 2 _ rfl
    have hg := h.m.blk.lt
    have Hk := Lib.hid hk; have Hj := Lib.hid hj; have HH := Lib.hid hh; have Hoffs := Lib.hid hoffs
    have hkm := h.m.k.mem e (List.mem_of_getElem? hj)
    unfold KMem at hkm
    obtain ⟨ak, ck, hkv⟩ := hkm.slice
    clear e0 h hk hj hh hfr hoffs d0 d3 he
    obtain ⟨qid, L, lst, fl, bk, kv⟩ := e
    simp only at hkv hkn HH hkm
    subst hkv
    go_enter Tryz.func20, Tryz.ntmps20; (try simp only [List.append_eq, List.cons_append, List.nil_append])
    go_wp2_with fail
    refine HF.out.mono ?_
    rintro r w2 ⟨rfl, rfl⟩
    go_wp2_with fail
    refine HFq.out.mono ?_
    rintro r X ⟨rfl, hb⟩
    have HB := Lib.hid hb
    have HX := Lib.hid (H.out.keep hb)
    have HKX := Lib.hid (hkm.keep hb)
    have hszX := hb.size
    have HloX := Lib.hid HX.out.lo
    clear hb c2 hg d1 d2 hgs hbgs htys hkm
    go_upto_region 7 with fail
    go_loopw [11, 12] (fun v j wr => ∃ i : Nat, i ≤ L.length ∧ j = .int .i64 i ∧ OwnTd X.heap.size base wr v (handV s.cursor L i) ∧ (handV s.cursor L i).length ≤ m.toNat ∧ Below X.heap.size X wr) (fun _ j _ => L.length - (intOf j).toNat)
    case atStart => exact ⟨0, Nat.zero_le _, rfl, OwnTd.nil, Nat.zero_le _, Below.refl _ _⟩
    case round =>
      obtain ⟨i, hi, rfl, hown, hlen, hb⟩ := hrel
      have Hown := Lib.hid hown; have HBw := Lib.hid hb; have Hlen := Lib.hid hlen
      have HR := Lib.hid (HX.out.keep hb)
      have HKd := Lib.hid (HKX.out.keep hb)
      clear hown hb hlen
      obtain ⟨gq, offq, cq, hqv, -, hgq, -, -, q0, q1, q2, q3, -⟩ := HR.out.row Hj.out
      subst hqv
      obtain ⟨gs', offs', cs', hpp, -, hgs, -, htys, s0, s1, s2, s3, hfs⟩ := HR.out.rowS Hk.out
      cases hpp
      have c1 : wr.cell? ⟨g, 1, none⟩ = some (.slice (some ⟨gq, offq, none⟩) Q.length cq) := HR.out.m.blk.cell 1 _ rfl
      have c2 : wr.cell? ⟨g, 2, none⟩ = some (.slice (some ⟨gs, offs, none⟩) b.s.length cs) := HR.out.m.blk.cell 2 _ rfl
      have hg := HR.out.m.blk.lt
      have hsz := HBw.out.size
      simp only at q1
      have Htys := Lib.hid htys
      have f2 := hfs (offs + k * 4 + 2)
      clear q0 q2 q3 s0 s1 s3 hfs htys
      have hhl : (handV s.cursor L i).length ≤ L.length := Nat.le_trans (List.length_filter_le _ _) (by rw [List.length_take]; omega)
      obtain ⟨av, cv, hvv⟩ := Hown.out.slice
      subst hvv
      obtain ⟨M9, hM9⟩ : ∃ z, (handV s.cursor L i).length = z := ⟨_, rfl⟩
      rw [hM9] at Hown Hlen hhl ⊢
      have HM9 := Lib.hid hM9
      clear hM9
      by_cases hlt : i < L.length ∧ (M9 : Int) < m
      · obtain ⟨hlt1, hlt2⟩ := hlt
        have hii : (i : Int) < (L.length : Int) := by omega
        obtain ⟨x, hx⟩ : ∃ x, L[i]? = some x := ⟨_, List.getElem?_eq_getElem hlt1⟩
        obtain ⟨bb, ob, hak, hbb, t0, t1, hres⟩ := (HKd.out.isTd (Nat.le_refl _)).get hx
        subst hak
        obtain ⟨⟨tm, res⟩, rv⟩ := x
        simp only at t0 t1 hres
        have Hst := Lib.hid (handV_step (c := s.cursor) hx)
        have HRes := Lib.hid hres
        obtain ⟨q9, c9, rfl, -, -⟩ := hres.open
        clear hx hres
        by_cases hgt : s.cursor < tm
        · rw [if_pos (show s.cursor < ((⟨tm, res⟩, Value.slice q9 res.length c9) : TV).1.time from hgt)] at Hst
          go_wp2_with fail
          go_quiet (fail)
          have hbY : Below wr.heap.size wr (wr.drewN nq) := below_drewN (Below.refl _ _) _
          obtain ⟨Y, hY⟩ : ∃ z, wr.drewN nq = z := ⟨_, rfl⟩
          rw [hY] at hbY ⊢
          clear hY
          have HRY := Lib.hid (HR.out.keep hbY)
          have e1 : Y.cell? ⟨g, 1, none⟩ = some (.slice (some ⟨gq, offq, none⟩) Q.length cq) := HRY.out.m.blk.cell 1 _ rfl
          have eq1 : Y.cell? ⟨gq, offq + j * 4 + 1, none⟩ = some (.slice (some ⟨bb, ob, none⟩) L.length ck) := (hbY.cell (p := ⟨gq, _, none⟩) hgq).trans q1
          have et0 : Y.cell? ⟨bb, ob + i * 2, none⟩ = some (.int .i64 tm) := (hbY.cell (p := ⟨bb, _, none⟩) hbb).trans t0
          have et1 : Y.cell? ⟨bb, ob + i * 2 + 1, none⟩ = some (.slice q9 res.length c9) := (hbY.cell (p := ⟨bb, _, none⟩) hbb).trans t1
          have hgY := HRY.out.m.blk.lt
          have hgqY : gq < Y.heap.size := Nat.lt_of_lt_of_le hgq hbY.size
          have hbbY : bb < Y.heap.size := Nat.lt_of_lt_of_le hbb hbY.size
          have hszY : X.heap.size ≤ Y.heap.size := Nat.le_trans hsz hbY.size
          have HOwY := Lib.hid (Hown.out.keep hbY)
          have HResY := Lib.hid (HRes.out.keep hbY)
          have HBY := Lib.hid (HBw.out.trans (hbY.mono hsz))
          clear c1 c2 q1 t0 t1 hbb hgq hg f2 hgs hbY
          have hlm9 : (handV s.cursor L i).length ≤ 1000000 := by rw [HM9.out]; omega
          go_wp2_with (at_builtin; refine app_td rfl _ _ rfl X.heap.size base _ (handV s.cursor L i) (⟨tm, res⟩, .slice q9 res.length c9) Y.heap.size rfl rfl (HOwY.out.keep ((Below.refl _ _).alloc (Nat.le_refl _) _)) HloX.out (HResY.out.keep ((Below.refl _ _).alloc (Nat.le_refl _) _)) (by go_simp) (by go_simp) hlm9 (by simp; omega) ?_)
          intro v' w4 hown4 hg4 _
          have hb4 := below_app (HBY.out.alloc hszY (.cells #[.int .i64 tm, .slice q9 res.length c9] 34)) (HOwY.out.keep ((Below.refl _ _).alloc (Nat.le_refl _) (.cells #[.int .i64 tm, .slice q9 res.length c9] 34))).1 hg4 (Nat.le_refl _) (by simp; omega)
          have Hown4 := Lib.hid hown4; have Hb4 := Lib.hid hb4
          have Hlen4 := Lib.hid (show (handV s.cursor L (i + 1)).length ≤ m.toNat by rw [Hst.out, List.length_append, HM9.out]; simp; omega)
          clear hown4 hg4 hb4
          go_wp2
          exact ⟨⟨i + 1, by omega, by go_num, by rw [Hst.out]; exact Hown4.out, Hlen4.out, Hb4.out⟩, by simp [intOf]; omega⟩
        · rw [if_neg (show ¬ s.cursor < ((⟨tm, res⟩, Value.slice q9 res.length c9) : TV).1.time from hgt), List.append_nil] at Hst
          have Hlen4 := Lib.hid (show (handV s.cursor L (i + 1)).length ≤ m.toNat by rw [Hst.out, HM9.out]; exact Hlen.out)
          go_wp2_with fail
          go_quiet (fail)
          go_wp2
          exact ⟨⟨i + 1, by omega, by go_num, by rw [Hst.out]; exact Hown.out.keep (below_drewN (Below.refl _ _) _), Hlen4.out, below_drewN HBw.out _⟩, by simp [intOf]; omega⟩
      · have HDone := Lib.hid (handV_done (c := s.cursor) (most := m) hi (by rw [HM9.out]; exact Hlen.out) (by rw [HM9.out]; omega))
        have HHd := Lib.hid (show handG b s m = (handV s.cursor L i).map Prod.fst from HH.out.trans HDone.out.symm)
        have HO := Lib.hid (show OwnTd X.heap.size base wr (.slice av M9 cv) (handV s.cursor L i) from Hown.out)
        have HIn2 := Lib.hid (show GInv { b with s := turnU s.id (fun v => { v with cursor := lastT v.cursor ((handV s.cursor L i).map Prod.fst) }) b.s } from by rw [← HHd.out]; exact HIn.out)
        clear HH HDone
        by_cases h5 : i < L.length
        · have hii : (i : Int) < (L.length : Int) := by omega
          have him : ¬ (M9 : Int) < m := by omega
          cases M9 with
          | zero =>
            have hnil : handV s.cursor L i = [] := List.eq_nil_of_length_eq_zero HM9.out
            have Hnil := Lib.hid hnil
            clear hnil
            go_wp2
            go_ret2
            have hsame : turnU s.id (fun v => { v with cursor := lastT v.cursor (handG b s m) }) b.s = b.s := by
              rw [turnU_set HR.out.inv Hk.out, HHd.out, Hnil.out]
              exact set_same Hk.out
            refine ⟨_, rfl, handV s.cursor L i, HO.out.low hszX, HHd.out.symm, ?_⟩
            show PostB base g _ _ { b with s := turnU s.id (fun v => { v with cursor := lastT v.cursor (handG b s m) }) b.s } _
            rw [hsame]
            exact PostB.below H.out (HB.out.trans (HBw.out.mono hszX))
          | succ n3 =>
            obtain ⟨t6, ht6⟩ : ∃ t, (handV s.cursor L i)[n3]? = some t := ⟨_, List.getElem?_eq_getElem (by rw [HM9.out]; omega)⟩
            have hTd : IsTd wr.heap.size base wr (.slice av (n3 + 1) cv) (handV s.cursor L i) := HO.out.isTd (Nat.le_refl _)
            obtain ⟨b6, off6, hav, hb6, e0, e1, -⟩ := hTd.get ht6
            subst hav
            have HLt := Lib.hid (show lastT s.cursor ((handV s.cursor L i).map Prod.fst) = t6.1.time by
              unfold lastT
              rw [List.getLastD_eq_getLast?, List.getLast?_eq_getElem?, List.length_map, List.length_map, HM9.out, List.getElem?_map, List.getElem?_map]
              show (((handV s.cursor L i)[n3]?.map Prod.fst).map Tl.time).getD _ = _
              rw [ht6]; rfl)
            clear ht6 hTd
            obtain ⟨⟨tt, tr⟩, tv⟩ := t6
            simp only at e0 e1 HLt
            have hn39 : n3 ≤ 4096 := by omega
            go_wp2_with fail
            go_region
            go_wp2
            go_ret2
            obtain ⟨h8, h9⟩ := HR.out.cellS Hoffs.out Hk.out (j := 2) (by decide) (u := .int .i64 tt) (fun v => { v with cursor := lastT v.cursor ((handV s.cursor L i).map Prod.fst) }) (by unfold subV; simp only [HLt.out]; rfl) rfl HIn2.out
            have hown9 := HO.out.off (OffM.cell1 wr gs (offs + k * 4 + 2) (.int .i64 tt)) (blk_quiet Htys.out (HR.out.m.tyS (k := gs) rfl).1 (by decide) (by decide)) (fun j hj e => (own_ty HO.out.1 hj).ne Htys.out (by decide) e)
            rw [HHd.out]
            exact ⟨_, handV s.cursor L i, rfl, (hown9.keep (Below.drew (Below.refl _ _))).low hszX, rfl, _, (h8.keep (Below.drew (Below.refl _ _))).st, (Turn.of (HB.out.trans (HBw.out.mono hszX))).trans (h9.trans (Turn.of (Below.drew (Below.refl _ _))))⟩
        · have hii : ¬ (i : Int) < (L.length : Int) := by omega
          cases M9 with
          | zero =>
            have hnil : handV s.cursor L i = [] := List.eq_nil_of_length_eq_zero HM9.out
            have Hnil := Lib.hid hnil
            clear hnil
            go_wp2
            go_ret2
            have hsame : turnU s.id (fun v => { v with cursor := lastT v.cursor (handG b s m) }) b.s = b.s := by
              rw [turnU_set HR.out.inv Hk.out, HHd.out, Hnil.out]
              exact set_same Hk.out
            refine ⟨_, rfl, handV s.cursor L i, HO.out.low hszX, HHd.out.symm, ?_⟩
            show PostB base g _ _ { b with s := turnU s.id (fun v => { v with cursor := lastT v.cursor (handG b s m) }) b.s } _
            rw [hsame]
            exact PostB.below H.out (HB.out.trans (HBw.out.mono hszX))
          | succ n3 =>
            obtain ⟨t6, ht6⟩ : ∃ t, (handV s.cursor L i)[n3]? = some t := ⟨_, List.getElem?_eq_getElem (by rw [HM9.out]; omega)⟩
            have hTd : IsTd wr.heap.size base wr (.slice av (n3 + 1) cv) (handV s.cursor L i) := HO.out.isTd (Nat.le_refl _)
            obtain ⟨b6, off6, hav, hb6, e0, e1, -⟩ := hTd.get ht6
            subst hav
            have HLt := Lib.hid (show lastT s.cursor ((handV s.cursor L i).map Prod.fst) = t6.1.time by
              unfold lastT
              rw [List.getLastD_eq_getLast?, List.getLast?_eq_getElem?, List.length_map, List.length_map, HM9.out, List.getElem?_map, List.getElem?_map]
              show (((handV s.cursor L i)[n3]?.map Prod.fst).map Tl.time).getD _ = _
              rw [ht6]; rfl)
            clear ht6 hTd
            obtain ⟨⟨tt, tr⟩, tv⟩ := t6
            simp only at e0 e1 HLt
            have hn39 : n3 ≤ 4096 := by omega
            go_wp2_with fail
            go_region
            go_wp2
            go_ret2
            obtain ⟨h8, h9⟩ := HR.out.cellS Hoffs.out Hk.out (j := 2) (by decide) (u := .int .i64 tt) (fun v => { v with cursor := lastT v.cursor ((handV s.cursor L i).map Prod.fst) }) (by unfold subV; simp only [HLt.out]; rfl) rfl HIn2.out
            have hown9 := HO.out.off (OffM.cell1 wr gs (offs + k * 4 + 2) (.int .i64 tt)) (blk_quiet Htys.out (HR.out.m.tyS (k := gs) rfl).1 (by decide) (by decide)) (fun j hj e => (own_ty HO.out.1 hj).ne Htys.out (by decide) e)
            rw [HHd.out]
            exact ⟨_, handV s.cursor L i, rfl, (hown9.keep (Below.drew (Below.refl _ _))).low hszX, rfl, _, (h8.keep (Below.drew (Below.refl _ _))).st, (Turn.of (HB.out.trans (HBw.out.mono hszX))).trans (h9.trans (Turn.of (Below.drew (Below.refl _ _))))⟩
end
end Go.Proofs.YtfmolimnnheaoaaGreat
