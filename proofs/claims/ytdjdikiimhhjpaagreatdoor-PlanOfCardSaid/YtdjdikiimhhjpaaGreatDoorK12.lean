/- plan.stand, plan.whole. -/
import Derived.Test.YtdjdikiimhhjpaaGreatDoorK11
import Derived.Test.YtdjdikiimhhjpaaGreatDoorK9
import Derived.Test.YtdjdikiimhhjpaaGreatDoorK1
import Derived.Test.YtdjdikiimhhjpaaGreatDoorK10
set_option maxRecDepth 100000
set_option maxHeartbeats 16000000
namespace Go.Proofs.YtdjdikiimhhjpaaGreatDoor
open Go.RowKit
set_option linter.unusedSimpArgs false
set_option linter.unusedVariables false
abbrev standC : List Value := [.int .i64 1, .int .i64 1, .int .i64 0, .int .i64 0, .string ⟨#[120]⟩, .slice none 0 0, .int .i64 1, .slice none 0 0, .slice none 0 0]
theorem stand_is (n : Nat) (w : World) : IsEx n w (standX 120) standC :=
  .mk (by decide) ⟨Arr.nil _ _ _, by simp⟩ ⟨Arr.nil _ _ _, by simp⟩ (Arr.nil _ _ _) rfl (fun k r e h => by simp at h)
theorem pStand (w : World) : Calls Tryz.prog 76 #[] w fun e' w' => e' = .returned (.agg standC.toArray) ∧ Below w.heap.size w w' := by
  go_enter Tryz.func76, Tryz.ntmps76; (try simp only [List.append_eq, List.cons_append, List.nil_append])
  go_wp2
  exact bodyPost_agg (g := w.heap.size) (fr := (0, 0)) rfl rfl (World.alloc_heap_new w _) Tryz.underlying37 rfl (by kernel_rfl) rfl ⟨rfl, (Below.refl _ _).alloc (Nat.le_refl _) _⟩
theorem stands_one (k : Nat) : ∀ u ∈ (List.replicate k standC).flatten, u.oneCell' = true := by
  intro u hu
  obtain ⟨r, hr, hur⟩ := List.mem_flatten.1 hu
  rw [List.eq_of_mem_replicate hr] at hur
  simp only [standC, List.mem_cons, List.not_mem_nil, or_false] at hur
  rcases hur with rfl | rfl | rfl | rfl | rfl | rfl | rfl | rfl | rfl <;> rfl
theorem stands_own {base k n : Nat} {w : World} {v : Value} (h : w.ownsRow base 37 9 v k (List.replicate k standC).flatten) : Own n base w v (List.replicate k (standX 120)) :=
  ⟨List.replicate k standC, by simpa using h, by simp, fun j r e hr he => by
    have h1 := List.eq_of_mem_replicate (List.mem_of_getElem? hr); have h2 := List.eq_of_mem_replicate (List.mem_of_getElem? he); subst h1 h2; exact stand_is _ _⟩
theorem ownsRow_offM {base e sz m : Nat} {w w' : World} {v : Value} {xs : List Value} {M : Nat → Prop} (h : w.ownsRow base e sz v m xs) (ho : OffM M w w') (hM : ∀ g, v.ownBlock = some g → ¬ M g) : w'.ownsRow base e sz v m xs := by
  refine ⟨h.1, ?_⟩
  rcases h.2 with h' | ⟨g, cap, cur, hv, hg, hh, h1⟩
  · exact .inl h'
  · exact .inr ⟨g, cap, cur, hv, hg, (ho.block g (Array.getElem?_eq_some_iff.1 hh).1 (hM g (by rw [hv]; rfl))).trans hh, h1⟩
theorem rep_snoc {α : Type} (x : List α) (k : Nat) : (List.replicate (k + 1) x).flatten = (List.replicate k x).flatten ++ x := by
  rw [List.replicate_succ']; simp
theorem pWhole (e : Ex) (cs : List Value) (n : Nat) (w : World) (hn : n ≤ w.heap.size) (he : IsEx n w e cs) :
    Calls Tryz.prog 52 #[.agg cs.toArray] w fun e' w' => ∃ cs', e' = .returned (.agg cs'.toArray) ∧ IsEx w'.heap.size w' (wholeX 120 e) cs' ∧ Below w.heap.size w w' := by
  obtain ⟨i0, hi, hz0, hz1, hz2⟩ := info_parts infoE
  obtain ⟨pm, cm, pn, cn, pk, ck, rfl, hms, hma, hna, -⟩ := he.cellsE
  clear he
  have hkb := kidsOf_bd e.kind
  obtain ⟨q, hq⟩ : ∃ q, kidsOf e.kind = q := ⟨_, rfl⟩
  obtain ⟨K, hK⟩ : ∃ K : Nat, K = (kidsOf e.kind).toNat := ⟨_, rfl⟩
  have HKK := Lib.hid hK
  rw [hq] at hK hkb
  have HC := Lib.hid (fun X => aKids e.kind X)
  rw [hq] at HC
  have Hma := Lib.hid hma; have Hna := Lib.hid hna; have Hms := Lib.hid hms
  clear hma hna hms hq
  by_cases hq0 : 0 < q
  · have hKq : (K : Int) = q := by omega
    have hq2 : q ≤ 2 := hkb.2; clear hkb hK; subst hKq
    go_enter Tryz.func52, Tryz.ntmps52; (try simp only [List.append_eq, List.cons_append, List.nil_append])
    go_upto_region 2 with fail
    obtain ⟨X, hW⟩ : ∃ z, (w.alloc (.cells #[.int .i64 e.kind, .int .i64 e.fn, .int .i64 e.op, .int .i64 e.num, .string e.metric, .slice pm e.mats.length cm, .int .i64 e.span, .slice pn e.names.length cn, .slice none 0 0] 37)).alloc (.cells #[.int .i64 0, .int .i64 0, .int .i64 0, .int .i64 0, .string ⟨#[]⟩, .slice none 0 0, .int .i64 0, .slice none 0 0, .slice none 0 0] 37) = z := ⟨_, rfl⟩; have kb : Below w.heap.size w X := by rw [← hW]; exact two_below w _ _
    have B1 : Blk X w.heap.size 37 [.int .i64 e.kind, .int .i64 e.fn, .int .i64 e.op, .int .i64 e.num, .string e.metric, .slice pm e.mats.length cm, .int .i64 e.span, .slice pn e.names.length cn, .slice none 0 0] := by rw [← hW]; exact two_at w [.int .i64 e.kind, .int .i64 e.fn, .int .i64 e.op, .int .i64 e.num, .string e.metric, .slice pm e.mats.length cm, .int .i64 e.span, .slice pn e.names.length cn, .slice none 0 0] [.int .i64 0, .int .i64 0, .int .i64 0, .int .i64 0, .string ⟨#[]⟩, .slice none 0 0, .int .i64 0, .slice none 0 0, .slice none 0 0] _ _
    have B2 : Blk X (w.heap.size + 1) 37 [.int .i64 0, .int .i64 0, .int .i64 0, .int .i64 0, .string ⟨#[]⟩, .slice none 0 0, .int .i64 0, .slice none 0 0, .slice none 0 0] := by rw [← hW]; exact two_at' w _ [.int .i64 0, .int .i64 0, .int .i64 0, .int .i64 0, .string ⟨#[]⟩, .slice none 0 0, .int .i64 0, .slice none 0 0, .slice none 0 0] _
    have hz : X.heap.size = w.heap.size + 2 := by rw [← hW]; simp
    rw [hW]; clear hW; have d0 := B1.cell 0 _ rfl; have HB := Lib.hid kb; have HB1 := Lib.hid B1; have HB2 := Lib.hid B2; have HZ := Lib.hid hz; clear kb B1 B2 hz
    go_wp2_with fail
    refine (HC.out _).mono ?_; rintro e' x1 ⟨rfl, hb1⟩; have HB1 := Lib.hid (HB1.out.keep hb1); have HB2 := Lib.hid (HB2.out.keep hb1); have HZ1 : Hid (w.heap.size + 2 ≤ x1.heap.size) := Lib.hid (by have := hb1.size; have := HZ.out; omega); have HB := Lib.hid (HB.out.trans (hb1.mono HB.out.size)); clear hb1 d0 HZ
    go_upto_region 3 with fail
    go_loopw [8] (fun i wr => ∃ (k : Nat) (v : Value), k ≤ K ∧ i = .int .i64 k ∧ wr.ownsRow (w.heap.size + 2) 37 9 v k (List.replicate k standC).flatten ∧ Blk wr w.heap.size 37 [.int .i64 e.kind, .int .i64 e.fn, .int .i64 e.op, .int .i64 e.num, .string e.metric, .slice pm e.mats.length cm, .int .i64 e.span, .slice pn e.names.length cn, v] ∧ Blk wr (w.heap.size + 1) 37 [.int .i64 0, .int .i64 0, .int .i64 0, .int .i64 0, .string ⟨#[]⟩, .slice none 0 0, .int .i64 0, .slice none 0 0, .slice none 0 0] ∧ Below w.heap.size w wr ∧ w.heap.size + 2 ≤ wr.heap.size) (fun i _ => K - (intOf i).toNat)
    case atStart => exact ⟨0, .slice none 0 0, Nat.zero_le _, rfl, World.ownsRow_nil _ _ _ _, HB1.out, HB2.out, HB.out, HZ1.out⟩
    case round =>
      obtain ⟨k, v, hk, rfl, hown, hb1, hb2, hb, hsz⟩ := hrel; have Hown := Lib.hid hown; have H1 := Lib.hid hb1; have H2 := Lib.hid hb2; have Hb := Lib.hid hb; clear hown hb1 hb2 hb
      by_cases hlt : k < K
      · have hki : (k : Int) < (K : Int) := by omega
        obtain ⟨ad, cp, rfl⟩ := ownsRow_slice Hown.out
        go_upto_region 4 with fail
        refine wp_region_held_drew (S := fun _ => True) (by kernel_rfl) trivial (fun hHeld => ?_)
        (refine htk 0 10 ?_ rfl ?_ ?_; rotate_left; (intro w hSw; clear hSw; go_simp); (try with_reducible rfl); simp only [lsz, lss])
        have hbd : Below wr.heap.size wr wr.drew := Below.drew (Below.refl _ _); have h1 := H1.out.keep hbd; have ho := ownsRow_keep Hown.out hbd; have h2 := H2.out.keep hbd; have hbb := Hb.out.trans (hbd.mono Hb.out.size); have hszd : w.heap.size + 2 ≤ wr.drew.heap.size := Nat.le_trans hsz hbd.size; obtain ⟨y0, hy0⟩ : ∃ z, wr.drew = z := ⟨_, rfl⟩; rw [hy0] at h1 ho h2 hbb hszd ⊢; clear hbd hy0 hsz H1 H2 Hown Hb; have hsz := hszd; clear hszd; have H1 := Lib.hid h1; have H2 := Lib.hid h2; have Hown := Lib.hid ho; have Hb := Lib.hid hbb; clear h1 h2 ho hbb; refine wpAnyH_ready (rs := [1, 2]) (by kernel_rfl) (by simp) (.cons rfl (fun K' hK' => ?_) (.cons rfl (fun K' hK' => ?_) .nil))
        · skip
          rw [if_pos (by kernel_rfl)]; have q8 := H1.out.cell 8 _ rfl
          go_simp
          refine hK'.out _ _ trivial (fun hHeld => ?_); clear hK' K' q8
          (try simp only [Act.put, lsa, lsz, lss])
          refine wpAnyH_ready (rs := [2]) (by kernel_rfl) (by simp) (.cons rfl (fun K' hK' => ?_) .nil); rw [if_pos (by kernel_rfl)]
          go_simp
          refine (pStand _).mono ?_; rintro e' x2 ⟨rfl, hb⟩; have h1 := H1.out.keep hb; have ho := ownsRow_keep Hown.out hb; have h2 := H2.out.keep hb; have hbb := Hb.out.trans (hb.mono Hb.out.size); have hsz : w.heap.size + 2 ≤ x2.heap.size := Nat.le_trans hsz hb.size; have H1 := Lib.hid h1; have H2 := Lib.hid h2; have Hown := Lib.hid ho; have Hb := Lib.hid hbb; clear hb h1 h2 ho hbb
          dsimp only
          refine hK'.out _ _ trivial (fun hHeld => ?_); clear hK' K'
          (try simp only [Act.put, lsa, lsz, lss])
          refine wpAnyH_ready (rs := [3]) (by kernel_rfl) (by simp) (.cons rfl (fun K' hK' => ?_) .nil); rw [if_pos (by kernel_rfl)]
          go_simp
          refine hK'.out _ _ trivial (fun hHeld => ?_); clear hK' K'
          (try simp only [Act.put, lsa, lsz, lss])
          have hb : Below x2.heap.size x2 (x2.alloc (.cells standC.toArray 37)) := (Below.refl _ _).alloc (Nat.le_refl _) _; have hs : Src (x2.alloc (.cells standC.toArray 37)) (.slice (some ⟨x2.heap.size, 0, none⟩) 1 1) 9 1 standC := src_new rfl rfl; have h1 := H1.out.keep hb; have ho := ownsRow_keep Hown.out hb; have h2 := H2.out.keep hb; have hbb := Hb.out.trans (hb.mono Hb.out.size); have hsz := Nat.le_trans hsz hb.size; clear hb Hown H1 H2 Hb; obtain ⟨x3, hx3⟩ : ∃ z, x2.alloc (.cells standC.toArray 37) = z := ⟨_, rfl⟩; rw [hx3] at hs h1 ho h2 hbb hsz; rw [show x2.alloc (.cells #[.int .i64 1, .int .i64 1, .int .i64 0, .int .i64 0, .string ⟨#[120]⟩, .slice none 0 0, .int .i64 1, .slice none 0 0, .slice none 0 0] 37) = x3 from hx3]; clear hx3; have H1 := Lib.hid h1; have H2 := Lib.hid h2; have Hown := Lib.hid ho; have Hb := Lib.hid hbb; have Hs := Lib.hid hs; clear h1 h2 ho hbb hs; refine wpAnyH_ready (rs := [4]) (by kernel_rfl) (by simp) (.cons rfl (fun K' hK' => ?_) .nil); rw [if_pos (by kernel_rfl)]; refine wp_append_src _ _ _ _ rfl (w.heap.size + 2) 37 i0 _ 9 128 Tryz.underlying35 hi hz0 hz1 hz2 rfl (by decide) _ _ (List.replicate k standC).flatten rfl Hown.out _ 1 standC rfl Hs.out (by intro u hu; exact stands_one 1 u (by simpa using hu)) (by unfold maxLen; omega) (by omega) hsz ?_; intro v3 w3 hown3 hgr3 hat3; have hbw : Below (w.heap.size + 2) x3 w3 := below_app (Below.refl _ _) Hown.out hgr3 (Nat.le_refl _) hsz; have h1 := H1.out.mono hbw (by omega); have h2 := H2.out.mono hbw (by omega); have hb := Hb.out.trans (hbw.mono (by omega)); have hsz3 : w.heap.size + 2 ≤ w3.heap.size := Nat.le_trans hsz hbw.size; have H1 := Lib.hid h1; have H2 := Lib.hid h2; have Hb := Lib.hid hb; have Hown3 := Lib.hid hown3; clear hgr3 hat3 hbw h1 h2 hb hown3 Hown Hs; obtain ⟨ad3, cp3, rfl⟩ := ownsRow_slice Hown3.out; refine hK'.out _ _ trivial (fun hHeld => ?_); clear hK' K'
          (try simp only [Act.put, lsa, lsz, lss])
          (refine htk 5 15 ?_ rfl ?_ ?_; rotate_left; (intro w hSw; clear hSw; go_simp); (try with_reducible rfl); simp only [lsz, lss])
          refine wpAnyH_ready (rs := [6]) (by kernel_rfl) (by simp) (.cons rfl (fun K' hK' => ?_) .nil); rw [if_pos (by kernel_rfl)]; have q8 := H1.out.cell 8 _ rfl; have f8 := H1.out.free 8
          go_simp
          refine hK'.out _ _ trivial (fun hHeld => ?_); clear hK' K' q8 f8
          (try simp only [Act.put, lsa, lsz, lss])
          refine wpAnyH_done (by kernel_rfl) ?_ _; go_wp2; have hbl := fun g hg => (ownsRow_block Hown3.out g hg).1
          refine ⟨⟨k + 1, .slice ad3 (k + 1) cp3, by omega, by go_num, ?_, H1.out.set_ 8 _, H2.out.far (by simp) _, Hb.out.setCell (by simp) _, by show _ ≤ (World.setCell _ _ _).heap.size; simp [World.setCell]; omega⟩, by simp [intOf]; omega⟩; rw [rep_snoc]; exact ownsRow_offM Hown3.out (OffM.cell1 w3 w.heap.size 8 _) (fun g hg e => by have := hbl g hg; omega)
        · skip
          rw [if_pos (by kernel_rfl)]
          go_simp
          refine (pStand _).mono ?_; rintro e' x2 ⟨rfl, hb⟩; have h1 := H1.out.keep hb; have ho := ownsRow_keep Hown.out hb; have h2 := H2.out.keep hb; have hbb := Hb.out.trans (hb.mono Hb.out.size); have hsz : w.heap.size + 2 ≤ x2.heap.size := Nat.le_trans hsz hb.size; have H1 := Lib.hid h1; have H2 := Lib.hid h2; have Hown := Lib.hid ho; have Hb := Lib.hid hbb; clear hb h1 h2 ho hbb
          dsimp only
          refine hK'.out _ _ trivial (fun hHeld => ?_); clear hK' K'
          (try simp only [Act.put, lsa, lsz, lss])
          refine wpAnyH_ready (rs := [1, 3]) (by kernel_rfl) (by simp) (.cons rfl (fun K' hK' => ?_) (.cons rfl (fun K' hK' => ?_) .nil))
          · skip
            rw [if_pos (by kernel_rfl)]; have q8 := H1.out.cell 8 _ rfl
            go_simp
            refine hK'.out _ _ trivial (fun hHeld => ?_); clear hK' K' q8
            (try simp only [Act.put, lsa, lsz, lss])
            refine wpAnyH_ready (rs := [3]) (by kernel_rfl) (by simp) (.cons rfl (fun K' hK' => ?_) .nil); rw [if_pos (by kernel_rfl)]
            go_simp
            refine hK'.out _ _ trivial (fun hHeld => ?_); clear hK' K'
            (try simp only [Act.put, lsa, lsz, lss])
            have hb : Below x2.heap.size x2 (x2.alloc (.cells standC.toArray 37)) := (Below.refl _ _).alloc (Nat.le_refl _) _; have hs : Src (x2.alloc (.cells standC.toArray 37)) (.slice (some ⟨x2.heap.size, 0, none⟩) 1 1) 9 1 standC := src_new rfl rfl; have h1 := H1.out.keep hb; have ho := ownsRow_keep Hown.out hb; have h2 := H2.out.keep hb; have hbb := Hb.out.trans (hb.mono Hb.out.size); have hsz := Nat.le_trans hsz hb.size; clear hb Hown H1 H2 Hb; obtain ⟨x3, hx3⟩ : ∃ z, x2.alloc (.cells standC.toArray 37) = z := ⟨_, rfl⟩; rw [hx3] at hs h1 ho h2 hbb hsz; rw [show x2.alloc (.cells #[.int .i64 1, .int .i64 1, .int .i64 0, .int .i64 0, .string ⟨#[120]⟩, .slice none 0 0, .int .i64 1, .slice none 0 0, .slice none 0 0] 37) = x3 from hx3]; clear hx3; have H1 := Lib.hid h1; have H2 := Lib.hid h2; have Hown := Lib.hid ho; have Hb := Lib.hid hbb; have Hs := Lib.hid hs; clear h1 h2 ho hbb hs; refine wpAnyH_ready (rs := [4]) (by kernel_rfl) (by simp) (.cons rfl (fun K' hK' => ?_) .nil); rw [if_pos (by kernel_rfl)]; refine wp_append_src _ _ _ _ rfl (w.heap.size + 2) 37 i0 _ 9 128 Tryz.underlying35 hi hz0 hz1 hz2 rfl (by decide) _ _ (List.replicate k standC).flatten rfl Hown.out _ 1 standC rfl Hs.out (by intro u hu; exact stands_one 1 u (by simpa using hu)) (by unfold maxLen; omega) (by omega) hsz ?_; intro v3 w3 hown3 hgr3 hat3; have hbw : Below (w.heap.size + 2) x3 w3 := below_app (Below.refl _ _) Hown.out hgr3 (Nat.le_refl _) hsz; have h1 := H1.out.mono hbw (by omega); have h2 := H2.out.mono hbw (by omega); have hb := Hb.out.trans (hbw.mono (by omega)); have hsz3 : w.heap.size + 2 ≤ w3.heap.size := Nat.le_trans hsz hbw.size; have H1 := Lib.hid h1; have H2 := Lib.hid h2; have Hb := Lib.hid hb; have Hown3 := Lib.hid hown3; clear hgr3 hat3 hbw h1 h2 hb hown3 Hown Hs; obtain ⟨ad3, cp3, rfl⟩ := ownsRow_slice Hown3.out; refine hK'.out _ _ trivial (fun hHeld => ?_); clear hK' K'
            (try simp only [Act.put, lsa, lsz, lss])
            (refine htk 5 15 ?_ rfl ?_ ?_; rotate_left; (intro w hSw; clear hSw; go_simp); (try with_reducible rfl); simp only [lsz, lss])
            refine wpAnyH_ready (rs := [6]) (by kernel_rfl) (by simp) (.cons rfl (fun K' hK' => ?_) .nil); rw [if_pos (by kernel_rfl)]; have q8 := H1.out.cell 8 _ rfl; have f8 := H1.out.free 8
            go_simp
            refine hK'.out _ _ trivial (fun hHeld => ?_); clear hK' K' q8 f8
            (try simp only [Act.put, lsa, lsz, lss])
            refine wpAnyH_done (by kernel_rfl) ?_ _; go_wp2; have hbl := fun g hg => (ownsRow_block Hown3.out g hg).1
            refine ⟨⟨k + 1, .slice ad3 (k + 1) cp3, by omega, by go_num, ?_, H1.out.set_ 8 _, H2.out.far (by simp) _, Hb.out.setCell (by simp) _, by show _ ≤ (World.setCell _ _ _).heap.size; simp [World.setCell]; omega⟩, by simp [intOf]; omega⟩; rw [rep_snoc]; exact ownsRow_offM Hown3.out (OffM.cell1 w3 w.heap.size 8 _) (fun g hg e => by have := hbl g hg; omega)
          · skip
            rw [if_pos (by kernel_rfl)]
            go_simp
            refine hK'.out _ _ trivial (fun hHeld => ?_); clear hK' K'
            (try simp only [Act.put, lsa, lsz, lss])
            have hb : Below x2.heap.size x2 (x2.alloc (.cells standC.toArray 37)) := (Below.refl _ _).alloc (Nat.le_refl _) _; have hs : Src (x2.alloc (.cells standC.toArray 37)) (.slice (some ⟨x2.heap.size, 0, none⟩) 1 1) 9 1 standC := src_new rfl rfl; have h1 := H1.out.keep hb; have ho := ownsRow_keep Hown.out hb; have h2 := H2.out.keep hb; have hbb := Hb.out.trans (hb.mono Hb.out.size); have hsz := Nat.le_trans hsz hb.size; clear hb Hown H1 H2 Hb; obtain ⟨x3, hx3⟩ : ∃ z, x2.alloc (.cells standC.toArray 37) = z := ⟨_, rfl⟩; rw [hx3] at hs h1 ho h2 hbb hsz; rw [show x2.alloc (.cells #[.int .i64 1, .int .i64 1, .int .i64 0, .int .i64 0, .string ⟨#[120]⟩, .slice none 0 0, .int .i64 1, .slice none 0 0, .slice none 0 0] 37) = x3 from hx3]; clear hx3; have H1 := Lib.hid h1; have H2 := Lib.hid h2; have Hown := Lib.hid ho; have Hb := Lib.hid hbb; have Hs := Lib.hid hs; clear h1 h2 ho hbb hs; refine wpAnyH_ready (rs := [1]) (by kernel_rfl) (by simp) (.cons rfl (fun K' hK' => ?_) .nil); rw [if_pos (by kernel_rfl)]; have q8 := H1.out.cell 8 _ rfl
            go_simp
            refine hK'.out _ _ trivial (fun hHeld => ?_); clear hK' K' q8
            (try simp only [Act.put, lsa, lsz, lss])
            refine wpAnyH_ready (rs := [4]) (by kernel_rfl) (by simp) (.cons rfl (fun K' hK' => ?_) .nil); rw [if_pos (by kernel_rfl)]; refine wp_append_src _ _ _ _ rfl (w.heap.size + 2) 37 i0 _ 9 128 Tryz.underlying35 hi hz0 hz1 hz2 rfl (by decide) _ _ (List.replicate k standC).flatten rfl Hown.out _ 1 standC rfl Hs.out (by intro u hu; exact stands_one 1 u (by simpa using hu)) (by unfold maxLen; omega) (by omega) hsz ?_; intro v3 w3 hown3 hgr3 hat3; have hbw : Below (w.heap.size + 2) x3 w3 := below_app (Below.refl _ _) Hown.out hgr3 (Nat.le_refl _) hsz; have h1 := H1.out.mono hbw (by omega); have h2 := H2.out.mono hbw (by omega); have hb := Hb.out.trans (hbw.mono (by omega)); have hsz3 : w.heap.size + 2 ≤ w3.heap.size := Nat.le_trans hsz hbw.size; have H1 := Lib.hid h1; have H2 := Lib.hid h2; have Hb := Lib.hid hb; have Hown3 := Lib.hid hown3; clear hgr3 hat3 hbw h1 h2 hb hown3 Hown Hs; obtain ⟨ad3, cp3, rfl⟩ := ownsRow_slice Hown3.out; refine hK'.out _ _ trivial (fun hHeld => ?_); clear hK' K'
            (try simp only [Act.put, lsa, lsz, lss])
            (refine htk 5 15 ?_ rfl ?_ ?_; rotate_left; (intro w hSw; clear hSw; go_simp); (try with_reducible rfl); simp only [lsz, lss])
            refine wpAnyH_ready (rs := [6]) (by kernel_rfl) (by simp) (.cons rfl (fun K' hK' => ?_) .nil); rw [if_pos (by kernel_rfl)]; have q8 := H1.out.cell 8 _ rfl; have f8 := H1.out.free 8
            go_simp
            refine hK'.out _ _ trivial (fun hHeld => ?_); clear hK' K' q8 f8
            (try simp only [Act.put, lsa, lsz, lss])
            refine wpAnyH_done (by kernel_rfl) ?_ _; go_wp2; have hbl := fun g hg => (ownsRow_block Hown3.out g hg).1
            refine ⟨⟨k + 1, .slice ad3 (k + 1) cp3, by omega, by go_num, ?_, H1.out.set_ 8 _, H2.out.far (by simp) _, Hb.out.setCell (by simp) _, by show _ ≤ (World.setCell _ _ _).heap.size; simp [World.setCell]; omega⟩, by simp [intOf]; omega⟩; rw [rep_snoc]; exact ownsRow_offM Hown3.out (OffM.cell1 w3 w.heap.size 8 _) (fun g hg e => by have := hbl g hg; omega)
      · have hk' : k = K := by omega
        subst hk'; obtain ⟨ad, cp, rfl⟩ := ownsRow_slice Hown.out; have h1 := H1.out; have c0 := h1.cell 0 _ rfl; have c1 := h1.cell 1 _ rfl; have c2 := h1.cell 2 _ rfl; have c3 := h1.cell 3 _ rfl; have c4 := h1.cell 4 _ rfl; have c5 := h1.cell 5 _ rfl; have c6 := h1.cell 6 _ rfl; have c7 := h1.cell 7 _ rfl; have c8 := h1.cell 8 _ rfl; clear h1
        go_wp2_with (refine wpList_store_row rfl 37 _ _ rfl (w.heap.size + 1) #[.int .i64 e.kind, .int .i64 e.fn, .int .i64 e.op, .int .i64 e.num, .string e.metric, .slice pm e.mats.length cm, .int .i64 e.span, .slice pn e.names.length cn, .slice ad k cp] rfl rfl 37 _ H2.out (by kernel_rfl) rfl (by kernel_rfl) ?_)
        refine bodyPost_agg (g := w.heap.size + 1) (fr := (0, 0)) rfl rfl (setRow_at H2.out _) Tryz.underlying37 rfl (by kernel_rfl) rfl ?_; refine ⟨[.int .i64 e.kind, .int .i64 e.fn, .int .i64 e.op, .int .i64 e.num, .string e.metric, .slice pm e.mats.length cm, .int .i64 e.span, .slice pn e.names.length cn, .slice ad k cp], rfl, ?_, below_setRow Hb.out (by omega) _⟩; have hfo := ownsRow_offM Hown.out (OffM.row wr (w.heap.size + 1) #[.int .i64 e.kind, .int .i64 e.fn, .int .i64 e.op, .int .i64 e.num, .string e.metric, .slice pm e.mats.length cm, .int .i64 e.span, .slice pn e.names.length cn, .slice ad k cp]) (fun g hg e => by have := (ownsRow_block Hown.out g hg).1; omega); have hex := (stands_own (n := w.heap.size) hfo).exs (Nat.le_refl _) (by rw [setRow_size]; omega); obtain ⟨rows, a1, a2, a3⟩ := hex; have hbf := below_setRow (B := w.heap.size) (g := w.heap.size + 1) Hb.out (by omega) #[.int .i64 e.kind, .int .i64 e.fn, .int .i64 e.op, .int .i64 e.num, .string e.metric, .slice pm e.mats.length cm, .int .i64 e.span, .slice pn e.names.length cn, .slice ad k cp]; have e1 : wholeX 120 e = .mk e.kind e.fn e.op e.num e.metric e.mats e.span e.names (List.replicate k (standX 120)) := by unfold wholeX Ex.withKids; rw [← HKK.out]
        rw [e1]; exact .mk Hms.out (Hma.out.mono (hbf.mono hn) (Nat.le_trans hn hbf.size)) (Hna.out.mono (hbf.mono hn) (Nat.le_trans hn hbf.size)) a1 a2 a3
  · have hK0 : K = 0 := by omega
    subst hK0; clear hkb hK
    go_enter Tryz.func52, Tryz.ntmps52; (try simp only [List.append_eq, List.cons_append, List.nil_append])
    go_upto_region 2 with fail
    obtain ⟨X, hW⟩ : ∃ z, (w.alloc (.cells #[.int .i64 e.kind, .int .i64 e.fn, .int .i64 e.op, .int .i64 e.num, .string e.metric, .slice pm e.mats.length cm, .int .i64 e.span, .slice pn e.names.length cn, .slice none 0 0] 37)).alloc (.cells #[.int .i64 0, .int .i64 0, .int .i64 0, .int .i64 0, .string ⟨#[]⟩, .slice none 0 0, .int .i64 0, .slice none 0 0, .slice none 0 0] 37) = z := ⟨_, rfl⟩; have kb : Below w.heap.size w X := by rw [← hW]; exact two_below w _ _
    have B1 : Blk X w.heap.size 37 [.int .i64 e.kind, .int .i64 e.fn, .int .i64 e.op, .int .i64 e.num, .string e.metric, .slice pm e.mats.length cm, .int .i64 e.span, .slice pn e.names.length cn, .slice none 0 0] := by rw [← hW]; exact two_at w [.int .i64 e.kind, .int .i64 e.fn, .int .i64 e.op, .int .i64 e.num, .string e.metric, .slice pm e.mats.length cm, .int .i64 e.span, .slice pn e.names.length cn, .slice none 0 0] [.int .i64 0, .int .i64 0, .int .i64 0, .int .i64 0, .string ⟨#[]⟩, .slice none 0 0, .int .i64 0, .slice none 0 0, .slice none 0 0] _ _
    have B2 : Blk X (w.heap.size + 1) 37 [.int .i64 0, .int .i64 0, .int .i64 0, .int .i64 0, .string ⟨#[]⟩, .slice none 0 0, .int .i64 0, .slice none 0 0, .slice none 0 0] := by rw [← hW]; exact two_at' w _ [.int .i64 0, .int .i64 0, .int .i64 0, .int .i64 0, .string ⟨#[]⟩, .slice none 0 0, .int .i64 0, .slice none 0 0, .slice none 0 0] _
    have hz : X.heap.size = w.heap.size + 2 := by rw [← hW]; simp
    rw [hW]; clear hW; have d0 := B1.cell 0 _ rfl; have HB := Lib.hid kb; have HB1 := Lib.hid B1; have HB2 := Lib.hid B2; have HZ := Lib.hid hz; clear kb B1 B2 hz
    go_wp2_with fail
    refine (HC.out _).mono ?_; rintro e' x1 ⟨rfl, hb1⟩; have HB1 := Lib.hid (HB1.out.keep hb1); have HB2 := Lib.hid (HB2.out.keep hb1); have HZ1 : Hid (w.heap.size + 2 ≤ x1.heap.size) := Lib.hid (by have := hb1.size; have := HZ.out; omega); have HB := Lib.hid (HB.out.trans (hb1.mono HB.out.size)); clear hb1 d0 HZ
    go_upto_region 3 with fail
    go_loopw [8] (fun i wr => ∃ (k : Nat) (v : Value), k ≤ 0 ∧ i = .int .i64 k ∧ wr.ownsRow (w.heap.size + 2) 37 9 v k (List.replicate k standC).flatten ∧ Blk wr w.heap.size 37 [.int .i64 e.kind, .int .i64 e.fn, .int .i64 e.op, .int .i64 e.num, .string e.metric, .slice pm e.mats.length cm, .int .i64 e.span, .slice pn e.names.length cn, v] ∧ Blk wr (w.heap.size + 1) 37 [.int .i64 0, .int .i64 0, .int .i64 0, .int .i64 0, .string ⟨#[]⟩, .slice none 0 0, .int .i64 0, .slice none 0 0, .slice none 0 0] ∧ Below w.heap.size w wr ∧ w.heap.size + 2 ≤ wr.heap.size) (fun i _ => 0 - (intOf i).toNat)
    case atStart => exact ⟨0, .slice none 0 0, Nat.zero_le _, rfl, World.ownsRow_nil _ _ _ _, HB1.out, HB2.out, HB.out, HZ1.out⟩
    case round =>
      obtain ⟨k, v, hk, rfl, hown, hb1, hb2, hb, hsz⟩ := hrel; have Hown := Lib.hid hown; have H1 := Lib.hid hb1; have H2 := Lib.hid hb2; have Hb := Lib.hid hb; clear hown hb1 hb2 hb
      by_cases hlt : k < 0
      · omega
      · have hk' : k = 0 := by omega
        subst hk'; obtain ⟨ad, cp, rfl⟩ := ownsRow_slice Hown.out; have h1 := H1.out; have c0 := h1.cell 0 _ rfl; have c1 := h1.cell 1 _ rfl; have c2 := h1.cell 2 _ rfl; have c3 := h1.cell 3 _ rfl; have c4 := h1.cell 4 _ rfl; have c5 := h1.cell 5 _ rfl; have c6 := h1.cell 6 _ rfl; have c7 := h1.cell 7 _ rfl; have c8 := h1.cell 8 _ rfl; clear h1
        go_wp2_with (refine wpList_store_row rfl 37 _ _ rfl (w.heap.size + 1) #[.int .i64 e.kind, .int .i64 e.fn, .int .i64 e.op, .int .i64 e.num, .string e.metric, .slice pm e.mats.length cm, .int .i64 e.span, .slice pn e.names.length cn, .slice ad 0 cp] rfl rfl 37 _ H2.out (by kernel_rfl) rfl (by kernel_rfl) ?_)
        refine bodyPost_agg (g := w.heap.size + 1) (fr := (0, 0)) rfl rfl (setRow_at H2.out _) Tryz.underlying37 rfl (by kernel_rfl) rfl ?_; refine ⟨[.int .i64 e.kind, .int .i64 e.fn, .int .i64 e.op, .int .i64 e.num, .string e.metric, .slice pm e.mats.length cm, .int .i64 e.span, .slice pn e.names.length cn, .slice ad 0 cp], rfl, ?_, below_setRow Hb.out (by omega) _⟩; have hfo := ownsRow_offM Hown.out (OffM.row wr (w.heap.size + 1) #[.int .i64 e.kind, .int .i64 e.fn, .int .i64 e.op, .int .i64 e.num, .string e.metric, .slice pm e.mats.length cm, .int .i64 e.span, .slice pn e.names.length cn, .slice ad 0 cp]) (fun g hg e => by have := (ownsRow_block Hown.out g hg).1; omega); have hex := (stands_own (n := w.heap.size) hfo).exs (Nat.le_refl _) (by rw [setRow_size]; omega); obtain ⟨rows, a1, a2, a3⟩ := hex; have hbf := below_setRow (B := w.heap.size) (g := w.heap.size + 1) Hb.out (by omega) #[.int .i64 e.kind, .int .i64 e.fn, .int .i64 e.op, .int .i64 e.num, .string e.metric, .slice pm e.mats.length cm, .int .i64 e.span, .slice pn e.names.length cn, .slice ad 0 cp]; have e1 : wholeX 120 e = .mk e.kind e.fn e.op e.num e.metric e.mats e.span e.names (List.replicate 0 (standX 120)) := by unfold wholeX Ex.withKids; rw [← HKK.out]
        rw [e1]; exact .mk Hms.out (Hma.out.mono (hbf.mono hn) (Nat.le_trans hn hbf.size)) (Hna.out.mono (hbf.mono hn) (Nat.le_trans hn hbf.size)) a1 a2 a3
end Go.Proofs.YtdjdikiimhhjpaaGreatDoor
namespace Go.Proofs.YtdjdikiimhhjpaaGreatDoor
open Go.RowKit
set_option linter.unusedSimpArgs false
set_option linter.unusedVariables false
theorem IsNds.front {n : Nat} {w : World} {p : Option Addr} {len cap : Nat} {l : List Nd} (h : IsNds n w (.slice p len cap) l) {k : Nat} (hk : k ≤ l.length) : IsNds n w (.slice p k cap) (l.take k) := by
  obtain ⟨rows, h1, h2, h3⟩ := h
  obtain ⟨p', cap', hv, a1, a2, a3⟩ := h1
  injection hv with e1 e2 e3
  subst e1 e2 e3
  refine ⟨rows.take k, ⟨p, cap, by rw [List.length_take]; congr 1; omega, by rw [List.length_take]; omega, a2, fun hne => ?_⟩, by rw [List.length_take, List.length_take, h2], fun j r x hr hx => ?_⟩
  · obtain ⟨b, off, hp, hb, hc⟩ := a3 (fun e => hne (by rw [e]; simp))
    refine ⟨b, off, hp, hb, fun j r hr i x hx => hc j r ?_ i x hx⟩
    by_cases hj : j < k
    · rwa [List.getElem?_take_of_lt hj] at hr
    · rw [List.getElem?_eq_none (by rw [List.length_take]; omega)] at hr; cases hr
  · by_cases hj : j < k
    · rw [List.getElem?_take_of_lt hj] at hr hx
      exact h3 j r x hr hx
    · rw [List.getElem?_eq_none (by rw [List.length_take]; omega)] at hr; cases hr
noncomputable def okB (p : List Nd) (i : Nat) (x : Nd) : Bool := @decide (OkNd p i x) (Classical.propDecidable _)
theorem okB_false {p : List Nd} {i : Nat} {x : Nd} (h : ¬ OkNd p i x) : okB p i x = false := @decide_eq_false _ (Classical.propDecidable _) h
def InOk (p : List Nd) (i : Nat) (x : Nd) (m : Int) : Prop := 1 ≤ m ∧ m ≤ (i : Int) ∧ ∃ y, p[m.toNat - 1]? = some y ∧ y.every = x.every
theorem any_iff {x : Nd} {l : List Nd} : l.any (ndEq x) = true ↔ x ∈ l := by
  rw [List.any_eq_true]
  constructor
  · rintro ⟨y, h1, h2⟩; rw [ndEq_iff] at h2; subst h2; exact h1
  · intro h; exact ⟨x, h, by rw [ndEq_iff]⟩
theorem okB_last {p : List Nd} {i : Nat} {x : Nd} (h1 : x.ex.kids = []) (h2 : (x.ins.length : Int) = kidsOf x.ex.kind) (h3 : checkQuery x.every (wholeX 120 x.ex) = 0) (h4 : ∀ m ∈ x.ins, InOk p i x m) : okB p i x = !((p.take i).any (ndEq x)) := by
  cases hb : (p.take i).any (ndEq x) with
  | true => exact okB_false (fun h => h.new (any_iff.1 hb))
  | false =>
    refine @decide_eq_true _ (Classical.propDecidable _) ⟨h1, h2, h3, h4, fun h => ?_⟩; rw [any_iff.2 h] at hb; cases hb
theorem pRight (p : List Nd) (v : Value) (i n : Nat) (w : World) (hn : n ≤ w.heap.size) (hp : IsNds n w v p) (hi : i < p.length) (hl : p.length ≤ 1000) :
    Calls Tryz.prog 35 #[v, .int .i64 i] w fun e' w' => e' = .returned (.bool (okB p i p[i])) ∧ Below w.heap.size w w' := by
  obtain ⟨pp, cp, rfl, _, hcm, _⟩ := hp.open
  have HP := Lib.hid hp
  unfold maxLen at hcm
  obtain ⟨b, off, pm, cm, pn, cn, pk, ck, pi, ci, rfl, hbn, hex, hix, hc⟩ := hp.get hi
  have hsz : (i : Int) < (p.length : Int) := by omega
  have hgi : p[i]? = some p[i] := by simp
  have Hgi := Lib.hid hgi
  obtain ⟨x, hx⟩ : ∃ x, p[i] = x := ⟨_, rfl⟩
  rw [hx] at hex hix hc Hgi ⊢
  have c0 := hc 0 _ rfl; have c1 := hc 1 _ rfl; have c2 := hc 2 _ rfl; have c3 := hc 3 _ rfl; have c4 := hc 4 _ rfl; have c5 := hc 5 _ rfl; have c6 := hc 6 _ rfl; have c7 := hc 7 _ rfl; have c8 := hc 8 _ rfl; have c9 := hc 9 _ rfl; have c10 := hc 10 _ rfl
  simp only [Nat.add_zero] at c0
  have Hex := Lib.hid hex; have Hix := Lib.hid hix
  obtain ⟨_, _, hiv, _, _, hil⟩ := hix.open
  unfold maxLen at hil
  clear hc hex hix hx hp hiv hgi
  go_enter Tryz.func35, Tryz.ntmps35; (try simp only [List.append_eq, List.cons_append, List.nil_append])
  go_upto_region 2 with fail
  obtain ⟨X, hW⟩ : ∃ z, w.alloc (.cells #[.int .i64 x.every, .int .i64 x.ex.kind, .int .i64 x.ex.fn, .int .i64 x.ex.op, .int .i64 x.ex.num, .string x.ex.metric, .slice pm x.ex.mats.length cm, .int .i64 x.ex.span, .slice pn x.ex.names.length cn, .slice pk x.ex.kids.length ck, .slice pi x.ins.length ci] 39) = z := ⟨_, rfl⟩
  have kb : Below w.heap.size w X := by rw [← hW]; exact (Below.refl _ _).alloc (Nat.le_refl _) _
  have B1 : Blk X w.heap.size 39 [.int .i64 x.every, .int .i64 x.ex.kind, .int .i64 x.ex.fn, .int .i64 x.ex.op, .int .i64 x.ex.num, .string x.ex.metric, .slice pm x.ex.mats.length cm, .int .i64 x.ex.span, .slice pn x.ex.names.length cn, .slice pk x.ex.kids.length ck, .slice pi x.ins.length ci] := by rw [← hW]; exact Blk.new w [.int .i64 x.every, .int .i64 x.ex.kind, .int .i64 x.ex.fn, .int .i64 x.ex.op, .int .i64 x.ex.num, .string x.ex.metric, .slice pm x.ex.mats.length cm, .int .i64 x.ex.span, .slice pn x.ex.names.length cn, .slice pk x.ex.kids.length ck, .slice pi x.ins.length ci] _
  rw [hW]; clear hW c0 c1 c2 c3 c4 c5 c6 c7 c8 c9 c10
  have HB := Lib.hid kb; have HX := Lib.hid B1
  clear kb B1
  by_cases hk : x.ex.kids = []
  case neg =>
    have hkl : 0 < x.ex.kids.length := by
      have : x.ex.kids.length ≠ 0 := fun e => hk (List.eq_nil_of_length_eq_zero e)
      omega
    have HF := Lib.hid (okB_false (p := p) (i := i) (x := x) (fun h => hk h.bare)); clear hk; refine wp_region_held_drew (S := fun W => Blk W w.heap.size 39 [.int .i64 x.every, .int .i64 x.ex.kind, .int .i64 x.ex.fn, .int .i64 x.ex.op, .int .i64 x.ex.num, .string x.ex.metric, .slice pm x.ex.mats.length cm, .int .i64 x.ex.span, .slice pn x.ex.names.length cn, .slice pk x.ex.kids.length ck, .slice pi x.ins.length ci]) (by kernel_rfl) HX.out.drew (fun hHeld => ?_); have hd : Below X.heap.size X X.drew := Below.drew (Below.refl _ _); have HX := Lib.hid (HX.out.keep hd); have HB := Lib.hid (HB.out.trans (hd.mono HB.out.size)); clear hd
    (refine htk 0 12 ?_ rfl ?_ ?_; rotate_left; (intro w hSw; clear hSw; go_simp); (try with_reducible rfl); simp only [lsz, lss])
    (refine htk 1 13 ?_ rfl ?_ ?_; rotate_left; (intro w hSw; clear hSw; go_simp); (try with_reducible rfl); simp only [lsz, lss])
    (refine htk 2 14 (.slice pk x.ex.kids.length ck) rfl ?_ ?_; (intro w hSw; have q9 := hSw.cell 9 _ rfl; go_simp); simp only [lsz, lss])
    (refine htk 3 15 ?_ rfl ?_ ?_; rotate_left; (intro w hSw; clear hSw; go_simp); (try with_reducible rfl); simp only [lsz, lss])
    (refine htk 4 16 ?_ rfl ?_ ?_; rotate_left; (intro w hSw; clear hSw; go_simp); (try with_reducible rfl); simp only [lsz, lss])
    (refine htk 5 17 ?_ rfl ?_ ?_; rotate_left; (intro w hSw; clear hSw; go_simp); (try with_reducible rfl); simp only [lsz, lss])
    (refine held_skip 6 18 rfl (by kernel_rfl) (by kernel_rfl) (by kernel_rfl) (by kernel_rfl) (fun _ _ _ h => h) (by kernel_rfl) (by assumption) ?_; simp only [lsz, lss])
    (refine held_skip 7 19 rfl (by kernel_rfl) (by kernel_rfl) (by kernel_rfl) (by kernel_rfl) (fun _ _ _ h => h) (by kernel_rfl) (by assumption) ?_; simp only [lsz, lss])
    (refine held_skip 8 20 rfl (by kernel_rfl) (by kernel_rfl) (by kernel_rfl) (by kernel_rfl) (fun _ _ _ h => h) (by kernel_rfl) (by assumption) ?_; simp only [lsz, lss])
    (refine held_skip 9 21 rfl (by kernel_rfl) (by kernel_rfl) (by kernel_rfl) (by kernel_rfl) (fun _ _ _ h => h) (by kernel_rfl) (by assumption) ?_; simp only [lsz, lss])
    (refine held_skip 10 22 rfl (by kernel_rfl) (by kernel_rfl) (by kernel_rfl) (by kernel_rfl) (fun _ _ _ h => h) (by kernel_rfl) (by assumption) ?_; simp only [lsz, lss])
    (refine held_skip 11 23 rfl (by kernel_rfl) (by kernel_rfl) (by kernel_rfl) (by kernel_rfl) (fun _ _ _ h => h) (by kernel_rfl) (by assumption) ?_; simp only [lsz, lss])
    (refine held_skip 12 24 rfl (by kernel_rfl) (by kernel_rfl) (by kernel_rfl) (by kernel_rfl) (fun _ _ _ h => h) (by kernel_rfl) (by assumption) ?_; simp only [lsz, lss])
    (refine held_skip 13 25 rfl (by kernel_rfl) (by kernel_rfl) (by kernel_rfl) (by kernel_rfl) (fun _ _ _ h => h) (by kernel_rfl) (by assumption) ?_; simp only [lsz, lss])
    (refine htk 14 26 ?_ rfl ?_ ?_; rotate_left; (intro w hSw; clear hSw; go_simp); (try with_reducible rfl); simp only [lsz, lss])
    (refine htk 15 27 ?_ rfl ?_ ?_; rotate_left; (intro w hSw; clear hSw; go_simp); (try with_reducible rfl); simp only [lsz, lss])
    (refine held_skip 16 28 rfl (by kernel_rfl) (by kernel_rfl) (by kernel_rfl) (by kernel_rfl) (fun _ _ _ h => h) (by kernel_rfl) (by assumption) ?_; simp only [lsz, lss])
    (refine held_skip 17 29 rfl (by kernel_rfl) (by kernel_rfl) (by kernel_rfl) (by kernel_rfl) (fun _ _ _ h => h) (by kernel_rfl) (by assumption) ?_; simp only [lsz, lss])
    (refine held_skip 18 30 rfl (by kernel_rfl) (by kernel_rfl) (by kernel_rfl) (by kernel_rfl) (fun _ _ _ h => h) (by kernel_rfl) (by assumption) ?_; simp only [lsz, lss])
    (refine held_skip 19 31 rfl (by kernel_rfl) (by kernel_rfl) (by kernel_rfl) (by kernel_rfl) (fun _ _ _ h => h) (by kernel_rfl) (by assumption) ?_; simp only [lsz, lss])
    (refine held_skip 20 32 rfl (by kernel_rfl) (by kernel_rfl) (by kernel_rfl) (by kernel_rfl) (fun _ _ _ h => h) (by kernel_rfl) (by assumption) ?_; simp only [lsz, lss])
    (refine held_skip 21 33 rfl (by kernel_rfl) (by kernel_rfl) (by kernel_rfl) (by kernel_rfl) (fun _ _ _ h => h) (by kernel_rfl) (by assumption) ?_; simp only [lsz, lss])
    (refine held_skip 22 34 rfl (by kernel_rfl) (by kernel_rfl) (by kernel_rfl) (by kernel_rfl) (fun _ _ _ h => h) (by kernel_rfl) (by assumption) ?_; simp only [lsz, lss])
    (refine held_skip 23 35 rfl (by kernel_rfl) (by kernel_rfl) (by kernel_rfl) (by kernel_rfl) (fun _ _ _ h => h) (by kernel_rfl) (by assumption) ?_; simp only [lsz, lss])
    (refine htk 24 36 (.bool true) rfl (by intro w hSw; clear hSw; go_simp) ?_); (try simp only [lsz, lss])
    refine wpAnyH_done (by kernel_rfl) ?_ _; go_wp2; go_ret; exact ⟨ret_bool HF.out.symm, HB.out⟩
  have Hk := Lib.hid hk
  have hkl : x.ex.kids.length = 0 := by rw [hk]; rfl
  clear hk
  have HC := Lib.hid (fun X => aKids x.ex.kind X)
  obtain ⟨q, hq⟩ : ∃ q, kidsOf x.ex.kind = q := ⟨_, rfl⟩
  rw [hq] at HC
  have Hq := Lib.hid hq; clear hq
  by_cases hlq : (x.ins.length : Int) = q
  case neg =>
    have hlb : ((x.ins.length : Int) != q) = true := by simpa using hlq
    have HF := Lib.hid (okB_false (p := p) (i := i) (x := x) (fun h => hlq (h.len.trans Hq.out))); clear hlq; refine wp_region_held_drew (S := fun W => Blk W w.heap.size 39 [.int .i64 x.every, .int .i64 x.ex.kind, .int .i64 x.ex.fn, .int .i64 x.ex.op, .int .i64 x.ex.num, .string x.ex.metric, .slice pm x.ex.mats.length cm, .int .i64 x.ex.span, .slice pn x.ex.names.length cn, .slice pk x.ex.kids.length ck, .slice pi x.ins.length ci]) (by kernel_rfl) HX.out.drew (fun hHeld => ?_); have hd : Below X.heap.size X X.drew := Below.drew (Below.refl _ _); have HX := Lib.hid (HX.out.keep hd); have HB := Lib.hid (HB.out.trans (hd.mono HB.out.size)); clear hd
    (refine htk 0 12 ?_ rfl ?_ ?_; rotate_left; (intro w hSw; clear hSw; go_simp); (try with_reducible rfl); simp only [lsz, lss])
    (refine htk 1 13 ?_ rfl ?_ ?_; rotate_left; (intro w hSw; clear hSw; go_simp); (try with_reducible rfl); simp only [lsz, lss])
    (refine htk 2 14 (.slice pk x.ex.kids.length ck) rfl ?_ ?_; (intro w hSw; have q9 := hSw.cell 9 _ rfl; go_simp); simp only [lsz, lss])
    (refine htk 3 15 ?_ rfl ?_ ?_; rotate_left; (intro w hSw; clear hSw; go_simp); (try with_reducible rfl); simp only [lsz, lss])
    (refine htk 4 16 ?_ rfl ?_ ?_; rotate_left; (intro w hSw; clear hSw; go_simp); (try with_reducible rfl); simp only [lsz, lss])
    (refine htk 5 17 ?_ rfl ?_ ?_; rotate_left; (intro w hSw; clear hSw; go_simp); (try with_reducible rfl); simp only [lsz, lss])
    (refine htk 6 18 ?_ rfl ?_ ?_; rotate_left; (intro w hSw; clear hSw; go_simp); (try with_reducible rfl); simp only [lsz, lss])
    (refine htk 7 19 (.slice pi x.ins.length ci) rfl ?_ ?_; (intro w hSw; have q10 := hSw.cell 10 _ rfl; go_simp); simp only [lsz, lss])
    (refine htk 8 20 ?_ rfl ?_ ?_; rotate_left; (intro w hSw; clear hSw; go_simp); (try with_reducible rfl); simp only [lsz, lss])
    (refine htk 9 21 ?_ rfl ?_ ?_; rotate_left; (intro w hSw; clear hSw; go_simp); (try with_reducible rfl); simp only [lsz, lss])
    (refine htk 10 22 ?_ rfl ?_ ?_; rotate_left; (intro w hSw; clear hSw; go_simp); (try with_reducible rfl); simp only [lsz, lss])
    (refine htk 11 23 (.int .i64 x.ex.kind) rfl ?_ ?_; (intro w hSw; have q1 := hSw.cell 1 _ rfl; go_simp); simp only [lsz, lss])
    (refine hrd 12 rfl (fun K hK => ?_))
    rw [if_pos (by kernel_rfl)]
    go_simp
    refine (HC.out _).mono ?_; rintro e' x2 ⟨rfl, hb⟩; have HX := Lib.hid (HX.out.keep hb); have HB := Lib.hid (HB.out.trans (hb.mono HB.out.size)); clear hb
    dsimp only
    refine hK.out _ _ HX.out (fun hHeld => ?_); clear hK K
    (try simp only [Act.put, lsa, lsz, lss])
    (refine htk 13 25 ?_ rfl ?_ ?_; rotate_left; (intro w hSw; clear hSw; go_simp); (try with_reducible rfl); simp only [lsz, lss])
    (refine htk 14 26 ?_ rfl ?_ ?_; rotate_left; (intro w hSw; clear hSw; go_simp); (try with_reducible rfl); simp only [lsz, lss])
    (refine htk 15 27 ?_ rfl ?_ ?_; rotate_left; (intro w hSw; clear hSw; go_simp); (try with_reducible rfl); simp only [lsz, lss])
    (refine held_skip 16 28 rfl (by kernel_rfl) (by kernel_rfl) (by kernel_rfl) (by kernel_rfl) (fun _ _ _ h => h) (by kernel_rfl) (by assumption) ?_; simp only [lsz, lss])
    (refine held_skip 17 29 rfl (by kernel_rfl) (by kernel_rfl) (by kernel_rfl) (by kernel_rfl) (fun _ _ _ h => h) (by kernel_rfl) (by assumption) ?_; simp only [lsz, lss])
    (refine held_skip 18 30 rfl (by kernel_rfl) (by kernel_rfl) (by kernel_rfl) (by kernel_rfl) (fun _ _ _ h => h) (by kernel_rfl) (by assumption) ?_; simp only [lsz, lss])
    (refine held_skip 19 31 rfl (by kernel_rfl) (by kernel_rfl) (by kernel_rfl) (by kernel_rfl) (fun _ _ _ h => h) (by kernel_rfl) (by assumption) ?_; simp only [lsz, lss])
    (refine held_skip 20 32 rfl (by kernel_rfl) (by kernel_rfl) (by kernel_rfl) (by kernel_rfl) (fun _ _ _ h => h) (by kernel_rfl) (by assumption) ?_; simp only [lsz, lss])
    (refine held_skip 21 33 rfl (by kernel_rfl) (by kernel_rfl) (by kernel_rfl) (by kernel_rfl) (fun _ _ _ h => h) (by kernel_rfl) (by assumption) ?_; simp only [lsz, lss])
    (refine held_skip 22 34 rfl (by kernel_rfl) (by kernel_rfl) (by kernel_rfl) (by kernel_rfl) (fun _ _ _ h => h) (by kernel_rfl) (by assumption) ?_; simp only [lsz, lss])
    (refine held_skip 23 35 rfl (by kernel_rfl) (by kernel_rfl) (by kernel_rfl) (by kernel_rfl) (fun _ _ _ h => h) (by kernel_rfl) (by assumption) ?_; simp only [lsz, lss])
    (refine htk 24 36 (.bool true) rfl (by intro w hSw; clear hSw; go_simp) ?_); (try simp only [lsz, lss])
    refine wpAnyH_done (by kernel_rfl) ?_ _; go_wp2; go_ret; exact ⟨ret_bool HF.out.symm, HB.out⟩
  have hlb : ((x.ins.length : Int) != q) = false := by simpa using hlq
  have Hlq := Lib.hid hlq; clear hlq
  have hex0 := Hex.out
  rw [hkl] at hex0
  have HWh := Lib.hid (fun X (h : Below w.heap.size w X) => pWhole x.ex [.int .i64 x.ex.kind, .int .i64 x.ex.fn, .int .i64 x.ex.op, .int .i64 x.ex.num, .string x.ex.metric, .slice pm x.ex.mats.length cm, .int .i64 x.ex.span, .slice pn x.ex.names.length cn, .slice pk 0 ck] n X (Nat.le_trans hn h.size) (hex0.mono (h.mono hn) (Nat.le_refl _)))
  clear hex0
  have hszw : (wholeX 120 x.ex).size ≤ 1000000 := by
    have := kidsOf_bd x.ex.kind; rw [Ex.size_eq]; have e1 : (wholeX 120 x.ex).kids = List.replicate (kidsOf x.ex.kind).toNat (standX 120) := rfl; rw [e1, sizes_rep (standX 120) rfl]; omega
  have HCh := Lib.hid (fun X cs (h : IsEx X.heap.size X (wholeX 120 x.ex) cs) => aCheck x.every (wholeX 120 x.ex) cs _ X (Nat.le_refl _) h hszw)
  clear hszw
  obtain ⟨cq, hcq⟩ : ∃ cq, checkQuery x.every (wholeX 120 x.ex) = cq := ⟨_, rfl⟩
  rw [hcq] at HCh
  have Hcq := Lib.hid hcq; clear hcq
  by_cases hc0 : cq = 0
  case neg =>
    have hcb : (cq != 0) = true := by simpa using hc0
    have HF := Lib.hid (okB_false (p := p) (i := i) (x := x) (fun h => hc0 (Hcq.out.symm.trans h.whole))); clear hc0; refine wp_region_held_drew (S := fun W => Blk W w.heap.size 39 [.int .i64 x.every, .int .i64 x.ex.kind, .int .i64 x.ex.fn, .int .i64 x.ex.op, .int .i64 x.ex.num, .string x.ex.metric, .slice pm x.ex.mats.length cm, .int .i64 x.ex.span, .slice pn x.ex.names.length cn, .slice pk x.ex.kids.length ck, .slice pi x.ins.length ci]) (by kernel_rfl) HX.out.drew (fun hHeld => ?_); have hd : Below X.heap.size X X.drew := Below.drew (Below.refl _ _); have HX := Lib.hid (HX.out.keep hd); have HB := Lib.hid (HB.out.trans (hd.mono HB.out.size)); clear hd
    (refine htk 0 12 ?_ rfl ?_ ?_; rotate_left; (intro w hSw; clear hSw; go_simp); (try with_reducible rfl); simp only [lsz, lss])
    (refine htk 1 13 ?_ rfl ?_ ?_; rotate_left; (intro w hSw; clear hSw; go_simp); (try with_reducible rfl); simp only [lsz, lss])
    (refine htk 2 14 (.slice pk x.ex.kids.length ck) rfl ?_ ?_; (intro w hSw; have q9 := hSw.cell 9 _ rfl; go_simp); simp only [lsz, lss])
    (refine htk 3 15 ?_ rfl ?_ ?_; rotate_left; (intro w hSw; clear hSw; go_simp); (try with_reducible rfl); simp only [lsz, lss])
    (refine htk 4 16 ?_ rfl ?_ ?_; rotate_left; (intro w hSw; clear hSw; go_simp); (try with_reducible rfl); simp only [lsz, lss])
    (refine htk 5 17 ?_ rfl ?_ ?_; rotate_left; (intro w hSw; clear hSw; go_simp); (try with_reducible rfl); simp only [lsz, lss])
    (refine htk 6 18 ?_ rfl ?_ ?_; rotate_left; (intro w hSw; clear hSw; go_simp); (try with_reducible rfl); simp only [lsz, lss])
    (refine htk 7 19 (.slice pi x.ins.length ci) rfl ?_ ?_; (intro w hSw; have q10 := hSw.cell 10 _ rfl; go_simp); simp only [lsz, lss])
    (refine htk 8 20 ?_ rfl ?_ ?_; rotate_left; (intro w hSw; clear hSw; go_simp); (try with_reducible rfl); simp only [lsz, lss])
    (refine htk 9 21 ?_ rfl ?_ ?_; rotate_left; (intro w hSw; clear hSw; go_simp); (try with_reducible rfl); simp only [lsz, lss])
    (refine htk 10 22 ?_ rfl ?_ ?_; rotate_left; (intro w hSw; clear hSw; go_simp); (try with_reducible rfl); simp only [lsz, lss])
    (refine htk 11 23 (.int .i64 x.ex.kind) rfl ?_ ?_; (intro w hSw; have q1 := hSw.cell 1 _ rfl; go_simp); simp only [lsz, lss])
    (refine hrd 12 rfl (fun K hK => ?_))
    rw [if_pos (by kernel_rfl)]
    go_simp
    refine (HC.out _).mono ?_; rintro e' x2 ⟨rfl, hb⟩; have HX := Lib.hid (HX.out.keep hb); have HB := Lib.hid (HB.out.trans (hb.mono HB.out.size)); clear hb
    dsimp only
    refine hK.out _ _ HX.out (fun hHeld => ?_); clear hK K
    (try simp only [Act.put, lsa, lsz, lss])
    (refine htk 13 25 ?_ rfl ?_ ?_; rotate_left; (intro w hSw; clear hSw; go_simp); (try with_reducible rfl); simp only [lsz, lss])
    (refine htk 14 26 ?_ rfl ?_ ?_; rotate_left; (intro w hSw; clear hSw; go_simp); (try with_reducible rfl); simp only [lsz, lss])
    (refine htk 15 27 ?_ rfl ?_ ?_; rotate_left; (intro w hSw; clear hSw; go_simp); (try with_reducible rfl); simp only [lsz, lss])
    (refine htk 16 28 ?_ rfl ?_ ?_; rotate_left; (intro w hSw; clear hSw; go_simp); (try with_reducible rfl); simp only [lsz, lss])
    (refine htk 17 29 (.int .i64 x.every) rfl ?_ ?_; (intro w hSw; have q0 := hSw.cell 0 _ rfl; go_simp); simp only [lsz, lss])
    (refine htk 18 30 ?_ rfl ?_ ?_; rotate_left; (intro w hSw; clear hSw; go_simp); (try with_reducible rfl); simp only [lsz, lss])
    (refine htk 19 31 (.agg #[.int .i64 x.ex.kind, .int .i64 x.ex.fn, .int .i64 x.ex.op, .int .i64 x.ex.num, .string x.ex.metric, .slice pm x.ex.mats.length cm, .int .i64 x.ex.span, .slice pn x.ex.names.length cn, .slice pk 0 ck]) rfl ?_ ?_; (intro w hSw; have q1 := hSw.cell 1 _ rfl; have q2 := hSw.cell 2 _ rfl; have q3 := hSw.cell 3 _ rfl; have q4 := hSw.cell 4 _ rfl; have q5 := hSw.cell 5 _ rfl; have q6 := hSw.cell 6 _ rfl; have q7 := hSw.cell 7 _ rfl; have q8 := hSw.cell 8 _ rfl; have q9 := hSw.cell 9 _ rfl; go_simp); simp only [lsz, lss])
    (refine hrd 20 rfl (fun K hK => ?_))
    rw [if_pos (by kernel_rfl)]
    go_simp
    refine (HWh.out _ HB.out).mono ?_; rintro e' x3 ⟨cs, rfl, hxw, hb⟩; have HX := Lib.hid (HX.out.keep hb); have HB := Lib.hid (HB.out.trans (hb.mono HB.out.size)); clear hb; have HXW := Lib.hid hxw; obtain ⟨um, dm, un, dn, uk, dk, rfl, -⟩ := hxw.cellsE; clear hxw
    dsimp only
    refine hK.out _ _ HX.out (fun hHeld => ?_); clear hK K
    (try simp only [Act.put, lsa, lsz, lss])
    (refine htk 21 33 ?_ rfl ?_ ?_; rotate_left; (intro w hSw; clear hSw; go_simp); (try with_reducible rfl); simp only [lsz, lss])
    (refine hrd 22 rfl (fun K hK => ?_))
    rw [if_pos (by kernel_rfl)]
    go_simp
    refine (HCh.out _ _ HXW.out).mono ?_; rintro e' x4 ⟨rfl, hb⟩; have HX := Lib.hid (HX.out.keep hb); have HB := Lib.hid (HB.out.trans (hb.mono HB.out.size)); clear hb HXW
    dsimp only
    refine hK.out _ _ HX.out (fun hHeld => ?_); clear hK K
    (try simp only [Act.put, lsa, lsz, lss])
    (refine htk 23 35 ?_ rfl ?_ ?_; rotate_left; (intro w hSw; clear hSw; go_simp); (try with_reducible rfl); simp only [lsz, lss])
    (refine htk 24 36 (.bool true) rfl (by intro w hSw; clear hSw; go_simp) ?_); (try simp only [lsz, lss])
    refine wpAnyH_done (by kernel_rfl) ?_ _; go_wp2; go_ret; exact ⟨ret_bool HF.out.symm, HB.out⟩
  have hcb : (cq != 0) = false := by simpa using hc0
  have Hc0 := Lib.hid hc0; clear hc0
  refine wp_region_held_drew (S := fun W => Blk W w.heap.size 39 [.int .i64 x.every, .int .i64 x.ex.kind, .int .i64 x.ex.fn, .int .i64 x.ex.op, .int .i64 x.ex.num, .string x.ex.metric, .slice pm x.ex.mats.length cm, .int .i64 x.ex.span, .slice pn x.ex.names.length cn, .slice pk x.ex.kids.length ck, .slice pi x.ins.length ci]) (by kernel_rfl) HX.out.drew (fun hHeld => ?_)
  have hd : Below X.heap.size X X.drew := Below.drew (Below.refl _ _)
  have HX := Lib.hid (HX.out.keep hd)
  have HB := Lib.hid (HB.out.trans (hd.mono HB.out.size)); clear hd
  (refine htk 0 12 ?_ rfl ?_ ?_; rotate_left; (intro w hSw; clear hSw; go_simp); (try with_reducible rfl); simp only [lsz, lss])
  (refine htk 1 13 ?_ rfl ?_ ?_; rotate_left; (intro w hSw; clear hSw; go_simp); (try with_reducible rfl); simp only [lsz, lss])
  (refine htk 2 14 (.slice pk x.ex.kids.length ck) rfl ?_ ?_; (intro w hSw; have q9 := hSw.cell 9 _ rfl; go_simp); simp only [lsz, lss])
  (refine htk 3 15 ?_ rfl ?_ ?_; rotate_left; (intro w hSw; clear hSw; go_simp); (try with_reducible rfl); simp only [lsz, lss])
  (refine htk 4 16 ?_ rfl ?_ ?_; rotate_left; (intro w hSw; clear hSw; go_simp); (try with_reducible rfl); simp only [lsz, lss])
  (refine htk 5 17 ?_ rfl ?_ ?_; rotate_left; (intro w hSw; clear hSw; go_simp); (try with_reducible rfl); simp only [lsz, lss])
  (refine htk 6 18 ?_ rfl ?_ ?_; rotate_left; (intro w hSw; clear hSw; go_simp); (try with_reducible rfl); simp only [lsz, lss])
  (refine htk 7 19 (.slice pi x.ins.length ci) rfl ?_ ?_; (intro w hSw; have q10 := hSw.cell 10 _ rfl; go_simp); simp only [lsz, lss])
  (refine htk 8 20 ?_ rfl ?_ ?_; rotate_left; (intro w hSw; clear hSw; go_simp); (try with_reducible rfl); simp only [lsz, lss])
  (refine htk 9 21 ?_ rfl ?_ ?_; rotate_left; (intro w hSw; clear hSw; go_simp); (try with_reducible rfl); simp only [lsz, lss])
  (refine htk 10 22 ?_ rfl ?_ ?_; rotate_left; (intro w hSw; clear hSw; go_simp); (try with_reducible rfl); simp only [lsz, lss])
  (refine htk 11 23 (.int .i64 x.ex.kind) rfl ?_ ?_; (intro w hSw; have q1 := hSw.cell 1 _ rfl; go_simp); simp only [lsz, lss])
  (refine hrd 12 rfl (fun K hK => ?_))
  rw [if_pos (by kernel_rfl)]
  go_simp
  refine (HC.out _).mono ?_
  rintro e' x2 ⟨rfl, hb⟩
  have HX := Lib.hid (HX.out.keep hb)
  have HB := Lib.hid (HB.out.trans (hb.mono HB.out.size)); clear hb
  dsimp only
  refine hK.out _ _ HX.out (fun hHeld => ?_)
  clear hK K
  (try simp only [Act.put, lsa, lsz, lss])
  (refine htk 13 25 ?_ rfl ?_ ?_; rotate_left; (intro w hSw; clear hSw; go_simp); (try with_reducible rfl); simp only [lsz, lss])
  (refine htk 14 26 ?_ rfl ?_ ?_; rotate_left; (intro w hSw; clear hSw; go_simp); (try with_reducible rfl); simp only [lsz, lss])
  (refine htk 15 27 ?_ rfl ?_ ?_; rotate_left; (intro w hSw; clear hSw; go_simp); (try with_reducible rfl); simp only [lsz, lss])
  (refine htk 16 28 ?_ rfl ?_ ?_; rotate_left; (intro w hSw; clear hSw; go_simp); (try with_reducible rfl); simp only [lsz, lss])
  (refine htk 17 29 (.int .i64 x.every) rfl ?_ ?_; (intro w hSw; have q0 := hSw.cell 0 _ rfl; go_simp); simp only [lsz, lss])
  (refine htk 18 30 ?_ rfl ?_ ?_; rotate_left; (intro w hSw; clear hSw; go_simp); (try with_reducible rfl); simp only [lsz, lss])
  (refine htk 19 31 (.agg #[.int .i64 x.ex.kind, .int .i64 x.ex.fn, .int .i64 x.ex.op, .int .i64 x.ex.num, .string x.ex.metric, .slice pm x.ex.mats.length cm, .int .i64 x.ex.span, .slice pn x.ex.names.length cn, .slice pk 0 ck]) rfl ?_ ?_; (intro w hSw; have q1 := hSw.cell 1 _ rfl; have q2 := hSw.cell 2 _ rfl; have q3 := hSw.cell 3 _ rfl; have q4 := hSw.cell 4 _ rfl; have q5 := hSw.cell 5 _ rfl; have q6 := hSw.cell 6 _ rfl; have q7 := hSw.cell 7 _ rfl; have q8 := hSw.cell 8 _ rfl; have q9 := hSw.cell 9 _ rfl; go_simp); simp only [lsz, lss])
  (refine hrd 20 rfl (fun K hK => ?_))
  rw [if_pos (by kernel_rfl)]
  go_simp
  refine (HWh.out _ HB.out).mono ?_
  rintro e' x3 ⟨cs, rfl, hxw, hb⟩
  have HX := Lib.hid (HX.out.keep hb)
  have HB := Lib.hid (HB.out.trans (hb.mono HB.out.size)); clear hb
  have HXW := Lib.hid hxw
  obtain ⟨um, dm, un, dn, uk, dk, rfl, -⟩ := hxw.cellsE
  clear hxw
  dsimp only
  refine hK.out _ _ HX.out (fun hHeld => ?_)
  clear hK K
  (try simp only [Act.put, lsa, lsz, lss])
  (refine htk 21 33 ?_ rfl ?_ ?_; rotate_left; (intro w hSw; clear hSw; go_simp); (try with_reducible rfl); simp only [lsz, lss])
  (refine hrd 22 rfl (fun K hK => ?_))
  rw [if_pos (by kernel_rfl)]
  go_simp
  refine (HCh.out _ _ HXW.out).mono ?_
  rintro e' x4 ⟨rfl, hb⟩
  have HX := Lib.hid (HX.out.keep hb)
  have HB := Lib.hid (HB.out.trans (hb.mono HB.out.size)); clear hb HXW
  dsimp only
  refine hK.out _ _ HX.out (fun hHeld => ?_)
  clear hK K
  (try simp only [Act.put, lsa, lsz, lss])
  (refine htk 23 35 ?_ rfl ?_ ?_; rotate_left; (intro w hSw; clear hSw; go_simp); (try with_reducible rfl); simp only [lsz, lss])
  (refine htk 24 36 (.bool false) rfl (by intro w hSw; clear hSw; go_simp) ?_); (try simp only [lsz, lss])
  refine wpAnyH_done (by kernel_rfl) ?_ _
  have hx' := HX.out
  have q10 := hx'.cell 10 _ rfl
  clear hx'
  go_upto_region 5 with fail
  clear q10
  go_loopw [40] (fun j wr => ∃ k : Nat, k ≤ x.ins.length ∧ j = .int .i64 k ∧ (∀ m ∈ x.ins.take k, InOk p i x m) ∧ Blk wr w.heap.size 39 [.int .i64 x.every, .int .i64 x.ex.kind, .int .i64 x.ex.fn, .int .i64 x.ex.op, .int .i64 x.ex.num, .string x.ex.metric, .slice pm x.ex.mats.length cm, .int .i64 x.ex.span, .slice pn x.ex.names.length cn, .slice pk x.ex.kids.length ck, .slice pi x.ins.length ci] ∧ Below w.heap.size w wr) (fun j _ => x.ins.length - (intOf j).toNat)
  case atStart => exact ⟨0, Nat.zero_le _, rfl, by simp, HX.out, HB.out⟩
  case round =>
    obtain ⟨k, hk, rfl, hin, hbx, hb⟩ := hrel; have Hin := Lib.hid hin; have HXr := Lib.hid hbx; have Hb := Lib.hid hb; clear hin hbx hb
    by_cases hlt : k < x.ins.length
    · obtain ⟨b2, off2, rfl, hbn2, e0⟩ := (Hix.out.mono (Hb.out.mono hn) (Nat.le_refl _)).get hlt
      have hki : (k : Int) < (x.ins.length : Int) := by omega
      have Hmem := Lib.hid (List.getElem_mem hlt); have Hstep := Lib.hid (List.take_succ_eq_append_getElem hlt); have hx' := HXr.out; have q0 := hx'.cell 0 _ rfl; clear hx'; generalize x.ins[k] = m at *
      by_cases h1 : m < 1
      · have HF := Lib.hid (okB_false (p := p) (i := i) (x := x) (fun h => by have := (h.ins m Hmem.out).1; omega))
        go_upto_region 7 with fail
        go_quiet (fail)
        go_wp2; go_ret; exact ⟨ret_bool HF.out.symm, below_drewN Hb.out _⟩
      by_cases h2 : (i : Int) < m
      · have HF := Lib.hid (okB_false (p := p) (i := i) (x := x) (fun h => by have := (h.ins m Hmem.out).2.1; omega))
        go_upto_region 7 with fail
        go_quiet (fail)
        go_wp2; go_ret; exact ⟨ret_bool HF.out.symm, below_drewN Hb.out _⟩
      obtain ⟨j, rfl⟩ : ∃ j : Nat, m = (j : Int) + 1 := ⟨(m - 1).toNat, by omega⟩; have hj : j < p.length := by omega
      obtain ⟨b3, off3, pm3, cm3, pn3, cn3, pk3, ck3, pi3, ci3, hp3, -, -, -, hc3⟩ := (HP.out.mono (Hb.out.mono hn) (Nat.le_refl _)).get hj; simp only [Option.some.injEq, Addr.mk.injEq, and_true] at hp3; obtain ⟨rfl, rfl⟩ := hp3; have e1 := hc3 0 _ rfl; simp only [Nat.add_zero] at e1; have hgj : p[((j : Int) + 1).toNat - 1]? = some p[j] := by
        rw [show ((j : Int) + 1).toNat - 1 = j by omega]; simp
      have Hgj := Lib.hid hgj; clear hc3 hgj; generalize p[j] = y at *; have hji : (j : Int) < (p.length : Int) := by omega
      by_cases h3 : y.every = x.every
      · have hin' : ∀ u ∈ x.ins.take (k + 1), InOk p i x u := by
          intro u hu; rw [Hstep.out] at hu; rcases List.mem_append.1 hu with hu | hu
          · exact Hin.out u hu
          · simp only [List.mem_singleton] at hu
            subst hu; exact ⟨by omega, by omega, y, Hgj.out, h3⟩
        have Hin' := Lib.hid hin'; have h3b : (y.every != x.every) = false := by simpa using h3
        clear hin' h3
        go_upto_region 7 with fail
        go_quiet (fail)
        go_wp2; exact ⟨⟨k + 1, by omega, by go_num, Hin'.out, HXr.out.drewN _, below_drewN Hb.out _⟩, by simp [intOf]; omega⟩
      · have HF := Lib.hid (okB_false (p := p) (i := i) (x := x) (fun h => by
          obtain ⟨-, -, z, hz, hze⟩ := h.ins _ Hmem.out; rw [Hgj.out] at hz; cases hz; exact h3 hze))
        have h3b : (y.every != x.every) = true := by simpa using h3
        clear h3
        go_upto_region 7 with fail
        go_quiet (fail)
        go_wp2; go_ret; exact ⟨ret_bool HF.out.symm, below_drewN Hb.out _⟩
    · have hk' : k = x.ins.length := by omega
      subst hk'; have hin := Hin.out; rw [List.take_of_length_le (Nat.le_refl _)] at hin; have HL := Lib.hid (okB_last Hk.out (Hlq.out.trans Hq.out.symm) (Hcq.out.trans Hc0.out) hin); clear hin; have hic : (i : Int) ≤ (cp : Int) := by omega
      have HS := Lib.hid (sHasNd x [.int .i64 x.every, .int .i64 x.ex.kind, .int .i64 x.ex.fn, .int .i64 x.ex.op, .int .i64 x.ex.num, .string x.ex.metric, .slice pm x.ex.mats.length cm, .int .i64 x.ex.span, .slice pn x.ex.names.length cn, .slice pk x.ex.kids.length ck, .slice pi x.ins.length ci] (p.take i) (.slice (some ⟨b, off, none⟩) i cp) w.heap.size n wr (Nat.le_trans hn Hb.out.size) HXr.out ⟨_, _, rfl, Hex.out.mono (Hb.out.mono hn) (Nat.le_refl _), Hix.out.mono (Hb.out.mono hn) (Nat.le_refl _)⟩ ((HP.out.mono (Hb.out.mono hn) (Nat.le_refl _)).front (Nat.le_of_lt hi)))
      go_wp2_with fail
      refine HS.out.mono ?_; rintro e' w9 ⟨rfl, hb9⟩; have Hb := Lib.hid (Hb.out.trans (hb9.mono Hb.out.size)); clear hb9; go_wp2; go_ret; exact ⟨ret_bool HL.out.symm, Hb.out⟩
end Go.Proofs.YtdjdikiimhhjpaaGreatDoor
namespace Go.Proofs.YtdjdikiimhhjpaaGreatDoor
open Go.RowKit
set_option linter.unusedSimpArgs false
set_option linter.unusedVariables false
theorem okB_iff {p : List Nd} {i : Nat} {x : Nd} : okB p i x = true ↔ OkNd p i x := by
  unfold okB
  exact @decide_eq_true_iff _ (Classical.propDecidable _)
theorem ndCheck_long {p : List Nd} (h : 1000 < p.length) : ndCheck p = 3 := by unfold ndCheck; rw [if_pos h]
theorem ndCheck_bad {p : List Nd} (h : ¬ 1000 < p.length) {i : Nat} (hi : i < p.length) (k : ¬ OkNd p i p[i]) : ndCheck p = 2 := by
  unfold ndCheck
  rw [if_neg h, if_neg]
  intro hp
  exact k (hp i p[i] (by simp))
theorem ndCheck_all {p : List Nd} (h : ¬ 1000 < p.length) (k : ∀ i (hi : i < p.length), OkNd p i p[i]) : ndCheck p = 0 := by
  refine ndCheck_ok (by omega) fun i x hx => ?_
  obtain ⟨hi, rfl⟩ := List.getElem?_eq_some_iff.1 hx
  exact k i hi
theorem pCheck (p : List Nd) (v : Value) (n : Nat) (w : World) (hn : n ≤ w.heap.size) (hp : IsNds n w v p) :
    Calls Tryz.prog 21 #[v] w fun e' w' => e' = .returned (.int .i64 (ndCheck p)) ∧ Below w.heap.size w w' := by
  obtain ⟨pp, cp, rfl, _, hcm, hpm⟩ := hp.open
  unfold maxLen at hcm hpm
  have HP := Lib.hid hp; clear hp
  by_cases hl : 1000 < p.length
  · have hli : (1000 : Int) < (p.length : Int) := by omega
    have HF := Lib.hid (ndCheck_long hl); clear hl
    go_enter Tryz.func21, Tryz.ntmps21; (try simp only [List.append_eq, List.cons_append, List.nil_append])
    go_wp2; go_ret; exact ⟨ret_int HF.out.symm, Below.refl _ _⟩
  have hli : ¬ (1000 : Int) < (p.length : Int) := by omega
  have Hl := Lib.hid hl; clear hl
  go_enter Tryz.func21, Tryz.ntmps21; (try simp only [List.append_eq, List.cons_append, List.nil_append])
  go_wp2
  go_loopw [9] (fun j wr => ∃ k : Nat, k ≤ p.length ∧ j = .int .i64 k ∧ (∀ i (hi : i < p.length), i < k → OkNd p i p[i]) ∧ Below w.heap.size w wr) (fun j _ => p.length - (intOf j).toNat)
  case atStart => exact ⟨0, Nat.zero_le _, rfl, fun i hi h => by omega, Below.refl _ _⟩
  case round =>
    obtain ⟨k, hk, rfl, hin, hb⟩ := hrel; have Hin := Lib.hid hin; have Hb := Lib.hid hb; clear hin hb
    by_cases hlt : k < p.length
    · have hki : (k : Int) < (p.length : Int) := by omega
      have HR := Lib.hid (pRight p _ k n wr (Nat.le_trans hn Hb.out.size) (HP.out.mono (Hb.out.mono hn) (Nat.le_refl _)) hlt (by have := Hl.out; omega)); have HI := Lib.hid (okB_iff (p := p) (i := k) (x := p[k])); have HBad := Lib.hid (fun h => ndCheck_bad Hl.out hlt h); have HNext := Lib.hid (fun (h : OkNd p k p[k]) (i : Nat) (hi : i < p.length) (hik : i < k + 1) => show OkNd p i p[i] from by
        by_cases e : i = k
        · subst e; exact h
        · exact Hin.out i hi (by omega))
      generalize okB p k p[k] = bk at HR HI
      go_wp2_with fail
      refine HR.out.mono ?_; rintro e' w1 ⟨rfl, hb1⟩; have Hb := Lib.hid (Hb.out.trans (hb1.mono Hb.out.size)); clear hb1; cases bk with
      | true =>
        go_wp2; exact ⟨⟨k + 1, by omega, by go_num, HNext.out (HI.out.1 (by first | rfl | trivial)), Hb.out⟩, by simp [intOf]; omega⟩
      | false =>
        go_wp2; go_ret; exact ⟨ret_int (HBad.out (fun h => by have := HI.out.2 h; first | cases this | exact this)).symm, Hb.out⟩
    · have HA := Lib.hid (ndCheck_all Hl.out (fun i hi => Hin.out i hi (by omega)))
      go_wp2; go_ret; exact ⟨ret_int HA.out.symm, Hb.out⟩
end Go.Proofs.YtdjdikiimhhjpaaGreatDoor
namespace Go.Proofs.YtdjdikiimhhjpaaGreatDoor
open Go.RowKit
set_option linter.unusedSimpArgs false
set_option linter.unusedVariables false
def SX (M : Nat → Prop) (v : Value) : Nat → Prop := fun b => ¬ M b ∧ v.ownBlock ≠ some b
theorem keepS_heap {S : Nat → Prop} {w : World} {b : Nat} (h : S b) : (keepS S w).heap[b]? = w.heap[b]? := by
  unfold keepS
  simp only [Array.getElem?_mapIdx]
  cases w.heap[b]? with
  | none => rfl
  | some o => simp [h]
theorem ExS.of_fresh {S : Nat → Prop} {lo hi : Nat} {w : World} {e : Ex} {cs : List Value} (h : Fresh lo hi w e cs) (hh : hi ≤ w.heap.size) (hS : ∀ k, lo ≤ k → k < hi → S k) : ExS S w e cs :=
  (h.keep (w' := keepS S w) (fun k h1 h2 => keepS_heap (hS k h1 h2))).isEx hh
def NdL (M : Nat → Prop) (base : Nat) (w : World) (v : Value) (l : List Nd) (rows : List (List Value)) : Prop :=
  w.ownsRow base 39 11 v l.length rows.flatten ∧ rows.length = l.length ∧ ∀ (k : Nat) (r : List Value) (x : Nd), rows[k]? = some r → l[k]? = some x → NdS (SX M v) w x r
section
variable {M : Nat → Prop} {base : Nat} {w w' : World} {v v' : Value} {l : List Nd} {rows : List (List Value)}
theorem NdL.nil : NdL M base w (.slice none 0 0) [] [] := ⟨World.ownsRow_nil _ _ _ _, rfl, fun k r x hr => by simp at hr⟩
theorem NdL.off (h : NdL M base w v l rows) {N : Nat → Prop} (ho : OffM N w w') (hN : ∀ b, b < w.heap.size → N b → M b) (hv : ∀ g, v.ownBlock = some g → ¬ N g) : NdL M base w' v l rows :=
  ⟨ownsRow_offM h.1 ho hv, h.2.1, fun k r x hr hx => (h.2.2 k r x hr hx).go ho.size (fun _ _ h => h) (fun b hb hS => ho.block b hb (fun hn => hS.1 (hN b hb hn)))⟩
theorem NdL.keep (h : NdL M base w v l rows) (hb : Below w.heap.size w w') : NdL M base w' v l rows :=
  ⟨ownsRow_keep h.1 hb, h.2.1, fun k r x hr hx => (h.2.2 k r x hr hx).go hb.size (fun _ _ h => h) (fun b hlt _ => hb.block b hlt)⟩
theorem NdL.app (h : NdL M base w v l rows) {x : Nd} {r : List Value} (hx : NdS (SX M v) w x r) (hown : w'.ownsRow base 39 11 v' (l.length + 1) (rows.flatten ++ r)) (hg : w.grownBy w' v.ownBlock) (hat : v'.ownBlock = v.ownBlock ∨ v'.ownBlock = some w.heap.size) :
    NdL M base w' v' (l ++ [x]) (rows ++ [r]) := by
  have hgo : ∀ {x : Nd} {r : List Value}, NdS (SX M v) w x r → NdS (SX M v') w' x r := fun hx => hx.go hg.size (fun b hb hS => ⟨hS.1, by
      rcases hat with e | e
      · rw [e]; exact hS.2
      · rw [e]; intro e2; have := Option.some.inj e2; omega⟩) (fun b hb hS => hg.block b hb (fun e => hS.2 e.symm))
  refine ⟨by rw [List.length_append, List.flatten_append]; simpa using hown, by rw [List.length_append, List.length_append, h.2.1]; rfl, fun k q y hr hy => ?_⟩
  have hlen := h.2.1
  by_cases hk : k < rows.length
  · rw [List.getElem?_append_left hk] at hr
    rw [List.getElem?_append_left (by omega)] at hy; exact hgo (h.2.2 k q y hr hy)
  · rw [List.getElem?_append_right (by omega)] at hr
    rw [List.getElem?_append_right (by omega)] at hy; have e0 : k - rows.length = 0 := by have := (List.getElem?_eq_some_iff.1 hr).1; simp at this; omega
    rw [e0] at hr; rw [show k - l.length = 0 by omega] at hy
    simp at hr hy
    subst hr hy; exact hgo hx
theorem NdL.rows_len (h : NdL M base w v l rows) : ∀ r ∈ rows, r.length = 11 := by
  intro r hr
  obtain ⟨k, hk, rfl⟩ := List.getElem_of_mem hr
  have hlen := h.2.1
  exact (h.2.2 k _ (l[k]'(by omega)) (by simp) (by simp)).nd.len
theorem NdL.nds (h : NdL M base w v l rows) {m : Nat} (hm : w.heap.size ≤ m) : IsNds m w v l := by
  have hlen := h.2.1
  refine ⟨rows, ?_, hlen, fun k r x hr hx => (h.2.2 k r x hr hx).nd.mono (Below.refl _ _) hm⟩
  exact arr_of_own (lo := base) (e := 39) (by rw [hlen]; exact h.1) h.rows_len (fun g hg => by have := (ownsRow_block h.1 g hg).2; omega)
end
theorem NdS.mk {S : Nat → Prop} {w : World} {x : Nd} {cs : List Value} {vi : Value} (h1 : ExS S w x.ex cs) (h2 : IntsS S w vi x.ins) : NdS S w x (.int .i64 x.every :: (cs ++ [vi])) := ⟨cs, vi, rfl, h1, h2⟩
end Go.Proofs.YtdjdikiimhhjpaaGreatDoor
