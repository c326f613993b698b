/- The reference's parser: step at a join. Printed by gen_join.py. -/
import Derived.Test.YtobelmipjanibaaDoorK25
namespace Go.Proofs.YtobelmipjanibaaDoor
open Go.RowKit
set_option linter.unusedSimpArgs false
set_option linter.unusedVariables false

set_option maxRecDepth 100000 in
set_option maxHeartbeats 16000000 in
theorem pStep_joinFT (g : Nat) (pt : Option Addr) (cap : Nat) (L : List Tok) (f : Nat) (hC : TermC g pt cap L f) (op : Int) (x : Ex) (p q q' : PS) (ns : List (List UInt8)) (y : Ex) (hnum : ¬ (p.err = 0 ∧ (p.tok L).kind = 2)) (hc : (p.take L [111, 110]).1 = false)
    (hns : ns = []) (hn : (p.take L [111, 110]).2 = q)
    (hy : pTerm L f q = some (y, q')) (hw : PW L p) (S : Nat → Prop) (cs : List Value) (w : World) (hSg : ¬ S g) (h : PA g pt cap L p w) (hx : ExS S w x cs) :
    Calls Tryd.prog 89 #[.pointer (some ⟨g, 0, none⟩), .int .i64 op, .agg cs.toArray, .bool true] w (ExR g pt cap L (fun k => S k ∨ w.heap.size ≤ k) w (.mk 3 0 op 0 ⟨#[]⟩ [] 0 (ns.map baOf) [x, y]) q') := by
  have hi := hw.at'
  have hlen := hw.len
  obtain ⟨pm, cm, pn, cn, pk, ck, rfl, -⟩ := IsEx.cellsE hx
  obtain ⟨b, off, rfl, hbg, -⟩ := h.now hw.at'
  have hg := h.1.lt
  have hP := h
  have ho := Off.refl g w
  have HT := Lib.hid (fun (X : World) (hX : PA g _ cap L p X) => pTake g (some ⟨b, off, none⟩) cap L p X hX hw [111, 110])
  have hw2 := hw.take [111, 110]
  rw [hc] at HT
  subst hns
  rw [hn] at HT hw2
  have hwq := hw2
  have HY := Lib.hid (fun (X : World) (hX : PA g _ cap L q X) => hC _ _ _ hy hwq X hX)
  clear h hw hw2 hwq hy hn hc hC
  have HP := Lib.hid hP; have Ho := Lib.hid ho; clear ho; obtain ⟨b', off', hpt, -, e0, e1, e2, e3⟩ := hP.now hi; cases hpt; obtain ⟨hb, hl⟩ := hP; clear hl; have hg := hb.lt; have hbw := Nat.lt_trans hbg hg; unfold PC at hb; have c0 := hb.cell 0 _ rfl; have c1 := hb.cell 1 _ rfl; have c2 := hb.cell 2 _ rfl; have c3 := hb.cell 3 _ rfl; have c4 := hb.cell 4 _ rfl; have f1 := hb.free 1; have f2 := hb.free 2; have f3 := hb.free 3; have f4 := hb.free 4; clear hb
  obtain ⟨t, ht⟩ : ∃ t, p.tok L = t := ⟨_, rfl⟩
  rw [ht] at e0 e1 e2 e3 hnum
  clear ht
  have Hx := Lib.hid (hx.go (S' := fun k => S k ∧ k < w.heap.size) (Nat.le_refl _) (fun b hb h => ⟨h, hb⟩) (fun _ _ _ => rfl)); clear hx
  by_cases h0 : p.err = 0
  · have hk : ¬ t.kind = 2 := fun e => hnum ⟨h0, e⟩
    have hkb : (t.kind == 2) = false := by simpa using hk
    clear hnum
    rw [h0] at c2
    go_enter Tryd.func89, Tryd.ntmps89; (try simp only [List.append_eq, List.cons_append, List.nil_append])
    go_wp2
    go_quiet (fail)
    go_wp2_with fail
    have hXb := (two_at w [.int .i64 x.kind, .int .i64 x.fn, .int .i64 x.op, .int .i64 x.num, .string x.metric, .slice pm x.mats.length cm, .int .i64 x.span, .slice pn x.names.length cn, .slice pk x.kids.length ck] ZX 26 26).drewN nq
    have hRb := (two_at' w (.cells ([.int .i64 x.kind, .int .i64 x.fn, .int .i64 x.op, .int .i64 x.num, .string x.metric, .slice pm x.mats.length cm, .int .i64 x.span, .slice pn x.names.length cn, .slice pk x.kids.length ck] : List Value).toArray 26) ZX 26).drewN nq
    have hbl := below_drewN (two_below w (.cells ([.int .i64 x.kind, .int .i64 x.fn, .int .i64 x.op, .int .i64 x.num, .string x.metric, .slice pm x.mats.length cm, .int .i64 x.span, .slice pn x.names.length cn, .slice pk x.kids.length ck] : List Value).toArray 26) (.cells ZX.toArray 26)) nq
    have hPY := HP.out.keep hbl
    have hxY := Hx.out.below hbl
    have hoY := Off.of (g := g) hbl
    have hgY := hPY.1.lt
    have hRlt := hRb.lt
    clear c0 c1 c2 c3 c4 f1 f2 f3 f4 e0 e1 e2 e3
    have hzY : (((w.alloc (.cells ([.int .i64 x.kind, .int .i64 x.fn, .int .i64 x.op, .int .i64 x.num, .string x.metric, .slice pm x.mats.length cm, .int .i64 x.span, .slice pn x.names.length cn, .slice pk x.kids.length ck] : List Value).toArray 26)).alloc (.cells ZX.toArray 26)).drewN nq).heap.size = w.heap.size + 1 + 1 := by show ((w.alloc _).alloc _).heap.size = _; simp
    generalize (((w.alloc (.cells ([.int .i64 x.kind, .int .i64 x.fn, .int .i64 x.op, .int .i64 x.num, .string x.metric, .slice pm x.mats.length cm, .int .i64 x.span, .slice pn x.names.length cn, .slice pk x.kids.length ck] : List Value).toArray 26)).alloc (.cells ZX.toArray 26)).drewN nq) = Y at hXb hRb hbl hPY hxY hoY hgY hRlt hzY
    have hJ := Blk.new Y [.int .i64 3, .int .i64 0, .int .i64 op, .int .i64 0, .string ⟨#[]⟩, .slice none 0 0, .int .i64 0, .slice none 0 0, .slice none 0 0] 26
    have hbl2 : Below Y.heap.size Y (Y.alloc (.cells ([.int .i64 3, .int .i64 0, .int .i64 op, .int .i64 0, .string ⟨#[]⟩, .slice none 0 0, .int .i64 0, .slice none 0 0, .slice none 0 0] : List Value).toArray 26)) := (Below.refl _ _).alloc (Nat.le_refl _) _
    have hX1 := hXb.keep hbl2
    have hR1 := hRb.keep hbl2
    have hP1 := hPY.keep hbl2
    have hx1 := hxY.below hbl2
    have ho1 := hoY.trans (Off.of (g := g) hbl2)
    have hJlt := hJ.lt
    generalize Y.alloc (.cells ([.int .i64 3, .int .i64 0, .int .i64 op, .int .i64 0, .string ⟨#[]⟩, .slice none 0 0, .int .i64 0, .slice none 0 0, .slice none 0 0] : List Value).toArray 26) = X1 at hJ hbl2 hX1 hR1 hP1 hx1 ho1 hJlt
    rw [hzY] at hJ hJlt hgY hRlt
    obtain ⟨b9, hb9⟩ : ∃ k, w.heap.size + 1 + 1 = k := ⟨_, rfl⟩
    rw [hb9] at hJ hJlt hgY hRlt ⊢
    clear hXb hRb hbl hbl2 hPY hxY hoY hb9 hzY
    refine (HT.out _ hP1).mono ?_
    rintro e' w1 ⟨rfl, hPa, hoa⟩
    have hXa := hoa.blkX hX1 (Nat.ne_of_gt hg)
    have hRa := hoa.blkX hR1 (show w.heap.size + 1 ≠ g by omega)
    have hJa := hoa.blkX hJ (Nat.ne_of_gt hgY)
    have hxa := hx1.off hoa (fun h => hSg h.1)
    have hzaa := hoa.size
    have hoa := ho1.trans hoa
    clear hX1 hR1 hJ hP1 hx1 ho1
    go_wp2_with fail
    obtain ⟨W2, hW2⟩ : ∃ W, W = w1 := ⟨_, rfl⟩
    subst hW2
    have hXc := hXa
    have hRc := hRa
    have hJc := hJa
    have hxc := hxa
    have hPc := hPa
    have hoc := hoa
    clear hXa hRa hJa hxa hPa hoa
    have hZ := Blk.new W2 ZX 26
    have hbl3 : Below W2.heap.size W2 (W2.alloc (.cells ZX.toArray 26)) := (Below.refl _ _).alloc (Nat.le_refl _) _
    have hXd := hXc.keep hbl3
    have hRd := hRc.keep hbl3
    have hJd := hJc.keep hbl3
    have hPd := hPc.keep hbl3
    have hxd := hxc.below hbl3
    have hod := hoc.trans (Off.of (g := g) hbl3)
    have hZlt := hZ.lt
    have hJlt2 := hJc.lt
    have hRlt2 := hRc.lt
    have hgW := hPc.1.lt
    generalize W2.alloc (.cells ZX.toArray 26) = X3 at hZ hbl3 hXd hRd hJd hPd hxd hod hZlt
    obtain ⟨b10, hb10⟩ : ∃ k, W2.heap.size = k := ⟨_, rfl⟩
    rw [hb10] at hZ hZlt hJlt2 hRlt2 hgW ⊢
    clear hbl3 hXc hRc hJc hPc hxc hoc
    refine (HY.out _ hPd).mono ?_
    rintro e' w4 ⟨cs', rfl, hy4, hP4, ho4⟩
    obtain ⟨qm, dm, qn, dn, qk, dk, rfl, -⟩ := IsEx.cellsE hy4
    have hX4 := ho4.blkX hXd (Nat.ne_of_gt hg)
    have hR4 := ho4.blkX hRd (show w.heap.size + 1 ≠ g by omega)
    have hJ4 := ho4.blkX hJd (Nat.ne_of_gt hgY)
    have hZ4 := ho4.blkX hZ (Nat.ne_of_gt hgW)
    have hx4 := hxd.off ho4 (fun h => hSg h.1)
    have hz34 := ho4.size
    have ho4 := hod.trans ho4
    have hs5 : (w4.setRow b10 ([.int .i64 y.kind, .int .i64 y.fn, .int .i64 y.op, .int .i64 y.num, .string y.metric, .slice qm y.mats.length dm, .int .i64 y.span, .slice qn y.names.length dn, .slice qk y.kids.length dk] : List Value).toArray).heap.size = w4.heap.size := setRow_size _ _ _
    have hX5 : Blk (w4.setRow b10 ([.int .i64 y.kind, .int .i64 y.fn, .int .i64 y.op, .int .i64 y.num, .string y.metric, .slice qm y.mats.length dm, .int .i64 y.span, .slice qn y.names.length dn, .slice qk y.kids.length dk] : List Value).toArray) w.heap.size _ _ := (setRow_far w4 b10 _ (show w.heap.size ≠ b10 by omega)).trans hX4
    have hR5 : Blk (w4.setRow b10 ([.int .i64 y.kind, .int .i64 y.fn, .int .i64 y.op, .int .i64 y.num, .string y.metric, .slice qm y.mats.length dm, .int .i64 y.span, .slice qn y.names.length dn, .slice qk y.kids.length dk] : List Value).toArray) (w.heap.size + 1) _ _ := (setRow_far w4 b10 _ (show w.heap.size + 1 ≠ b10 by omega)).trans hR4
    have hJ5 : Blk (w4.setRow b10 ([.int .i64 y.kind, .int .i64 y.fn, .int .i64 y.op, .int .i64 y.num, .string y.metric, .slice qm y.mats.length dm, .int .i64 y.span, .slice qn y.names.length dn, .slice qk y.kids.length dk] : List Value).toArray) b9 _ _ := (setRow_far w4 b10 _ (show b9 ≠ b10 by omega)).trans hJ4
    have hZ5 := hZ4.row [.int .i64 y.kind, .int .i64 y.fn, .int .i64 y.op, .int .i64 y.num, .string y.metric, .slice qm y.mats.length dm, .int .i64 y.span, .slice qn y.names.length dn, .slice qk y.kids.length dk]
    have hP5 := hP4.row (show g < b10 by omega) ([.int .i64 y.kind, .int .i64 y.fn, .int .i64 y.op, .int .i64 y.num, .string y.metric, .slice qm y.mats.length dm, .int .i64 y.span, .slice qn y.names.length dn, .slice qk y.kids.length dk] : List Value).toArray
    have hx5 := hx4.go (S' := fun k => S k ∧ k < w.heap.size) (w' := w4.setRow b10 ([.int .i64 y.kind, .int .i64 y.fn, .int .i64 y.op, .int .i64 y.num, .string y.metric, .slice qm y.mats.length dm, .int .i64 y.span, .slice qn y.names.length dn, .slice qk y.kids.length dk] : List Value).toArray) (by rw [hs5]; exact Nat.le_refl _) (fun _ _ h => h) (fun k _ hk => setRow_far w4 b10 _ (by have hk : k < w.heap.size := hk.2; omega))
    have hy5 := hy4.go (S' := fun k => X3.heap.size ≤ k) (w' := w4.setRow b10 ([.int .i64 y.kind, .int .i64 y.fn, .int .i64 y.op, .int .i64 y.num, .string y.metric, .slice qm y.mats.length dm, .int .i64 y.span, .slice qn y.names.length dn, .slice qk y.kids.length dk] : List Value).toArray) (by rw [hs5]; exact Nat.le_refl _) (fun _ _ h => h) (fun k _ hk => setRow_far w4 b10 _ (by have hk : X3.heap.size ≤ k := hk; omega))
    have ho5 := ho4.rowNew (show w.heap.size ≤ b10 by omega) ([.int .i64 y.kind, .int .i64 y.fn, .int .i64 y.op, .int .i64 y.num, .string y.metric, .slice qm y.mats.length dm, .int .i64 y.span, .slice qn y.names.length dn, .slice qk y.kids.length dk] : List Value).toArray
    have HZ4 := Lib.hid hZ4
    have hs0 := hX4.lt
    clear hX4 hR4 hJ4 hZ4 hx4 hy4 ho4 hP4 hXd hRd hJd hZ hxd hPd hod
    go_wp2_with (first
      | (refine wpList_store_row rfl 26 _ _ rfl b10 ([.int .i64 y.kind, .int .i64 y.fn, .int .i64 y.op, .int .i64 y.num, .string y.metric, .slice qm y.mats.length dm, .int .i64 y.span, .slice qn y.names.length dn, .slice qk y.kids.length dk] : List Value).toArray rfl rfl 26 _ HZ4.out (by kernel_rfl) rfl (by kernel_rfl) ?_; generalize w4.setRow b10 ([.int .i64 y.kind, .int .i64 y.fn, .int .i64 y.op, .int .i64 y.num, .string y.metric, .slice qm y.mats.length dm, .int .i64 y.span, .slice qn y.names.length dn, .slice qk y.kids.length dk] : List Value).toArray = X5 at hX5 hR5 hJ5 hZ5 hP5 hx5 hy5 ho5 hs5; have l9 := hJ5.lt; have l10 := hZ5.lt; have l0 := hX5.lt; have l1 := hR5.lt; have x0 := hX5.cell 0 _ rfl; have x1 := hX5.cell 1 _ rfl; have x2 := hX5.cell 2 _ rfl; have x3 := hX5.cell 3 _ rfl; have x4 := hX5.cell 4 _ rfl; have x5 := hX5.cell 5 _ rfl; have x6 := hX5.cell 6 _ rfl; have x7 := hX5.cell 7 _ rfl; have x8 := hX5.cell 8 _ rfl; have z0 := hZ5.cell 0 _ rfl; have z1 := hZ5.cell 1 _ rfl; have z2 := hZ5.cell 2 _ rfl; have z3 := hZ5.cell 3 _ rfl; have z4 := hZ5.cell 4 _ rfl; have z5 := hZ5.cell 5 _ rfl; have z6 := hZ5.cell 6 _ rfl; have z7 := hZ5.cell 7 _ rfl; have z8 := hZ5.cell 8 _ rfl; have d0 := hJ5.cell 0 _ rfl; have d1 := hJ5.cell 1 _ rfl; have d2 := hJ5.cell 2 _ rfl; have d3 := hJ5.cell 3 _ rfl; have d4 := hJ5.cell 4 _ rfl; have d5 := hJ5.cell 5 _ rfl; have d6 := hJ5.cell 6 _ rfl; have d7 := hJ5.cell 7 _ rfl; have d8 := hJ5.cell 8 _ rfl; have f8 := hJ5.free 8; have HR5 := Lib.hid hR5; have HJ5 := Lib.hid hJ5; have HP5 := Lib.hid hP5; have HX5 := Lib.hid hx5; have HY5 := Lib.hid hy5; have HO5 := Lib.hid ho5; have HS5 := Lib.hid hs5; clear hX5 hR5 hJ5 hZ5 hP5 hx5 hy5 ho5 hs5)
      | (refine wpList_store_row rfl 26 _ _ rfl (w.heap.size + 1) ([.int .i64 3, .int .i64 0, .int .i64 op, .int .i64 0, .string ⟨#[]⟩, .slice none 0 0, .int .i64 0, .slice none 0 0, .slice (some ⟨X5.heap.size, 0, none⟩) 2 2] : List Value).toArray rfl rfl 26 _ ((HR5.out.far (p := ⟨b9, 8, none⟩) (show w.heap.size + 1 ≠ b9 by omega) (.slice (some ⟨X5.heap.size, 0, none⟩) 2 2)).alloc (.cells ([.int .i64 x.kind, .int .i64 x.fn, .int .i64 x.op, .int .i64 x.num, .string x.metric, .slice pm x.mats.length cm, .int .i64 x.span, .slice pn x.names.length cn, .slice pk x.kids.length ck, .int .i64 y.kind, .int .i64 y.fn, .int .i64 y.op, .int .i64 y.num, .string y.metric, .slice qm y.mats.length dm, .int .i64 y.span, .slice qn y.names.length dn, .slice qk y.kids.length dk] : List Value).toArray 26)) (by kernel_rfl) rfl (by kernel_rfl) ?_))
    have hs5 := HS5.out
    have hz6 := setCell_size X5 ⟨b9, 8, none⟩ (.slice (some ⟨X5.heap.size, 0, none⟩) 2 2)
    have hbl6 : Below (X5.setCell ⟨b9, 8, none⟩ (.slice (some ⟨X5.heap.size, 0, none⟩) 2 2)).heap.size (X5.setCell ⟨b9, 8, none⟩ (.slice (some ⟨X5.heap.size, 0, none⟩) 2 2)) ((X5.setCell ⟨b9, 8, none⟩ (.slice (some ⟨X5.heap.size, 0, none⟩) 2 2)).alloc (.cells ([.int .i64 x.kind, .int .i64 x.fn, .int .i64 x.op, .int .i64 x.num, .string x.metric, .slice pm x.mats.length cm, .int .i64 x.span, .slice pn x.names.length cn, .slice pk x.kids.length ck, .int .i64 y.kind, .int .i64 y.fn, .int .i64 y.op, .int .i64 y.num, .string y.metric, .slice qm y.mats.length dm, .int .i64 y.span, .slice qn y.names.length dn, .slice qk y.kids.length dk] : List Value).toArray 26)) := (Below.refl _ _).alloc (Nat.le_refl _) _
    have hK6 : Blk ((X5.setCell ⟨b9, 8, none⟩ (.slice (some ⟨X5.heap.size, 0, none⟩) 2 2)).alloc (.cells ([.int .i64 x.kind, .int .i64 x.fn, .int .i64 x.op, .int .i64 x.num, .string x.metric, .slice pm x.mats.length cm, .int .i64 x.span, .slice pn x.names.length cn, .slice pk x.kids.length ck, .int .i64 y.kind, .int .i64 y.fn, .int .i64 y.op, .int .i64 y.num, .string y.metric, .slice qm y.mats.length dm, .int .i64 y.span, .slice qn y.names.length dn, .slice qk y.kids.length dk] : List Value).toArray 26)) X5.heap.size 26 [.int .i64 x.kind, .int .i64 x.fn, .int .i64 x.op, .int .i64 x.num, .string x.metric, .slice pm x.mats.length cm, .int .i64 x.span, .slice pn x.names.length cn, .slice pk x.kids.length ck, .int .i64 y.kind, .int .i64 y.fn, .int .i64 y.op, .int .i64 y.num, .string y.metric, .slice qm y.mats.length dm, .int .i64 y.span, .slice qn y.names.length dn, .slice qk y.kids.length dk] := by have := Blk.new (X5.setCell ⟨b9, 8, none⟩ (.slice (some ⟨X5.heap.size, 0, none⟩) 2 2)) [.int .i64 x.kind, .int .i64 x.fn, .int .i64 x.op, .int .i64 x.num, .string x.metric, .slice pm x.mats.length cm, .int .i64 x.span, .slice pn x.names.length cn, .slice pk x.kids.length ck, .int .i64 y.kind, .int .i64 y.fn, .int .i64 y.op, .int .i64 y.num, .string y.metric, .slice qm y.mats.length dm, .int .i64 y.span, .slice qn y.names.length dn, .slice qk y.kids.length dk] 26; rwa [hz6] at this
    have hx6 := (HX5.out.set (k := b9) (fun h => by have h : b9 < w.heap.size := h.2; omega) 8 (.slice (some ⟨X5.heap.size, 0, none⟩) 2 2)).below hbl6
    have hy6 := (HY5.out.set (k := b9) (show ¬ X3.heap.size ≤ b9 by omega) 8 (.slice (some ⟨X5.heap.size, 0, none⟩) 2 2)).below hbl6
    have hP6 := (HP5.out.setFar hgY 8 (.slice (some ⟨X5.heap.size, 0, none⟩) 2 2)).keep hbl6
    have ho6 := (HO5.out.setNew (show w.heap.size ≤ b9 by omega) 8 (.slice (some ⟨X5.heap.size, 0, none⟩) 2 2)).trans (Off.of (g := g) hbl6)
    exact bodyPost_agg (d := _) rfl rfl (setRow_at ((HR5.out.far (p := ⟨b9, 8, none⟩) (show w.heap.size + 1 ≠ b9 by omega) (.slice (some ⟨X5.heap.size, 0, none⟩) 2 2)).alloc (.cells ([.int .i64 x.kind, .int .i64 x.fn, .int .i64 x.op, .int .i64 x.num, .string x.metric, .slice pm x.mats.length cm, .int .i64 x.span, .slice pn x.names.length cn, .slice pk x.kids.length ck, .int .i64 y.kind, .int .i64 y.fn, .int .i64 y.op, .int .i64 y.num, .string y.metric, .slice qm y.mats.length dm, .int .i64 y.span, .slice qn y.names.length dn, .slice qk y.kids.length dk] : List Value).toArray 26)) _) Tryd.underlying26 rfl (by kernel_rfl) rfl (exR_close (S := fun k => (S k ∧ k < w.heap.size) ∨ (w.heap.size ≤ k ∧ k ≠ w.heap.size + 1)) (exS_node (by decide) (noMatsS _ _) (noStrsS _ _) (exsS2 (cs := [.int .i64 x.kind, .int .i64 x.fn, .int .i64 x.op, .int .i64 x.num, .string x.metric, .slice pm x.mats.length cm, .int .i64 x.span, .slice pn x.names.length cn, .slice pk x.kids.length ck]) (ds := [.int .i64 y.kind, .int .i64 y.fn, .int .i64 y.op, .int .i64 y.num, .string y.metric, .slice qm y.mats.length dm, .int .i64 y.span, .slice qn y.names.length dn, .slice qk y.kids.length dk]) hK6 (Or.inr (show w.heap.size ≤ X5.heap.size ∧ X5.heap.size ≠ w.heap.size + 1 by omega)) (hx6.go (Nat.le_refl _) (fun k _ h => Or.inl h) (fun _ _ _ => rfl)) (hy6.go (Nat.le_refl _) (fun k _ h => Or.inr (by have h : X3.heap.size ≤ k := h; show w.heap.size ≤ k ∧ k ≠ w.heap.size + 1; omega)) (fun _ _ _ => rfl)))) hP6 ho6 (by omega) (show g < w.heap.size + 1 by omega) (fun h => h.elim (fun h => by have := h.2; omega) (fun h => h.2 rfl)) (fun k _ h => h.elim (fun h => Or.inl h.1) (fun h => Or.inr h.1)))
  · have h0b : (p.err == 0) = false := by simpa using h0
    clear hnum
    go_enter Tryd.func89, Tryd.ntmps89; (try simp only [List.append_eq, List.cons_append, List.nil_append])
    go_wp2
    go_quiet (fail)
    go_wp2_with fail
    have hXb := (two_at w [.int .i64 x.kind, .int .i64 x.fn, .int .i64 x.op, .int .i64 x.num, .string x.metric, .slice pm x.mats.length cm, .int .i64 x.span, .slice pn x.names.length cn, .slice pk x.kids.length ck] ZX 26 26).drewN nq
    have hRb := (two_at' w (.cells ([.int .i64 x.kind, .int .i64 x.fn, .int .i64 x.op, .int .i64 x.num, .string x.metric, .slice pm x.mats.length cm, .int .i64 x.span, .slice pn x.names.length cn, .slice pk x.kids.length ck] : List Value).toArray 26) ZX 26).drewN nq
    have hbl := below_drewN (two_below w (.cells ([.int .i64 x.kind, .int .i64 x.fn, .int .i64 x.op, .int .i64 x.num, .string x.metric, .slice pm x.mats.length cm, .int .i64 x.span, .slice pn x.names.length cn, .slice pk x.kids.length ck] : List Value).toArray 26) (.cells ZX.toArray 26)) nq
    have hPY := HP.out.keep hbl
    have hxY := Hx.out.below hbl
    have hoY := Off.of (g := g) hbl
    have hgY := hPY.1.lt
    have hRlt := hRb.lt
    clear c0 c1 c2 c3 c4 f1 f2 f3 f4 e0 e1 e2 e3
    have hzY : (((w.alloc (.cells ([.int .i64 x.kind, .int .i64 x.fn, .int .i64 x.op, .int .i64 x.num, .string x.metric, .slice pm x.mats.length cm, .int .i64 x.span, .slice pn x.names.length cn, .slice pk x.kids.length ck] : List Value).toArray 26)).alloc (.cells ZX.toArray 26)).drewN nq).heap.size = w.heap.size + 1 + 1 := by show ((w.alloc _).alloc _).heap.size = _; simp
    generalize (((w.alloc (.cells ([.int .i64 x.kind, .int .i64 x.fn, .int .i64 x.op, .int .i64 x.num, .string x.metric, .slice pm x.mats.length cm, .int .i64 x.span, .slice pn x.names.length cn, .slice pk x.kids.length ck] : List Value).toArray 26)).alloc (.cells ZX.toArray 26)).drewN nq) = Y at hXb hRb hbl hPY hxY hoY hgY hRlt hzY
    have hJ := Blk.new Y [.int .i64 3, .int .i64 0, .int .i64 op, .int .i64 0, .string ⟨#[]⟩, .slice none 0 0, .int .i64 0, .slice none 0 0, .slice none 0 0] 26
    have hbl2 : Below Y.heap.size Y (Y.alloc (.cells ([.int .i64 3, .int .i64 0, .int .i64 op, .int .i64 0, .string ⟨#[]⟩, .slice none 0 0, .int .i64 0, .slice none 0 0, .slice none 0 0] : List Value).toArray 26)) := (Below.refl _ _).alloc (Nat.le_refl _) _
    have hX1 := hXb.keep hbl2
    have hR1 := hRb.keep hbl2
    have hP1 := hPY.keep hbl2
    have hx1 := hxY.below hbl2
    have ho1 := hoY.trans (Off.of (g := g) hbl2)
    have hJlt := hJ.lt
    generalize Y.alloc (.cells ([.int .i64 3, .int .i64 0, .int .i64 op, .int .i64 0, .string ⟨#[]⟩, .slice none 0 0, .int .i64 0, .slice none 0 0, .slice none 0 0] : List Value).toArray 26) = X1 at hJ hbl2 hX1 hR1 hP1 hx1 ho1 hJlt
    rw [hzY] at hJ hJlt hgY hRlt
    obtain ⟨b9, hb9⟩ : ∃ k, w.heap.size + 1 + 1 = k := ⟨_, rfl⟩
    rw [hb9] at hJ hJlt hgY hRlt ⊢
    clear hXb hRb hbl hbl2 hPY hxY hoY hb9 hzY
    refine (HT.out _ hP1).mono ?_
    rintro e' w1 ⟨rfl, hPa, hoa⟩
    have hXa := hoa.blkX hX1 (Nat.ne_of_gt hg)
    have hRa := hoa.blkX hR1 (show w.heap.size + 1 ≠ g by omega)
    have hJa := hoa.blkX hJ (Nat.ne_of_gt hgY)
    have hxa := hx1.off hoa (fun h => hSg h.1)
    have hzaa := hoa.size
    have hoa := ho1.trans hoa
    clear hX1 hR1 hJ hP1 hx1 ho1
    go_wp2_with fail
    obtain ⟨W2, hW2⟩ : ∃ W, W = w1 := ⟨_, rfl⟩
    subst hW2
    have hXc := hXa
    have hRc := hRa
    have hJc := hJa
    have hxc := hxa
    have hPc := hPa
    have hoc := hoa
    clear hXa hRa hJa hxa hPa hoa
    have hZ := Blk.new W2 ZX 26
    have hbl3 : Below W2.heap.size W2 (W2.alloc (.cells ZX.toArray 26)) := (Below.refl _ _).alloc (Nat.le_refl _) _
    have hXd := hXc.keep hbl3
    have hRd := hRc.keep hbl3
    have hJd := hJc.keep hbl3
    have hPd := hPc.keep hbl3
    have hxd := hxc.below hbl3
    have hod := hoc.trans (Off.of (g := g) hbl3)
    have hZlt := hZ.lt
    have hJlt2 := hJc.lt
    have hRlt2 := hRc.lt
    have hgW := hPc.1.lt
    generalize W2.alloc (.cells ZX.toArray 26) = X3 at hZ hbl3 hXd hRd hJd hPd hxd hod hZlt
    obtain ⟨b10, hb10⟩ : ∃ k, W2.heap.size = k := ⟨_, rfl⟩
    rw [hb10] at hZ hZlt hJlt2 hRlt2 hgW ⊢
    clear hbl3 hXc hRc hJc hPc hxc hoc
    refine (HY.out _ hPd).mono ?_
    rintro e' w4 ⟨cs', rfl, hy4, hP4, ho4⟩
    obtain ⟨qm, dm, qn, dn, qk, dk, rfl, -⟩ := IsEx.cellsE hy4
    have hX4 := ho4.blkX hXd (Nat.ne_of_gt hg)
    have hR4 := ho4.blkX hRd (show w.heap.size + 1 ≠ g by omega)
    have hJ4 := ho4.blkX hJd (Nat.ne_of_gt hgY)
    have hZ4 := ho4.blkX hZ (Nat.ne_of_gt hgW)
    have hx4 := hxd.off ho4 (fun h => hSg h.1)
    have hz34 := ho4.size
    have ho4 := hod.trans ho4
    have hs5 : (w4.setRow b10 ([.int .i64 y.kind, .int .i64 y.fn, .int .i64 y.op, .int .i64 y.num, .string y.metric, .slice qm y.mats.length dm, .int .i64 y.span, .slice qn y.names.length dn, .slice qk y.kids.length dk] : List Value).toArray).heap.size = w4.heap.size := setRow_size _ _ _
    have hX5 : Blk (w4.setRow b10 ([.int .i64 y.kind, .int .i64 y.fn, .int .i64 y.op, .int .i64 y.num, .string y.metric, .slice qm y.mats.length dm, .int .i64 y.span, .slice qn y.names.length dn, .slice qk y.kids.length dk] : List Value).toArray) w.heap.size _ _ := (setRow_far w4 b10 _ (show w.heap.size ≠ b10 by omega)).trans hX4
    have hR5 : Blk (w4.setRow b10 ([.int .i64 y.kind, .int .i64 y.fn, .int .i64 y.op, .int .i64 y.num, .string y.metric, .slice qm y.mats.length dm, .int .i64 y.span, .slice qn y.names.length dn, .slice qk y.kids.length dk] : List Value).toArray) (w.heap.size + 1) _ _ := (setRow_far w4 b10 _ (show w.heap.size + 1 ≠ b10 by omega)).trans hR4
    have hJ5 : Blk (w4.setRow b10 ([.int .i64 y.kind, .int .i64 y.fn, .int .i64 y.op, .int .i64 y.num, .string y.metric, .slice qm y.mats.length dm, .int .i64 y.span, .slice qn y.names.length dn, .slice qk y.kids.length dk] : List Value).toArray) b9 _ _ := (setRow_far w4 b10 _ (show b9 ≠ b10 by omega)).trans hJ4
    have hZ5 := hZ4.row [.int .i64 y.kind, .int .i64 y.fn, .int .i64 y.op, .int .i64 y.num, .string y.metric, .slice qm y.mats.length dm, .int .i64 y.span, .slice qn y.names.length dn, .slice qk y.kids.length dk]
    have hP5 := hP4.row (show g < b10 by omega) ([.int .i64 y.kind, .int .i64 y.fn, .int .i64 y.op, .int .i64 y.num, .string y.metric, .slice qm y.mats.length dm, .int .i64 y.span, .slice qn y.names.length dn, .slice qk y.kids.length dk] : List Value).toArray
    have hx5 := hx4.go (S' := fun k => S k ∧ k < w.heap.size) (w' := w4.setRow b10 ([.int .i64 y.kind, .int .i64 y.fn, .int .i64 y.op, .int .i64 y.num, .string y.metric, .slice qm y.mats.length dm, .int .i64 y.span, .slice qn y.names.length dn, .slice qk y.kids.length dk] : List Value).toArray) (by rw [hs5]; exact Nat.le_refl _) (fun _ _ h => h) (fun k _ hk => setRow_far w4 b10 _ (by have hk : k < w.heap.size := hk.2; omega))
    have hy5 := hy4.go (S' := fun k => X3.heap.size ≤ k) (w' := w4.setRow b10 ([.int .i64 y.kind, .int .i64 y.fn, .int .i64 y.op, .int .i64 y.num, .string y.metric, .slice qm y.mats.length dm, .int .i64 y.span, .slice qn y.names.length dn, .slice qk y.kids.length dk] : List Value).toArray) (by rw [hs5]; exact Nat.le_refl _) (fun _ _ h => h) (fun k _ hk => setRow_far w4 b10 _ (by have hk : X3.heap.size ≤ k := hk; omega))
    have ho5 := ho4.rowNew (show w.heap.size ≤ b10 by omega) ([.int .i64 y.kind, .int .i64 y.fn, .int .i64 y.op, .int .i64 y.num, .string y.metric, .slice qm y.mats.length dm, .int .i64 y.span, .slice qn y.names.length dn, .slice qk y.kids.length dk] : List Value).toArray
    have HZ4 := Lib.hid hZ4
    have hs0 := hX4.lt
    clear hX4 hR4 hJ4 hZ4 hx4 hy4 ho4 hP4 hXd hRd hJd hZ hxd hPd hod
    go_wp2_with (first
      | (refine wpList_store_row rfl 26 _ _ rfl b10 ([.int .i64 y.kind, .int .i64 y.fn, .int .i64 y.op, .int .i64 y.num, .string y.metric, .slice qm y.mats.length dm, .int .i64 y.span, .slice qn y.names.length dn, .slice qk y.kids.length dk] : List Value).toArray rfl rfl 26 _ HZ4.out (by kernel_rfl) rfl (by kernel_rfl) ?_; generalize w4.setRow b10 ([.int .i64 y.kind, .int .i64 y.fn, .int .i64 y.op, .int .i64 y.num, .string y.metric, .slice qm y.mats.length dm, .int .i64 y.span, .slice qn y.names.length dn, .slice qk y.kids.length dk] : List Value).toArray = X5 at hX5 hR5 hJ5 hZ5 hP5 hx5 hy5 ho5 hs5; have l9 := hJ5.lt; have l10 := hZ5.lt; have l0 := hX5.lt; have l1 := hR5.lt; have x0 := hX5.cell 0 _ rfl; have x1 := hX5.cell 1 _ rfl; have x2 := hX5.cell 2 _ rfl; have x3 := hX5.cell 3 _ rfl; have x4 := hX5.cell 4 _ rfl; have x5 := hX5.cell 5 _ rfl; have x6 := hX5.cell 6 _ rfl; have x7 := hX5.cell 7 _ rfl; have x8 := hX5.cell 8 _ rfl; have z0 := hZ5.cell 0 _ rfl; have z1 := hZ5.cell 1 _ rfl; have z2 := hZ5.cell 2 _ rfl; have z3 := hZ5.cell 3 _ rfl; have z4 := hZ5.cell 4 _ rfl; have z5 := hZ5.cell 5 _ rfl; have z6 := hZ5.cell 6 _ rfl; have z7 := hZ5.cell 7 _ rfl; have z8 := hZ5.cell 8 _ rfl; have d0 := hJ5.cell 0 _ rfl; have d1 := hJ5.cell 1 _ rfl; have d2 := hJ5.cell 2 _ rfl; have d3 := hJ5.cell 3 _ rfl; have d4 := hJ5.cell 4 _ rfl; have d5 := hJ5.cell 5 _ rfl; have d6 := hJ5.cell 6 _ rfl; have d7 := hJ5.cell 7 _ rfl; have d8 := hJ5.cell 8 _ rfl; have f8 := hJ5.free 8; have HR5 := Lib.hid hR5; have HJ5 := Lib.hid hJ5; have HP5 := Lib.hid hP5; have HX5 := Lib.hid hx5; have HY5 := Lib.hid hy5; have HO5 := Lib.hid ho5; have HS5 := Lib.hid hs5; clear hX5 hR5 hJ5 hZ5 hP5 hx5 hy5 ho5 hs5)
      | (refine wpList_store_row rfl 26 _ _ rfl (w.heap.size + 1) ([.int .i64 3, .int .i64 0, .int .i64 op, .int .i64 0, .string ⟨#[]⟩, .slice none 0 0, .int .i64 0, .slice none 0 0, .slice (some ⟨X5.heap.size, 0, none⟩) 2 2] : List Value).toArray rfl rfl 26 _ ((HR5.out.far (p := ⟨b9, 8, none⟩) (show w.heap.size + 1 ≠ b9 by omega) (.slice (some ⟨X5.heap.size, 0, none⟩) 2 2)).alloc (.cells ([.int .i64 x.kind, .int .i64 x.fn, .int .i64 x.op, .int .i64 x.num, .string x.metric, .slice pm x.mats.length cm, .int .i64 x.span, .slice pn x.names.length cn, .slice pk x.kids.length ck, .int .i64 y.kind, .int .i64 y.fn, .int .i64 y.op, .int .i64 y.num, .string y.metric, .slice qm y.mats.length dm, .int .i64 y.span, .slice qn y.names.length dn, .slice qk y.kids.length dk] : List Value).toArray 26)) (by kernel_rfl) rfl (by kernel_rfl) ?_))
    have hs5 := HS5.out
    have hz6 := setCell_size X5 ⟨b9, 8, none⟩ (.slice (some ⟨X5.heap.size, 0, none⟩) 2 2)
    have hbl6 : Below (X5.setCell ⟨b9, 8, none⟩ (.slice (some ⟨X5.heap.size, 0, none⟩) 2 2)).heap.size (X5.setCell ⟨b9, 8, none⟩ (.slice (some ⟨X5.heap.size, 0, none⟩) 2 2)) ((X5.setCell ⟨b9, 8, none⟩ (.slice (some ⟨X5.heap.size, 0, none⟩) 2 2)).alloc (.cells ([.int .i64 x.kind, .int .i64 x.fn, .int .i64 x.op, .int .i64 x.num, .string x.metric, .slice pm x.mats.length cm, .int .i64 x.span, .slice pn x.names.length cn, .slice pk x.kids.length ck, .int .i64 y.kind, .int .i64 y.fn, .int .i64 y.op, .int .i64 y.num, .string y.metric, .slice qm y.mats.length dm, .int .i64 y.span, .slice qn y.names.length dn, .slice qk y.kids.length dk] : List Value).toArray 26)) := (Below.refl _ _).alloc (Nat.le_refl _) _
    have hK6 : Blk ((X5.setCell ⟨b9, 8, none⟩ (.slice (some ⟨X5.heap.size, 0, none⟩) 2 2)).alloc (.cells ([.int .i64 x.kind, .int .i64 x.fn, .int .i64 x.op, .int .i64 x.num, .string x.metric, .slice pm x.mats.length cm, .int .i64 x.span, .slice pn x.names.length cn, .slice pk x.kids.length ck, .int .i64 y.kind, .int .i64 y.fn, .int .i64 y.op, .int .i64 y.num, .string y.metric, .slice qm y.mats.length dm, .int .i64 y.span, .slice qn y.names.length dn, .slice qk y.kids.length dk] : List Value).toArray 26)) X5.heap.size 26 [.int .i64 x.kind, .int .i64 x.fn, .int .i64 x.op, .int .i64 x.num, .string x.metric, .slice pm x.mats.length cm, .int .i64 x.span, .slice pn x.names.length cn, .slice pk x.kids.length ck, .int .i64 y.kind, .int .i64 y.fn, .int .i64 y.op, .int .i64 y.num, .string y.metric, .slice qm y.mats.length dm, .int .i64 y.span, .slice qn y.names.length dn, .slice qk y.kids.length dk] := by have := Blk.new (X5.setCell ⟨b9, 8, none⟩ (.slice (some ⟨X5.heap.size, 0, none⟩) 2 2)) [.int .i64 x.kind, .int .i64 x.fn, .int .i64 x.op, .int .i64 x.num, .string x.metric, .slice pm x.mats.length cm, .int .i64 x.span, .slice pn x.names.length cn, .slice pk x.kids.length ck, .int .i64 y.kind, .int .i64 y.fn, .int .i64 y.op, .int .i64 y.num, .string y.metric, .slice qm y.mats.length dm, .int .i64 y.span, .slice qn y.names.length dn, .slice qk y.kids.length dk] 26; rwa [hz6] at this
    have hx6 := (HX5.out.set (k := b9) (fun h => by have h : b9 < w.heap.size := h.2; omega) 8 (.slice (some ⟨X5.heap.size, 0, none⟩) 2 2)).below hbl6
    have hy6 := (HY5.out.set (k := b9) (show ¬ X3.heap.size ≤ b9 by omega) 8 (.slice (some ⟨X5.heap.size, 0, none⟩) 2 2)).below hbl6
    have hP6 := (HP5.out.setFar hgY 8 (.slice (some ⟨X5.heap.size, 0, none⟩) 2 2)).keep hbl6
    have ho6 := (HO5.out.setNew (show w.heap.size ≤ b9 by omega) 8 (.slice (some ⟨X5.heap.size, 0, none⟩) 2 2)).trans (Off.of (g := g) hbl6)
    exact bodyPost_agg (d := _) rfl rfl (setRow_at ((HR5.out.far (p := ⟨b9, 8, none⟩) (show w.heap.size + 1 ≠ b9 by omega) (.slice (some ⟨X5.heap.size, 0, none⟩) 2 2)).alloc (.cells ([.int .i64 x.kind, .int .i64 x.fn, .int .i64 x.op, .int .i64 x.num, .string x.metric, .slice pm x.mats.length cm, .int .i64 x.span, .slice pn x.names.length cn, .slice pk x.kids.length ck, .int .i64 y.kind, .int .i64 y.fn, .int .i64 y.op, .int .i64 y.num, .string y.metric, .slice qm y.mats.length dm, .int .i64 y.span, .slice qn y.names.length dn, .slice qk y.kids.length dk] : List Value).toArray 26)) _) Tryd.underlying26 rfl (by kernel_rfl) rfl (exR_close (S := fun k => (S k ∧ k < w.heap.size) ∨ (w.heap.size ≤ k ∧ k ≠ w.heap.size + 1)) (exS_node (by decide) (noMatsS _ _) (noStrsS _ _) (exsS2 (cs := [.int .i64 x.kind, .int .i64 x.fn, .int .i64 x.op, .int .i64 x.num, .string x.metric, .slice pm x.mats.length cm, .int .i64 x.span, .slice pn x.names.length cn, .slice pk x.kids.length ck]) (ds := [.int .i64 y.kind, .int .i64 y.fn, .int .i64 y.op, .int .i64 y.num, .string y.metric, .slice qm y.mats.length dm, .int .i64 y.span, .slice qn y.names.length dn, .slice qk y.kids.length dk]) hK6 (Or.inr (show w.heap.size ≤ X5.heap.size ∧ X5.heap.size ≠ w.heap.size + 1 by omega)) (hx6.go (Nat.le_refl _) (fun k _ h => Or.inl h) (fun _ _ _ => rfl)) (hy6.go (Nat.le_refl _) (fun k _ h => Or.inr (by have h : X3.heap.size ≤ k := h; show w.heap.size ≤ k ∧ k ≠ w.heap.size + 1; omega)) (fun _ _ _ => rfl)))) hP6 ho6 (by omega) (show g < w.heap.size + 1 by omega) (fun h => h.elim (fun h => by have := h.2; omega) (fun h => h.2 rfl)) (fun k _ h => h.elim (fun h => Or.inl h.1) (fun h => Or.inr h.1)))

set_option maxRecDepth 100000 in
set_option maxHeartbeats 16000000 in
theorem pStep_joinFF (g : Nat) (pt : Option Addr) (cap : Nat) (L : List Tok) (f : Nat) (hC : AtomC g pt cap L f) (op : Int) (x : Ex) (p q q' : PS) (ns : List (List UInt8)) (y : Ex) (hnum : ¬ (p.err = 0 ∧ (p.tok L).kind = 2)) (hc : (p.take L [111, 110]).1 = false)
    (hns : ns = []) (hn : (p.take L [111, 110]).2 = q)
    (hy : pAtom L f q = some (y, q')) (hw : PW L p) (S : Nat → Prop) (cs : List Value) (w : World) (hSg : ¬ S g) (h : PA g pt cap L p w) (hx : ExS S w x cs) :
    Calls Tryd.prog 89 #[.pointer (some ⟨g, 0, none⟩), .int .i64 op, .agg cs.toArray, .bool false] w (ExR g pt cap L (fun k => S k ∨ w.heap.size ≤ k) w (.mk 3 0 op 0 ⟨#[]⟩ [] 0 (ns.map baOf) [x, y]) q') := by
  have hi := hw.at'
  have hlen := hw.len
  obtain ⟨pm, cm, pn, cn, pk, ck, rfl, -⟩ := IsEx.cellsE hx
  obtain ⟨b, off, rfl, hbg, -⟩ := h.now hw.at'
  have hg := h.1.lt
  have hP := h
  have ho := Off.refl g w
  have HT := Lib.hid (fun (X : World) (hX : PA g _ cap L p X) => pTake g (some ⟨b, off, none⟩) cap L p X hX hw [111, 110])
  have hw2 := hw.take [111, 110]
  rw [hc] at HT
  subst hns
  rw [hn] at HT hw2
  have hwq := hw2
  have HY := Lib.hid (fun (X : World) (hX : PA g _ cap L q X) => hC _ _ _ hy hwq X hX)
  clear h hw hw2 hwq hy hn hc hC
  have HP := Lib.hid hP; have Ho := Lib.hid ho; clear ho; obtain ⟨b', off', hpt, -, e0, e1, e2, e3⟩ := hP.now hi; cases hpt; obtain ⟨hb, hl⟩ := hP; clear hl; have hg := hb.lt; have hbw := Nat.lt_trans hbg hg; unfold PC at hb; have c0 := hb.cell 0 _ rfl; have c1 := hb.cell 1 _ rfl; have c2 := hb.cell 2 _ rfl; have c3 := hb.cell 3 _ rfl; have c4 := hb.cell 4 _ rfl; have f1 := hb.free 1; have f2 := hb.free 2; have f3 := hb.free 3; have f4 := hb.free 4; clear hb
  obtain ⟨t, ht⟩ : ∃ t, p.tok L = t := ⟨_, rfl⟩
  rw [ht] at e0 e1 e2 e3 hnum
  clear ht
  have Hx := Lib.hid (hx.go (S' := fun k => S k ∧ k < w.heap.size) (Nat.le_refl _) (fun b hb h => ⟨h, hb⟩) (fun _ _ _ => rfl)); clear hx
  by_cases h0 : p.err = 0
  · have hk : ¬ t.kind = 2 := fun e => hnum ⟨h0, e⟩
    have hkb : (t.kind == 2) = false := by simpa using hk
    clear hnum
    rw [h0] at c2
    go_enter Tryd.func89, Tryd.ntmps89; (try simp only [List.append_eq, List.cons_append, List.nil_append])
    go_wp2
    go_quiet (fail)
    go_wp2_with fail
    have hXb := (two_at w [.int .i64 x.kind, .int .i64 x.fn, .int .i64 x.op, .int .i64 x.num, .string x.metric, .slice pm x.mats.length cm, .int .i64 x.span, .slice pn x.names.length cn, .slice pk x.kids.length ck] ZX 26 26).drewN nq
    have hRb := (two_at' w (.cells ([.int .i64 x.kind, .int .i64 x.fn, .int .i64 x.op, .int .i64 x.num, .string x.metric, .slice pm x.mats.length cm, .int .i64 x.span, .slice pn x.names.length cn, .slice pk x.kids.length ck] : List Value).toArray 26) ZX 26).drewN nq
    have hbl := below_drewN (two_below w (.cells ([.int .i64 x.kind, .int .i64 x.fn, .int .i64 x.op, .int .i64 x.num, .string x.metric, .slice pm x.mats.length cm, .int .i64 x.span, .slice pn x.names.length cn, .slice pk x.kids.length ck] : List Value).toArray 26) (.cells ZX.toArray 26)) nq
    have hPY := HP.out.keep hbl
    have hxY := Hx.out.below hbl
    have hoY := Off.of (g := g) hbl
    have hgY := hPY.1.lt
    have hRlt := hRb.lt
    clear c0 c1 c2 c3 c4 f1 f2 f3 f4 e0 e1 e2 e3
    have hzY : (((w.alloc (.cells ([.int .i64 x.kind, .int .i64 x.fn, .int .i64 x.op, .int .i64 x.num, .string x.metric, .slice pm x.mats.length cm, .int .i64 x.span, .slice pn x.names.length cn, .slice pk x.kids.length ck] : List Value).toArray 26)).alloc (.cells ZX.toArray 26)).drewN nq).heap.size = w.heap.size + 1 + 1 := by show ((w.alloc _).alloc _).heap.size = _; simp
    generalize (((w.alloc (.cells ([.int .i64 x.kind, .int .i64 x.fn, .int .i64 x.op, .int .i64 x.num, .string x.metric, .slice pm x.mats.length cm, .int .i64 x.span, .slice pn x.names.length cn, .slice pk x.kids.length ck] : List Value).toArray 26)).alloc (.cells ZX.toArray 26)).drewN nq) = Y at hXb hRb hbl hPY hxY hoY hgY hRlt hzY
    have hJ := Blk.new Y [.int .i64 3, .int .i64 0, .int .i64 op, .int .i64 0, .string ⟨#[]⟩, .slice none 0 0, .int .i64 0, .slice none 0 0, .slice none 0 0] 26
    have hbl2 : Below Y.heap.size Y (Y.alloc (.cells ([.int .i64 3, .int .i64 0, .int .i64 op, .int .i64 0, .string ⟨#[]⟩, .slice none 0 0, .int .i64 0, .slice none 0 0, .slice none 0 0] : List Value).toArray 26)) := (Below.refl _ _).alloc (Nat.le_refl _) _
    have hX1 := hXb.keep hbl2
    have hR1 := hRb.keep hbl2
    have hP1 := hPY.keep hbl2
    have hx1 := hxY.below hbl2
    have ho1 := hoY.trans (Off.of (g := g) hbl2)
    have hJlt := hJ.lt
    generalize Y.alloc (.cells ([.int .i64 3, .int .i64 0, .int .i64 op, .int .i64 0, .string ⟨#[]⟩, .slice none 0 0, .int .i64 0, .slice none 0 0, .slice none 0 0] : List Value).toArray 26) = X1 at hJ hbl2 hX1 hR1 hP1 hx1 ho1 hJlt
    rw [hzY] at hJ hJlt hgY hRlt
    obtain ⟨b9, hb9⟩ : ∃ k, w.heap.size + 1 + 1 = k := ⟨_, rfl⟩
    rw [hb9] at hJ hJlt hgY hRlt ⊢
    clear hXb hRb hbl hbl2 hPY hxY hoY hb9 hzY
    refine (HT.out _ hP1).mono ?_
    rintro e' w1 ⟨rfl, hPa, hoa⟩
    have hXa := hoa.blkX hX1 (Nat.ne_of_gt hg)
    have hRa := hoa.blkX hR1 (show w.heap.size + 1 ≠ g by omega)
    have hJa := hoa.blkX hJ (Nat.ne_of_gt hgY)
    have hxa := hx1.off hoa (fun h => hSg h.1)
    have hzaa := hoa.size
    have hoa := ho1.trans hoa
    clear hX1 hR1 hJ hP1 hx1 ho1
    go_wp2_with fail
    obtain ⟨W2, hW2⟩ : ∃ W, W = w1 := ⟨_, rfl⟩
    subst hW2
    have hXc := hXa
    have hRc := hRa
    have hJc := hJa
    have hxc := hxa
    have hPc := hPa
    have hoc := hoa
    clear hXa hRa hJa hxa hPa hoa
    have hZ := Blk.new W2 ZX 26
    have hbl3 : Below W2.heap.size W2 (W2.alloc (.cells ZX.toArray 26)) := (Below.refl _ _).alloc (Nat.le_refl _) _
    have hXd := hXc.keep hbl3
    have hRd := hRc.keep hbl3
    have hJd := hJc.keep hbl3
    have hPd := hPc.keep hbl3
    have hxd := hxc.below hbl3
    have hod := hoc.trans (Off.of (g := g) hbl3)
    have hZlt := hZ.lt
    have hJlt2 := hJc.lt
    have hRlt2 := hRc.lt
    have hgW := hPc.1.lt
    generalize W2.alloc (.cells ZX.toArray 26) = X3 at hZ hbl3 hXd hRd hJd hPd hxd hod hZlt
    obtain ⟨b10, hb10⟩ : ∃ k, W2.heap.size = k := ⟨_, rfl⟩
    rw [hb10] at hZ hZlt hJlt2 hRlt2 hgW ⊢
    clear hbl3 hXc hRc hJc hPc hxc hoc
    refine (HY.out _ hPd).mono ?_
    rintro e' w4 ⟨cs', rfl, hy4, hP4, ho4⟩
    obtain ⟨qm, dm, qn, dn, qk, dk, rfl, -⟩ := IsEx.cellsE hy4
    have hX4 := ho4.blkX hXd (Nat.ne_of_gt hg)
    have hR4 := ho4.blkX hRd (show w.heap.size + 1 ≠ g by omega)
    have hJ4 := ho4.blkX hJd (Nat.ne_of_gt hgY)
    have hZ4 := ho4.blkX hZ (Nat.ne_of_gt hgW)
    have hx4 := hxd.off ho4 (fun h => hSg h.1)
    have hz34 := ho4.size
    have ho4 := hod.trans ho4
    have hs5 : (w4.setRow b10 ([.int .i64 y.kind, .int .i64 y.fn, .int .i64 y.op, .int .i64 y.num, .string y.metric, .slice qm y.mats.length dm, .int .i64 y.span, .slice qn y.names.length dn, .slice qk y.kids.length dk] : List Value).toArray).heap.size = w4.heap.size := setRow_size _ _ _
    have hX5 : Blk (w4.setRow b10 ([.int .i64 y.kind, .int .i64 y.fn, .int .i64 y.op, .int .i64 y.num, .string y.metric, .slice qm y.mats.length dm, .int .i64 y.span, .slice qn y.names.length dn, .slice qk y.kids.length dk] : List Value).toArray) w.heap.size _ _ := (setRow_far w4 b10 _ (show w.heap.size ≠ b10 by omega)).trans hX4
    have hR5 : Blk (w4.setRow b10 ([.int .i64 y.kind, .int .i64 y.fn, .int .i64 y.op, .int .i64 y.num, .string y.metric, .slice qm y.mats.length dm, .int .i64 y.span, .slice qn y.names.length dn, .slice qk y.kids.length dk] : List Value).toArray) (w.heap.size + 1) _ _ := (setRow_far w4 b10 _ (show w.heap.size + 1 ≠ b10 by omega)).trans hR4
    have hJ5 : Blk (w4.setRow b10 ([.int .i64 y.kind, .int .i64 y.fn, .int .i64 y.op, .int .i64 y.num, .string y.metric, .slice qm y.mats.length dm, .int .i64 y.span, .slice qn y.names.length dn, .slice qk y.kids.length dk] : List Value).toArray) b9 _ _ := (setRow_far w4 b10 _ (show b9 ≠ b10 by omega)).trans hJ4
    have hZ5 := hZ4.row [.int .i64 y.kind, .int .i64 y.fn, .int .i64 y.op, .int .i64 y.num, .string y.metric, .slice qm y.mats.length dm, .int .i64 y.span, .slice qn y.names.length dn, .slice qk y.kids.length dk]
    have hP5 := hP4.row (show g < b10 by omega) ([.int .i64 y.kind, .int .i64 y.fn, .int .i64 y.op, .int .i64 y.num, .string y.metric, .slice qm y.mats.length dm, .int .i64 y.span, .slice qn y.names.length dn, .slice qk y.kids.length dk] : List Value).toArray
    have hx5 := hx4.go (S' := fun k => S k ∧ k < w.heap.size) (w' := w4.setRow b10 ([.int .i64 y.kind, .int .i64 y.fn, .int .i64 y.op, .int .i64 y.num, .string y.metric, .slice qm y.mats.length dm, .int .i64 y.span, .slice qn y.names.length dn, .slice qk y.kids.length dk] : List Value).toArray) (by rw [hs5]; exact Nat.le_refl _) (fun _ _ h => h) (fun k _ hk => setRow_far w4 b10 _ (by have hk : k < w.heap.size := hk.2; omega))
    have hy5 := hy4.go (S' := fun k => X3.heap.size ≤ k) (w' := w4.setRow b10 ([.int .i64 y.kind, .int .i64 y.fn, .int .i64 y.op, .int .i64 y.num, .string y.metric, .slice qm y.mats.length dm, .int .i64 y.span, .slice qn y.names.length dn, .slice qk y.kids.length dk] : List Value).toArray) (by rw [hs5]; exact Nat.le_refl _) (fun _ _ h => h) (fun k _ hk => setRow_far w4 b10 _ (by have hk : X3.heap.size ≤ k := hk; omega))
    have ho5 := ho4.rowNew (show w.heap.size ≤ b10 by omega) ([.int .i64 y.kind, .int .i64 y.fn, .int .i64 y.op, .int .i64 y.num, .string y.metric, .slice qm y.mats.length dm, .int .i64 y.span, .slice qn y.names.length dn, .slice qk y.kids.length dk] : List Value).toArray
    have HZ4 := Lib.hid hZ4
    have hs0 := hX4.lt
    clear hX4 hR4 hJ4 hZ4 hx4 hy4 ho4 hP4 hXd hRd hJd hZ hxd hPd hod
    go_wp2_with (first
      | (refine wpList_store_row rfl 26 _ _ rfl b10 ([.int .i64 y.kind, .int .i64 y.fn, .int .i64 y.op, .int .i64 y.num, .string y.metric, .slice qm y.mats.length dm, .int .i64 y.span, .slice qn y.names.length dn, .slice qk y.kids.length dk] : List Value).toArray rfl rfl 26 _ HZ4.out (by kernel_rfl) rfl (by kernel_rfl) ?_; generalize w4.setRow b10 ([.int .i64 y.kind, .int .i64 y.fn, .int .i64 y.op, .int .i64 y.num, .string y.metric, .slice qm y.mats.length dm, .int .i64 y.span, .slice qn y.names.length dn, .slice qk y.kids.length dk] : List Value).toArray = X5 at hX5 hR5 hJ5 hZ5 hP5 hx5 hy5 ho5 hs5; have l9 := hJ5.lt; have l10 := hZ5.lt; have l0 := hX5.lt; have l1 := hR5.lt; have x0 := hX5.cell 0 _ rfl; have x1 := hX5.cell 1 _ rfl; have x2 := hX5.cell 2 _ rfl; have x3 := hX5.cell 3 _ rfl; have x4 := hX5.cell 4 _ rfl; have x5 := hX5.cell 5 _ rfl; have x6 := hX5.cell 6 _ rfl; have x7 := hX5.cell 7 _ rfl; have x8 := hX5.cell 8 _ rfl; have z0 := hZ5.cell 0 _ rfl; have z1 := hZ5.cell 1 _ rfl; have z2 := hZ5.cell 2 _ rfl; have z3 := hZ5.cell 3 _ rfl; have z4 := hZ5.cell 4 _ rfl; have z5 := hZ5.cell 5 _ rfl; have z6 := hZ5.cell 6 _ rfl; have z7 := hZ5.cell 7 _ rfl; have z8 := hZ5.cell 8 _ rfl; have d0 := hJ5.cell 0 _ rfl; have d1 := hJ5.cell 1 _ rfl; have d2 := hJ5.cell 2 _ rfl; have d3 := hJ5.cell 3 _ rfl; have d4 := hJ5.cell 4 _ rfl; have d5 := hJ5.cell 5 _ rfl; have d6 := hJ5.cell 6 _ rfl; have d7 := hJ5.cell 7 _ rfl; have d8 := hJ5.cell 8 _ rfl; have f8 := hJ5.free 8; have HR5 := Lib.hid hR5; have HJ5 := Lib.hid hJ5; have HP5 := Lib.hid hP5; have HX5 := Lib.hid hx5; have HY5 := Lib.hid hy5; have HO5 := Lib.hid ho5; have HS5 := Lib.hid hs5; clear hX5 hR5 hJ5 hZ5 hP5 hx5 hy5 ho5 hs5)
      | (refine wpList_store_row rfl 26 _ _ rfl (w.heap.size + 1) ([.int .i64 3, .int .i64 0, .int .i64 op, .int .i64 0, .string ⟨#[]⟩, .slice none 0 0, .int .i64 0, .slice none 0 0, .slice (some ⟨X5.heap.size, 0, none⟩) 2 2] : List Value).toArray rfl rfl 26 _ ((HR5.out.far (p := ⟨b9, 8, none⟩) (show w.heap.size + 1 ≠ b9 by omega) (.slice (some ⟨X5.heap.size, 0, none⟩) 2 2)).alloc (.cells ([.int .i64 x.kind, .int .i64 x.fn, .int .i64 x.op, .int .i64 x.num, .string x.metric, .slice pm x.mats.length cm, .int .i64 x.span, .slice pn x.names.length cn, .slice pk x.kids.length ck, .int .i64 y.kind, .int .i64 y.fn, .int .i64 y.op, .int .i64 y.num, .string y.metric, .slice qm y.mats.length dm, .int .i64 y.span, .slice qn y.names.length dn, .slice qk y.kids.length dk] : List Value).toArray 26)) (by kernel_rfl) rfl (by kernel_rfl) ?_))
    have hs5 := HS5.out
    have hz6 := setCell_size X5 ⟨b9, 8, none⟩ (.slice (some ⟨X5.heap.size, 0, none⟩) 2 2)
    have hbl6 : Below (X5.setCell ⟨b9, 8, none⟩ (.slice (some ⟨X5.heap.size, 0, none⟩) 2 2)).heap.size (X5.setCell ⟨b9, 8, none⟩ (.slice (some ⟨X5.heap.size, 0, none⟩) 2 2)) ((X5.setCell ⟨b9, 8, none⟩ (.slice (some ⟨X5.heap.size, 0, none⟩) 2 2)).alloc (.cells ([.int .i64 x.kind, .int .i64 x.fn, .int .i64 x.op, .int .i64 x.num, .string x.metric, .slice pm x.mats.length cm, .int .i64 x.span, .slice pn x.names.length cn, .slice pk x.kids.length ck, .int .i64 y.kind, .int .i64 y.fn, .int .i64 y.op, .int .i64 y.num, .string y.metric, .slice qm y.mats.length dm, .int .i64 y.span, .slice qn y.names.length dn, .slice qk y.kids.length dk] : List Value).toArray 26)) := (Below.refl _ _).alloc (Nat.le_refl _) _
    have hK6 : Blk ((X5.setCell ⟨b9, 8, none⟩ (.slice (some ⟨X5.heap.size, 0, none⟩) 2 2)).alloc (.cells ([.int .i64 x.kind, .int .i64 x.fn, .int .i64 x.op, .int .i64 x.num, .string x.metric, .slice pm x.mats.length cm, .int .i64 x.span, .slice pn x.names.length cn, .slice pk x.kids.length ck, .int .i64 y.kind, .int .i64 y.fn, .int .i64 y.op, .int .i64 y.num, .string y.metric, .slice qm y.mats.length dm, .int .i64 y.span, .slice qn y.names.length dn, .slice qk y.kids.length dk] : List Value).toArray 26)) X5.heap.size 26 [.int .i64 x.kind, .int .i64 x.fn, .int .i64 x.op, .int .i64 x.num, .string x.metric, .slice pm x.mats.length cm, .int .i64 x.span, .slice pn x.names.length cn, .slice pk x.kids.length ck, .int .i64 y.kind, .int .i64 y.fn, .int .i64 y.op, .int .i64 y.num, .string y.metric, .slice qm y.mats.length dm, .int .i64 y.span, .slice qn y.names.length dn, .slice qk y.kids.length dk] := by have := Blk.new (X5.setCell ⟨b9, 8, none⟩ (.slice (some ⟨X5.heap.size, 0, none⟩) 2 2)) [.int .i64 x.kind, .int .i64 x.fn, .int .i64 x.op, .int .i64 x.num, .string x.metric, .slice pm x.mats.length cm, .int .i64 x.span, .slice pn x.names.length cn, .slice pk x.kids.length ck, .int .i64 y.kind, .int .i64 y.fn, .int .i64 y.op, .int .i64 y.num, .string y.metric, .slice qm y.mats.length dm, .int .i64 y.span, .slice qn y.names.length dn, .slice qk y.kids.length dk] 26; rwa [hz6] at this
    have hx6 := (HX5.out.set (k := b9) (fun h => by have h : b9 < w.heap.size := h.2; omega) 8 (.slice (some ⟨X5.heap.size, 0, none⟩) 2 2)).below hbl6
    have hy6 := (HY5.out.set (k := b9) (show ¬ X3.heap.size ≤ b9 by omega) 8 (.slice (some ⟨X5.heap.size, 0, none⟩) 2 2)).below hbl6
    have hP6 := (HP5.out.setFar hgY 8 (.slice (some ⟨X5.heap.size, 0, none⟩) 2 2)).keep hbl6
    have ho6 := (HO5.out.setNew (show w.heap.size ≤ b9 by omega) 8 (.slice (some ⟨X5.heap.size, 0, none⟩) 2 2)).trans (Off.of (g := g) hbl6)
    exact bodyPost_agg (d := _) rfl rfl (setRow_at ((HR5.out.far (p := ⟨b9, 8, none⟩) (show w.heap.size + 1 ≠ b9 by omega) (.slice (some ⟨X5.heap.size, 0, none⟩) 2 2)).alloc (.cells ([.int .i64 x.kind, .int .i64 x.fn, .int .i64 x.op, .int .i64 x.num, .string x.metric, .slice pm x.mats.length cm, .int .i64 x.span, .slice pn x.names.length cn, .slice pk x.kids.length ck, .int .i64 y.kind, .int .i64 y.fn, .int .i64 y.op, .int .i64 y.num, .string y.metric, .slice qm y.mats.length dm, .int .i64 y.span, .slice qn y.names.length dn, .slice qk y.kids.length dk] : List Value).toArray 26)) _) Tryd.underlying26 rfl (by kernel_rfl) rfl (exR_close (S := fun k => (S k ∧ k < w.heap.size) ∨ (w.heap.size ≤ k ∧ k ≠ w.heap.size + 1)) (exS_node (by decide) (noMatsS _ _) (noStrsS _ _) (exsS2 (cs := [.int .i64 x.kind, .int .i64 x.fn, .int .i64 x.op, .int .i64 x.num, .string x.metric, .slice pm x.mats.length cm, .int .i64 x.span, .slice pn x.names.length cn, .slice pk x.kids.length ck]) (ds := [.int .i64 y.kind, .int .i64 y.fn, .int .i64 y.op, .int .i64 y.num, .string y.metric, .slice qm y.mats.length dm, .int .i64 y.span, .slice qn y.names.length dn, .slice qk y.kids.length dk]) hK6 (Or.inr (show w.heap.size ≤ X5.heap.size ∧ X5.heap.size ≠ w.heap.size + 1 by omega)) (hx6.go (Nat.le_refl _) (fun k _ h => Or.inl h) (fun _ _ _ => rfl)) (hy6.go (Nat.le_refl _) (fun k _ h => Or.inr (by have h : X3.heap.size ≤ k := h; show w.heap.size ≤ k ∧ k ≠ w.heap.size + 1; omega)) (fun _ _ _ => rfl)))) hP6 ho6 (by omega) (show g < w.heap.size + 1 by omega) (fun h => h.elim (fun h => by have := h.2; omega) (fun h => h.2 rfl)) (fun k _ h => h.elim (fun h => Or.inl h.1) (fun h => Or.inr h.1)))
  · have h0b : (p.err == 0) = false := by simpa using h0
    clear hnum
    go_enter Tryd.func89, Tryd.ntmps89; (try simp only [List.append_eq, List.cons_append, List.nil_append])
    go_wp2
    go_quiet (fail)
    go_wp2_with fail
    have hXb := (two_at w [.int .i64 x.kind, .int .i64 x.fn, .int .i64 x.op, .int .i64 x.num, .string x.metric, .slice pm x.mats.length cm, .int .i64 x.span, .slice pn x.names.length cn, .slice pk x.kids.length ck] ZX 26 26).drewN nq
    have hRb := (two_at' w (.cells ([.int .i64 x.kind, .int .i64 x.fn, .int .i64 x.op, .int .i64 x.num, .string x.metric, .slice pm x.mats.length cm, .int .i64 x.span, .slice pn x.names.length cn, .slice pk x.kids.length ck] : List Value).toArray 26) ZX 26).drewN nq
    have hbl := below_drewN (two_below w (.cells ([.int .i64 x.kind, .int .i64 x.fn, .int .i64 x.op, .int .i64 x.num, .string x.metric, .slice pm x.mats.length cm, .int .i64 x.span, .slice pn x.names.length cn, .slice pk x.kids.length ck] : List Value).toArray 26) (.cells ZX.toArray 26)) nq
    have hPY := HP.out.keep hbl
    have hxY := Hx.out.below hbl
    have hoY := Off.of (g := g) hbl
    have hgY := hPY.1.lt
    have hRlt := hRb.lt
    clear c0 c1 c2 c3 c4 f1 f2 f3 f4 e0 e1 e2 e3
    have hzY : (((w.alloc (.cells ([.int .i64 x.kind, .int .i64 x.fn, .int .i64 x.op, .int .i64 x.num, .string x.metric, .slice pm x.mats.length cm, .int .i64 x.span, .slice pn x.names.length cn, .slice pk x.kids.length ck] : List Value).toArray 26)).alloc (.cells ZX.toArray 26)).drewN nq).heap.size = w.heap.size + 1 + 1 := by show ((w.alloc _).alloc _).heap.size = _; simp
    generalize (((w.alloc (.cells ([.int .i64 x.kind, .int .i64 x.fn, .int .i64 x.op, .int .i64 x.num, .string x.metric, .slice pm x.mats.length cm, .int .i64 x.span, .slice pn x.names.length cn, .slice pk x.kids.length ck] : List Value).toArray 26)).alloc (.cells ZX.toArray 26)).drewN nq) = Y at hXb hRb hbl hPY hxY hoY hgY hRlt hzY
    have hJ := Blk.new Y [.int .i64 3, .int .i64 0, .int .i64 op, .int .i64 0, .string ⟨#[]⟩, .slice none 0 0, .int .i64 0, .slice none 0 0, .slice none 0 0] 26
    have hbl2 : Below Y.heap.size Y (Y.alloc (.cells ([.int .i64 3, .int .i64 0, .int .i64 op, .int .i64 0, .string ⟨#[]⟩, .slice none 0 0, .int .i64 0, .slice none 0 0, .slice none 0 0] : List Value).toArray 26)) := (Below.refl _ _).alloc (Nat.le_refl _) _
    have hX1 := hXb.keep hbl2
    have hR1 := hRb.keep hbl2
    have hP1 := hPY.keep hbl2
    have hx1 := hxY.below hbl2
    have ho1 := hoY.trans (Off.of (g := g) hbl2)
    have hJlt := hJ.lt
    generalize Y.alloc (.cells ([.int .i64 3, .int .i64 0, .int .i64 op, .int .i64 0, .string ⟨#[]⟩, .slice none 0 0, .int .i64 0, .slice none 0 0, .slice none 0 0] : List Value).toArray 26) = X1 at hJ hbl2 hX1 hR1 hP1 hx1 ho1 hJlt
    rw [hzY] at hJ hJlt hgY hRlt
    obtain ⟨b9, hb9⟩ : ∃ k, w.heap.size + 1 + 1 = k := ⟨_, rfl⟩
    rw [hb9] at hJ hJlt hgY hRlt ⊢
    clear hXb hRb hbl hbl2 hPY hxY hoY hb9 hzY
    refine (HT.out _ hP1).mono ?_
    rintro e' w1 ⟨rfl, hPa, hoa⟩
    have hXa := hoa.blkX hX1 (Nat.ne_of_gt hg)
    have hRa := hoa.blkX hR1 (show w.heap.size + 1 ≠ g by omega)
    have hJa := hoa.blkX hJ (Nat.ne_of_gt hgY)
    have hxa := hx1.off hoa (fun h => hSg h.1)
    have hzaa := hoa.size
    have hoa := ho1.trans hoa
    clear hX1 hR1 hJ hP1 hx1 ho1
    go_wp2_with fail
    obtain ⟨W2, hW2⟩ : ∃ W, W = w1 := ⟨_, rfl⟩
    subst hW2
    have hXc := hXa
    have hRc := hRa
    have hJc := hJa
    have hxc := hxa
    have hPc := hPa
    have hoc := hoa
    clear hXa hRa hJa hxa hPa hoa
    have hZ := Blk.new W2 ZX 26
    have hbl3 : Below W2.heap.size W2 (W2.alloc (.cells ZX.toArray 26)) := (Below.refl _ _).alloc (Nat.le_refl _) _
    have hXd := hXc.keep hbl3
    have hRd := hRc.keep hbl3
    have hJd := hJc.keep hbl3
    have hPd := hPc.keep hbl3
    have hxd := hxc.below hbl3
    have hod := hoc.trans (Off.of (g := g) hbl3)
    have hZlt := hZ.lt
    have hJlt2 := hJc.lt
    have hRlt2 := hRc.lt
    have hgW := hPc.1.lt
    generalize W2.alloc (.cells ZX.toArray 26) = X3 at hZ hbl3 hXd hRd hJd hPd hxd hod hZlt
    obtain ⟨b10, hb10⟩ : ∃ k, W2.heap.size = k := ⟨_, rfl⟩
    rw [hb10] at hZ hZlt hJlt2 hRlt2 hgW ⊢
    clear hbl3 hXc hRc hJc hPc hxc hoc
    refine (HY.out _ hPd).mono ?_
    rintro e' w4 ⟨cs', rfl, hy4, hP4, ho4⟩
    obtain ⟨qm, dm, qn, dn, qk, dk, rfl, -⟩ := IsEx.cellsE hy4
    have hX4 := ho4.blkX hXd (Nat.ne_of_gt hg)
    have hR4 := ho4.blkX hRd (show w.heap.size + 1 ≠ g by omega)
    have hJ4 := ho4.blkX hJd (Nat.ne_of_gt hgY)
    have hZ4 := ho4.blkX hZ (Nat.ne_of_gt hgW)
    have hx4 := hxd.off ho4 (fun h => hSg h.1)
    have hz34 := ho4.size
    have ho4 := hod.trans ho4
    have hs5 : (w4.setRow b10 ([.int .i64 y.kind, .int .i64 y.fn, .int .i64 y.op, .int .i64 y.num, .string y.metric, .slice qm y.mats.length dm, .int .i64 y.span, .slice qn y.names.length dn, .slice qk y.kids.length dk] : List Value).toArray).heap.size = w4.heap.size := setRow_size _ _ _
    have hX5 : Blk (w4.setRow b10 ([.int .i64 y.kind, .int .i64 y.fn, .int .i64 y.op, .int .i64 y.num, .string y.metric, .slice qm y.mats.length dm, .int .i64 y.span, .slice qn y.names.length dn, .slice qk y.kids.length dk] : List Value).toArray) w.heap.size _ _ := (setRow_far w4 b10 _ (show w.heap.size ≠ b10 by omega)).trans hX4
    have hR5 : Blk (w4.setRow b10 ([.int .i64 y.kind, .int .i64 y.fn, .int .i64 y.op, .int .i64 y.num, .string y.metric, .slice qm y.mats.length dm, .int .i64 y.span, .slice qn y.names.length dn, .slice qk y.kids.length dk] : List Value).toArray) (w.heap.size + 1) _ _ := (setRow_far w4 b10 _ (show w.heap.size + 1 ≠ b10 by omega)).trans hR4
    have hJ5 : Blk (w4.setRow b10 ([.int .i64 y.kind, .int .i64 y.fn, .int .i64 y.op, .int .i64 y.num, .string y.metric, .slice qm y.mats.length dm, .int .i64 y.span, .slice qn y.names.length dn, .slice qk y.kids.length dk] : List Value).toArray) b9 _ _ := (setRow_far w4 b10 _ (show b9 ≠ b10 by omega)).trans hJ4
    have hZ5 := hZ4.row [.int .i64 y.kind, .int .i64 y.fn, .int .i64 y.op, .int .i64 y.num, .string y.metric, .slice qm y.mats.length dm, .int .i64 y.span, .slice qn y.names.length dn, .slice qk y.kids.length dk]
    have hP5 := hP4.row (show g < b10 by omega) ([.int .i64 y.kind, .int .i64 y.fn, .int .i64 y.op, .int .i64 y.num, .string y.metric, .slice qm y.mats.length dm, .int .i64 y.span, .slice qn y.names.length dn, .slice qk y.kids.length dk] : List Value).toArray
    have hx5 := hx4.go (S' := fun k => S k ∧ k < w.heap.size) (w' := w4.setRow b10 ([.int .i64 y.kind, .int .i64 y.fn, .int .i64 y.op, .int .i64 y.num, .string y.metric, .slice qm y.mats.length dm, .int .i64 y.span, .slice qn y.names.length dn, .slice qk y.kids.length dk] : List Value).toArray) (by rw [hs5]; exact Nat.le_refl _) (fun _ _ h => h) (fun k _ hk => setRow_far w4 b10 _ (by have hk : k < w.heap.size := hk.2; omega))
    have hy5 := hy4.go (S' := fun k => X3.heap.size ≤ k) (w' := w4.setRow b10 ([.int .i64 y.kind, .int .i64 y.fn, .int .i64 y.op, .int .i64 y.num, .string y.metric, .slice qm y.mats.length dm, .int .i64 y.span, .slice qn y.names.length dn, .slice qk y.kids.length dk] : List Value).toArray) (by rw [hs5]; exact Nat.le_refl _) (fun _ _ h => h) (fun k _ hk => setRow_far w4 b10 _ (by have hk : X3.heap.size ≤ k := hk; omega))
    have ho5 := ho4.rowNew (show w.heap.size ≤ b10 by omega) ([.int .i64 y.kind, .int .i64 y.fn, .int .i64 y.op, .int .i64 y.num, .string y.metric, .slice qm y.mats.length dm, .int .i64 y.span, .slice qn y.names.length dn, .slice qk y.kids.length dk] : List Value).toArray
    have HZ4 := Lib.hid hZ4
    have hs0 := hX4.lt
    clear hX4 hR4 hJ4 hZ4 hx4 hy4 ho4 hP4 hXd hRd hJd hZ hxd hPd hod
    go_wp2_with (first
      | (refine wpList_store_row rfl 26 _ _ rfl b10 ([.int .i64 y.kind, .int .i64 y.fn, .int .i64 y.op, .int .i64 y.num, .string y.metric, .slice qm y.mats.length dm, .int .i64 y.span, .slice qn y.names.length dn, .slice qk y.kids.length dk] : List Value).toArray rfl rfl 26 _ HZ4.out (by kernel_rfl) rfl (by kernel_rfl) ?_; generalize w4.setRow b10 ([.int .i64 y.kind, .int .i64 y.fn, .int .i64 y.op, .int .i64 y.num, .string y.metric, .slice qm y.mats.length dm, .int .i64 y.span, .slice qn y.names.length dn, .slice qk y.kids.length dk] : List Value).toArray = X5 at hX5 hR5 hJ5 hZ5 hP5 hx5 hy5 ho5 hs5; have l9 := hJ5.lt; have l10 := hZ5.lt; have l0 := hX5.lt; have l1 := hR5.lt; have x0 := hX5.cell 0 _ rfl; have x1 := hX5.cell 1 _ rfl; have x2 := hX5.cell 2 _ rfl; have x3 := hX5.cell 3 _ rfl; have x4 := hX5.cell 4 _ rfl; have x5 := hX5.cell 5 _ rfl; have x6 := hX5.cell 6 _ rfl; have x7 := hX5.cell 7 _ rfl; have x8 := hX5.cell 8 _ rfl; have z0 := hZ5.cell 0 _ rfl; have z1 := hZ5.cell 1 _ rfl; have z2 := hZ5.cell 2 _ rfl; have z3 := hZ5.cell 3 _ rfl; have z4 := hZ5.cell 4 _ rfl; have z5 := hZ5.cell 5 _ rfl; have z6 := hZ5.cell 6 _ rfl; have z7 := hZ5.cell 7 _ rfl; have z8 := hZ5.cell 8 _ rfl; have d0 := hJ5.cell 0 _ rfl; have d1 := hJ5.cell 1 _ rfl; have d2 := hJ5.cell 2 _ rfl; have d3 := hJ5.cell 3 _ rfl; have d4 := hJ5.cell 4 _ rfl; have d5 := hJ5.cell 5 _ rfl; have d6 := hJ5.cell 6 _ rfl; have d7 := hJ5.cell 7 _ rfl; have d8 := hJ5.cell 8 _ rfl; have f8 := hJ5.free 8; have HR5 := Lib.hid hR5; have HJ5 := Lib.hid hJ5; have HP5 := Lib.hid hP5; have HX5 := Lib.hid hx5; have HY5 := Lib.hid hy5; have HO5 := Lib.hid ho5; have HS5 := Lib.hid hs5; clear hX5 hR5 hJ5 hZ5 hP5 hx5 hy5 ho5 hs5)
      | (refine wpList_store_row rfl 26 _ _ rfl (w.heap.size + 1) ([.int .i64 3, .int .i64 0, .int .i64 op, .int .i64 0, .string ⟨#[]⟩, .slice none 0 0, .int .i64 0, .slice none 0 0, .slice (some ⟨X5.heap.size, 0, none⟩) 2 2] : List Value).toArray rfl rfl 26 _ ((HR5.out.far (p := ⟨b9, 8, none⟩) (show w.heap.size + 1 ≠ b9 by omega) (.slice (some ⟨X5.heap.size, 0, none⟩) 2 2)).alloc (.cells ([.int .i64 x.kind, .int .i64 x.fn, .int .i64 x.op, .int .i64 x.num, .string x.metric, .slice pm x.mats.length cm, .int .i64 x.span, .slice pn x.names.length cn, .slice pk x.kids.length ck, .int .i64 y.kind, .int .i64 y.fn, .int .i64 y.op, .int .i64 y.num, .string y.metric, .slice qm y.mats.length dm, .int .i64 y.span, .slice qn y.names.length dn, .slice qk y.kids.length dk] : List Value).toArray 26)) (by kernel_rfl) rfl (by kernel_rfl) ?_))
    have hs5 := HS5.out
    have hz6 := setCell_size X5 ⟨b9, 8, none⟩ (.slice (some ⟨X5.heap.size, 0, none⟩) 2 2)
    have hbl6 : Below (X5.setCell ⟨b9, 8, none⟩ (.slice (some ⟨X5.heap.size, 0, none⟩) 2 2)).heap.size (X5.setCell ⟨b9, 8, none⟩ (.slice (some ⟨X5.heap.size, 0, none⟩) 2 2)) ((X5.setCell ⟨b9, 8, none⟩ (.slice (some ⟨X5.heap.size, 0, none⟩) 2 2)).alloc (.cells ([.int .i64 x.kind, .int .i64 x.fn, .int .i64 x.op, .int .i64 x.num, .string x.metric, .slice pm x.mats.length cm, .int .i64 x.span, .slice pn x.names.length cn, .slice pk x.kids.length ck, .int .i64 y.kind, .int .i64 y.fn, .int .i64 y.op, .int .i64 y.num, .string y.metric, .slice qm y.mats.length dm, .int .i64 y.span, .slice qn y.names.length dn, .slice qk y.kids.length dk] : List Value).toArray 26)) := (Below.refl _ _).alloc (Nat.le_refl _) _
    have hK6 : Blk ((X5.setCell ⟨b9, 8, none⟩ (.slice (some ⟨X5.heap.size, 0, none⟩) 2 2)).alloc (.cells ([.int .i64 x.kind, .int .i64 x.fn, .int .i64 x.op, .int .i64 x.num, .string x.metric, .slice pm x.mats.length cm, .int .i64 x.span, .slice pn x.names.length cn, .slice pk x.kids.length ck, .int .i64 y.kind, .int .i64 y.fn, .int .i64 y.op, .int .i64 y.num, .string y.metric, .slice qm y.mats.length dm, .int .i64 y.span, .slice qn y.names.length dn, .slice qk y.kids.length dk] : List Value).toArray 26)) X5.heap.size 26 [.int .i64 x.kind, .int .i64 x.fn, .int .i64 x.op, .int .i64 x.num, .string x.metric, .slice pm x.mats.length cm, .int .i64 x.span, .slice pn x.names.length cn, .slice pk x.kids.length ck, .int .i64 y.kind, .int .i64 y.fn, .int .i64 y.op, .int .i64 y.num, .string y.metric, .slice qm y.mats.length dm, .int .i64 y.span, .slice qn y.names.length dn, .slice qk y.kids.length dk] := by have := Blk.new (X5.setCell ⟨b9, 8, none⟩ (.slice (some ⟨X5.heap.size, 0, none⟩) 2 2)) [.int .i64 x.kind, .int .i64 x.fn, .int .i64 x.op, .int .i64 x.num, .string x.metric, .slice pm x.mats.length cm, .int .i64 x.span, .slice pn x.names.length cn, .slice pk x.kids.length ck, .int .i64 y.kind, .int .i64 y.fn, .int .i64 y.op, .int .i64 y.num, .string y.metric, .slice qm y.mats.length dm, .int .i64 y.span, .slice qn y.names.length dn, .slice qk y.kids.length dk] 26; rwa [hz6] at this
    have hx6 := (HX5.out.set (k := b9) (fun h => by have h : b9 < w.heap.size := h.2; omega) 8 (.slice (some ⟨X5.heap.size, 0, none⟩) 2 2)).below hbl6
    have hy6 := (HY5.out.set (k := b9) (show ¬ X3.heap.size ≤ b9 by omega) 8 (.slice (some ⟨X5.heap.size, 0, none⟩) 2 2)).below hbl6
    have hP6 := (HP5.out.setFar hgY 8 (.slice (some ⟨X5.heap.size, 0, none⟩) 2 2)).keep hbl6
    have ho6 := (HO5.out.setNew (show w.heap.size ≤ b9 by omega) 8 (.slice (some ⟨X5.heap.size, 0, none⟩) 2 2)).trans (Off.of (g := g) hbl6)
    exact bodyPost_agg (d := _) rfl rfl (setRow_at ((HR5.out.far (p := ⟨b9, 8, none⟩) (show w.heap.size + 1 ≠ b9 by omega) (.slice (some ⟨X5.heap.size, 0, none⟩) 2 2)).alloc (.cells ([.int .i64 x.kind, .int .i64 x.fn, .int .i64 x.op, .int .i64 x.num, .string x.metric, .slice pm x.mats.length cm, .int .i64 x.span, .slice pn x.names.length cn, .slice pk x.kids.length ck, .int .i64 y.kind, .int .i64 y.fn, .int .i64 y.op, .int .i64 y.num, .string y.metric, .slice qm y.mats.length dm, .int .i64 y.span, .slice qn y.names.length dn, .slice qk y.kids.length dk] : List Value).toArray 26)) _) Tryd.underlying26 rfl (by kernel_rfl) rfl (exR_close (S := fun k => (S k ∧ k < w.heap.size) ∨ (w.heap.size ≤ k ∧ k ≠ w.heap.size + 1)) (exS_node (by decide) (noMatsS _ _) (noStrsS _ _) (exsS2 (cs := [.int .i64 x.kind, .int .i64 x.fn, .int .i64 x.op, .int .i64 x.num, .string x.metric, .slice pm x.mats.length cm, .int .i64 x.span, .slice pn x.names.length cn, .slice pk x.kids.length ck]) (ds := [.int .i64 y.kind, .int .i64 y.fn, .int .i64 y.op, .int .i64 y.num, .string y.metric, .slice qm y.mats.length dm, .int .i64 y.span, .slice qn y.names.length dn, .slice qk y.kids.length dk]) hK6 (Or.inr (show w.heap.size ≤ X5.heap.size ∧ X5.heap.size ≠ w.heap.size + 1 by omega)) (hx6.go (Nat.le_refl _) (fun k _ h => Or.inl h) (fun _ _ _ => rfl)) (hy6.go (Nat.le_refl _) (fun k _ h => Or.inr (by have h : X3.heap.size ≤ k := h; show w.heap.size ≤ k ∧ k ≠ w.heap.size + 1; omega)) (fun _ _ _ => rfl)))) hP6 ho6 (by omega) (show g < w.heap.size + 1 by omega) (fun h => h.elim (fun h => by have := h.2; omega) (fun h => h.2 rfl)) (fun k _ h => h.elim (fun h => Or.inl h.1) (fun h => Or.inr h.1)))

set_option maxRecDepth 100000 in
set_option maxHeartbeats 16000000 in
theorem pStep_joinTT (g : Nat) (pt : Option Addr) (cap : Nat) (L : List Tok) (f : Nat) (hC : TermC g pt cap L f) (op : Int) (x : Ex) (p q q' : PS) (ns : List (List UInt8)) (y : Ex) (hnum : ¬ (p.err = 0 ∧ (p.tok L).kind = 2)) (hc : (p.take L [111, 110]).1 = true)
    (hn : pNames L f (p.take L [111, 110]).2 = some (ns, q))
    (hy : pTerm L f q = some (y, q')) (hw : PW L p) (S : Nat → Prop) (cs : List Value) (w : World) (hSg : ¬ S g) (h : PA g pt cap L p w) (hx : ExS S w x cs) :
    Calls Tryd.prog 89 #[.pointer (some ⟨g, 0, none⟩), .int .i64 op, .agg cs.toArray, .bool true] w (ExR g pt cap L (fun k => S k ∨ w.heap.size ≤ k) w (.mk 3 0 op 0 ⟨#[]⟩ [] 0 (ns.map baOf) [x, y]) q') := by
  have hi := hw.at'
  have hlen := hw.len
  obtain ⟨pm, cm, pn, cn, pk, ck, rfl, -⟩ := IsEx.cellsE hx
  obtain ⟨b, off, rfl, hbg, -⟩ := h.now hw.at'
  have hg := h.1.lt
  have hP := h
  have ho := Off.refl g w
  have HT := Lib.hid (fun (X : World) (hX : PA g _ cap L p X) => pTake g (some ⟨b, off, none⟩) cap L p X hX hw [111, 110])
  have hw2 := hw.take [111, 110]
  rw [hc] at HT
  have HM := Lib.hid (fun (X : World) (hX : PA g _ cap L _ X) => pNamesC g (some ⟨b, off, none⟩) cap L f _ ns q hn X hX hw2)
  obtain ⟨hwq, hsm, -⟩ := pNames_keep hn hw2
  have Hsm := Lib.hid hsm; clear hsm
  have HY := Lib.hid (fun (X : World) (hX : PA g _ cap L q X) => hC _ _ _ hy hwq X hX)
  clear h hw hw2 hwq hy hn hc hC
  have HP := Lib.hid hP; have Ho := Lib.hid ho; clear ho; obtain ⟨b', off', hpt, -, e0, e1, e2, e3⟩ := hP.now hi; cases hpt; obtain ⟨hb, hl⟩ := hP; clear hl; have hg := hb.lt; have hbw := Nat.lt_trans hbg hg; unfold PC at hb; have c0 := hb.cell 0 _ rfl; have c1 := hb.cell 1 _ rfl; have c2 := hb.cell 2 _ rfl; have c3 := hb.cell 3 _ rfl; have c4 := hb.cell 4 _ rfl; have f1 := hb.free 1; have f2 := hb.free 2; have f3 := hb.free 3; have f4 := hb.free 4; clear hb
  obtain ⟨t, ht⟩ : ∃ t, p.tok L = t := ⟨_, rfl⟩
  rw [ht] at e0 e1 e2 e3 hnum
  clear ht
  have Hx := Lib.hid (hx.go (S' := fun k => S k ∧ k < w.heap.size) (Nat.le_refl _) (fun b hb h => ⟨h, hb⟩) (fun _ _ _ => rfl)); clear hx
  by_cases h0 : p.err = 0
  · have hk : ¬ t.kind = 2 := fun e => hnum ⟨h0, e⟩
    have hkb : (t.kind == 2) = false := by simpa using hk
    clear hnum
    rw [h0] at c2
    go_enter Tryd.func89, Tryd.ntmps89; (try simp only [List.append_eq, List.cons_append, List.nil_append])
    go_wp2
    go_quiet (fail)
    go_wp2_with fail
    have hXb := (two_at w [.int .i64 x.kind, .int .i64 x.fn, .int .i64 x.op, .int .i64 x.num, .string x.metric, .slice pm x.mats.length cm, .int .i64 x.span, .slice pn x.names.length cn, .slice pk x.kids.length ck] ZX 26 26).drewN nq
    have hRb := (two_at' w (.cells ([.int .i64 x.kind, .int .i64 x.fn, .int .i64 x.op, .int .i64 x.num, .string x.metric, .slice pm x.mats.length cm, .int .i64 x.span, .slice pn x.names.length cn, .slice pk x.kids.length ck] : List Value).toArray 26) ZX 26).drewN nq
    have hbl := below_drewN (two_below w (.cells ([.int .i64 x.kind, .int .i64 x.fn, .int .i64 x.op, .int .i64 x.num, .string x.metric, .slice pm x.mats.length cm, .int .i64 x.span, .slice pn x.names.length cn, .slice pk x.kids.length ck] : List Value).toArray 26) (.cells ZX.toArray 26)) nq
    have hPY := HP.out.keep hbl
    have hxY := Hx.out.below hbl
    have hoY := Off.of (g := g) hbl
    have hgY := hPY.1.lt
    have hRlt := hRb.lt
    clear c0 c1 c2 c3 c4 f1 f2 f3 f4 e0 e1 e2 e3
    have hzY : (((w.alloc (.cells ([.int .i64 x.kind, .int .i64 x.fn, .int .i64 x.op, .int .i64 x.num, .string x.metric, .slice pm x.mats.length cm, .int .i64 x.span, .slice pn x.names.length cn, .slice pk x.kids.length ck] : List Value).toArray 26)).alloc (.cells ZX.toArray 26)).drewN nq).heap.size = w.heap.size + 1 + 1 := by show ((w.alloc _).alloc _).heap.size = _; simp
    generalize (((w.alloc (.cells ([.int .i64 x.kind, .int .i64 x.fn, .int .i64 x.op, .int .i64 x.num, .string x.metric, .slice pm x.mats.length cm, .int .i64 x.span, .slice pn x.names.length cn, .slice pk x.kids.length ck] : List Value).toArray 26)).alloc (.cells ZX.toArray 26)).drewN nq) = Y at hXb hRb hbl hPY hxY hoY hgY hRlt hzY
    have hJ := Blk.new Y [.int .i64 3, .int .i64 0, .int .i64 op, .int .i64 0, .string ⟨#[]⟩, .slice none 0 0, .int .i64 0, .slice none 0 0, .slice none 0 0] 26
    have hbl2 : Below Y.heap.size Y (Y.alloc (.cells ([.int .i64 3, .int .i64 0, .int .i64 op, .int .i64 0, .string ⟨#[]⟩, .slice none 0 0, .int .i64 0, .slice none 0 0, .slice none 0 0] : List Value).toArray 26)) := (Below.refl _ _).alloc (Nat.le_refl _) _
    have hX1 := hXb.keep hbl2
    have hR1 := hRb.keep hbl2
    have hP1 := hPY.keep hbl2
    have hx1 := hxY.below hbl2
    have ho1 := hoY.trans (Off.of (g := g) hbl2)
    have hJlt := hJ.lt
    generalize Y.alloc (.cells ([.int .i64 3, .int .i64 0, .int .i64 op, .int .i64 0, .string ⟨#[]⟩, .slice none 0 0, .int .i64 0, .slice none 0 0, .slice none 0 0] : List Value).toArray 26) = X1 at hJ hbl2 hX1 hR1 hP1 hx1 ho1 hJlt
    rw [hzY] at hJ hJlt hgY hRlt
    obtain ⟨b9, hb9⟩ : ∃ k, w.heap.size + 1 + 1 = k := ⟨_, rfl⟩
    rw [hb9] at hJ hJlt hgY hRlt ⊢
    clear hXb hRb hbl hbl2 hPY hxY hoY hb9 hzY
    refine (HT.out _ hP1).mono ?_
    rintro e' w1 ⟨rfl, hPa, hoa⟩
    have hXa := hoa.blkX hX1 (Nat.ne_of_gt hg)
    have hRa := hoa.blkX hR1 (show w.heap.size + 1 ≠ g by omega)
    have hJa := hoa.blkX hJ (Nat.ne_of_gt hgY)
    have hxa := hx1.off hoa (fun h => hSg h.1)
    have hzaa := hoa.size
    have hoa := ho1.trans hoa
    clear hX1 hR1 hJ hP1 hx1 ho1
    go_wp2_with fail
    refine (HM.out _ hPa).mono ?_
    rintro e' w2 ⟨v, rfl, hown, hPb, hob⟩
    obtain ⟨A, mc, rfl⟩ := ownN_slice hown
    have hmsb := hown.strsS Hsm.out
    have hXb := hob.blkX hXa (Nat.ne_of_gt hg)
    have hRb := hob.blkX hRa (show w.heap.size + 1 ≠ g by omega)
    have hJb := hob.blkX hJa (Nat.ne_of_gt hgY)
    have hxb := hxa.off hob (fun h => hSg h.1)
    have hzb := hob.size
    have hob := hoa.trans hob
    have d7 := hJb.cell 7 _ rfl
    have f7 := hJb.free 7
    have HXb := Lib.hid hXb; have HRb := Lib.hid hRb; have HJb := Lib.hid hJb; have Hxb := Lib.hid hxb; have Hob := Lib.hid hob; have Hmsb := Lib.hid hmsb
    clear hXb hRb hJb hxb hob hmsb hXa hRa hJa hxa hoa hPa hown
    go_wp2_with fail
    have hXc := HXb.out.far (p := ⟨b9, 7, none⟩) (show w.heap.size ≠ b9 by omega) (.slice A ns.length mc)
    have hRc := HRb.out.far (p := ⟨b9, 7, none⟩) (show w.heap.size + 1 ≠ b9 by omega) (.slice A ns.length mc)
    have hJc := HJb.out.set_ 7 (.slice A ns.length mc)
    have hxc := Hxb.out.set (k := b9) (fun h => by have h : b9 < w.heap.size := h.2; omega) 7 (.slice A ns.length mc)
    have hPc := hPb.setFar hgY 7 (.slice A ns.length mc)
    have hoc := Hob.out.setNew (show w.heap.size ≤ b9 by omega) 7 (.slice A ns.length mc)
    have hmsc := Hmsb.out.set (k := b9) (show ¬ w1.heap.size ≤ b9 by omega) 7 (.slice A ns.length mc)
    have hzc := setCell_size w2 ⟨b9, 7, none⟩ (.slice A ns.length mc)
    rw [← hzc]
    generalize w2.setCell ⟨b9, 7, none⟩ (.slice A ns.length mc) = W2 at hXc hRc hJc hxc hPc hoc hmsc hzc
    clear HXb HRb HJb Hxb Hob Hmsb d7 f7 hPb
    have hZ := Blk.new W2 ZX 26
    have hbl3 : Below W2.heap.size W2 (W2.alloc (.cells ZX.toArray 26)) := (Below.refl _ _).alloc (Nat.le_refl _) _
    have hXd := hXc.keep hbl3
    have hRd := hRc.keep hbl3
    have hJd := hJc.keep hbl3
    have hPd := hPc.keep hbl3
    have hxd := hxc.below hbl3
    have hmsd := (hmsc.go (S' := fun k => w1.heap.size ≤ k ∧ k < W2.heap.size) (Nat.le_refl _) (fun b hb h => ⟨h, hb⟩) (fun _ _ _ => rfl)).below hbl3
    have hod := hoc.trans (Off.of (g := g) hbl3)
    have hZlt := hZ.lt
    have hJlt2 := hJc.lt
    have hRlt2 := hRc.lt
    have hgW := hPc.1.lt
    generalize W2.alloc (.cells ZX.toArray 26) = X3 at hZ hbl3 hXd hRd hJd hPd hxd hmsd hod hZlt
    obtain ⟨b10, hb10⟩ : ∃ k, W2.heap.size = k := ⟨_, rfl⟩
    rw [hb10] at hmsd hZ hZlt hJlt2 hRlt2 hgW ⊢
    clear hbl3 hXc hRc hJc hPc hxc hmsc hoc
    refine (HY.out _ hPd).mono ?_
    rintro e' w4 ⟨cs', rfl, hy4, hP4, ho4⟩
    obtain ⟨qm, dm, qn, dn, qk, dk, rfl, -⟩ := IsEx.cellsE hy4
    have hX4 := ho4.blkX hXd (Nat.ne_of_gt hg)
    have hR4 := ho4.blkX hRd (show w.heap.size + 1 ≠ g by omega)
    have hJ4 := ho4.blkX hJd (Nat.ne_of_gt hgY)
    have hZ4 := ho4.blkX hZ (Nat.ne_of_gt hgW)
    have hx4 := hxd.off ho4 (fun h => hSg h.1)
    have hms4 := hmsd.off ho4 (show ¬ (w1.heap.size ≤ g ∧ g < b10) by omega)
    have hz34 := ho4.size
    have ho4 := hod.trans ho4
    have hs5 : (w4.setRow b10 ([.int .i64 y.kind, .int .i64 y.fn, .int .i64 y.op, .int .i64 y.num, .string y.metric, .slice qm y.mats.length dm, .int .i64 y.span, .slice qn y.names.length dn, .slice qk y.kids.length dk] : List Value).toArray).heap.size = w4.heap.size := setRow_size _ _ _
    have hX5 : Blk (w4.setRow b10 ([.int .i64 y.kind, .int .i64 y.fn, .int .i64 y.op, .int .i64 y.num, .string y.metric, .slice qm y.mats.length dm, .int .i64 y.span, .slice qn y.names.length dn, .slice qk y.kids.length dk] : List Value).toArray) w.heap.size _ _ := (setRow_far w4 b10 _ (show w.heap.size ≠ b10 by omega)).trans hX4
    have hR5 : Blk (w4.setRow b10 ([.int .i64 y.kind, .int .i64 y.fn, .int .i64 y.op, .int .i64 y.num, .string y.metric, .slice qm y.mats.length dm, .int .i64 y.span, .slice qn y.names.length dn, .slice qk y.kids.length dk] : List Value).toArray) (w.heap.size + 1) _ _ := (setRow_far w4 b10 _ (show w.heap.size + 1 ≠ b10 by omega)).trans hR4
    have hJ5 : Blk (w4.setRow b10 ([.int .i64 y.kind, .int .i64 y.fn, .int .i64 y.op, .int .i64 y.num, .string y.metric, .slice qm y.mats.length dm, .int .i64 y.span, .slice qn y.names.length dn, .slice qk y.kids.length dk] : List Value).toArray) b9 _ _ := (setRow_far w4 b10 _ (show b9 ≠ b10 by omega)).trans hJ4
    have hZ5 := hZ4.row [.int .i64 y.kind, .int .i64 y.fn, .int .i64 y.op, .int .i64 y.num, .string y.metric, .slice qm y.mats.length dm, .int .i64 y.span, .slice qn y.names.length dn, .slice qk y.kids.length dk]
    have hP5 := hP4.row (show g < b10 by omega) ([.int .i64 y.kind, .int .i64 y.fn, .int .i64 y.op, .int .i64 y.num, .string y.metric, .slice qm y.mats.length dm, .int .i64 y.span, .slice qn y.names.length dn, .slice qk y.kids.length dk] : List Value).toArray
    have hx5 := hx4.go (S' := fun k => S k ∧ k < w.heap.size) (w' := w4.setRow b10 ([.int .i64 y.kind, .int .i64 y.fn, .int .i64 y.op, .int .i64 y.num, .string y.metric, .slice qm y.mats.length dm, .int .i64 y.span, .slice qn y.names.length dn, .slice qk y.kids.length dk] : List Value).toArray) (by rw [hs5]; exact Nat.le_refl _) (fun _ _ h => h) (fun k _ hk => setRow_far w4 b10 _ (by have hk : k < w.heap.size := hk.2; omega))
    have hy5 := hy4.go (S' := fun k => X3.heap.size ≤ k) (w' := w4.setRow b10 ([.int .i64 y.kind, .int .i64 y.fn, .int .i64 y.op, .int .i64 y.num, .string y.metric, .slice qm y.mats.length dm, .int .i64 y.span, .slice qn y.names.length dn, .slice qk y.kids.length dk] : List Value).toArray) (by rw [hs5]; exact Nat.le_refl _) (fun _ _ h => h) (fun k _ hk => setRow_far w4 b10 _ (by have hk : X3.heap.size ≤ k := hk; omega))
    have hms5 := hms4.go (S' := fun k => w1.heap.size ≤ k ∧ k < b10) (w' := w4.setRow b10 ([.int .i64 y.kind, .int .i64 y.fn, .int .i64 y.op, .int .i64 y.num, .string y.metric, .slice qm y.mats.length dm, .int .i64 y.span, .slice qn y.names.length dn, .slice qk y.kids.length dk] : List Value).toArray) (by rw [hs5]; exact Nat.le_refl _) (fun _ _ h => h) (fun k _ hk => setRow_far w4 b10 _ (by have hk : w1.heap.size ≤ k ∧ k < b10 := hk; omega))
    have ho5 := ho4.rowNew (show w.heap.size ≤ b10 by omega) ([.int .i64 y.kind, .int .i64 y.fn, .int .i64 y.op, .int .i64 y.num, .string y.metric, .slice qm y.mats.length dm, .int .i64 y.span, .slice qn y.names.length dn, .slice qk y.kids.length dk] : List Value).toArray
    have HZ4 := Lib.hid hZ4
    have hs0 := hX4.lt
    clear hX4 hR4 hJ4 hZ4 hx4 hy4 ho4 hP4 hXd hRd hJd hZ hxd hPd hod hms4 hmsd
    go_wp2_with (first
      | (refine wpList_store_row rfl 26 _ _ rfl b10 ([.int .i64 y.kind, .int .i64 y.fn, .int .i64 y.op, .int .i64 y.num, .string y.metric, .slice qm y.mats.length dm, .int .i64 y.span, .slice qn y.names.length dn, .slice qk y.kids.length dk] : List Value).toArray rfl rfl 26 _ HZ4.out (by kernel_rfl) rfl (by kernel_rfl) ?_; generalize w4.setRow b10 ([.int .i64 y.kind, .int .i64 y.fn, .int .i64 y.op, .int .i64 y.num, .string y.metric, .slice qm y.mats.length dm, .int .i64 y.span, .slice qn y.names.length dn, .slice qk y.kids.length dk] : List Value).toArray = X5 at hX5 hR5 hJ5 hZ5 hP5 hx5 hy5 hms5 ho5 hs5; have l9 := hJ5.lt; have l10 := hZ5.lt; have l0 := hX5.lt; have l1 := hR5.lt; have x0 := hX5.cell 0 _ rfl; have x1 := hX5.cell 1 _ rfl; have x2 := hX5.cell 2 _ rfl; have x3 := hX5.cell 3 _ rfl; have x4 := hX5.cell 4 _ rfl; have x5 := hX5.cell 5 _ rfl; have x6 := hX5.cell 6 _ rfl; have x7 := hX5.cell 7 _ rfl; have x8 := hX5.cell 8 _ rfl; have z0 := hZ5.cell 0 _ rfl; have z1 := hZ5.cell 1 _ rfl; have z2 := hZ5.cell 2 _ rfl; have z3 := hZ5.cell 3 _ rfl; have z4 := hZ5.cell 4 _ rfl; have z5 := hZ5.cell 5 _ rfl; have z6 := hZ5.cell 6 _ rfl; have z7 := hZ5.cell 7 _ rfl; have z8 := hZ5.cell 8 _ rfl; have d0 := hJ5.cell 0 _ rfl; have d1 := hJ5.cell 1 _ rfl; have d2 := hJ5.cell 2 _ rfl; have d3 := hJ5.cell 3 _ rfl; have d4 := hJ5.cell 4 _ rfl; have d5 := hJ5.cell 5 _ rfl; have d6 := hJ5.cell 6 _ rfl; have d7 := hJ5.cell 7 _ rfl; have d8 := hJ5.cell 8 _ rfl; have f8 := hJ5.free 8; have HR5 := Lib.hid hR5; have HJ5 := Lib.hid hJ5; have HP5 := Lib.hid hP5; have HX5 := Lib.hid hx5; have HY5 := Lib.hid hy5; have HO5 := Lib.hid ho5; have HM5 := Lib.hid hms5; clear hms5; have HS5 := Lib.hid hs5; clear hX5 hR5 hJ5 hZ5 hP5 hx5 hy5 ho5 hs5)
      | (refine wpList_store_row rfl 26 _ _ rfl (w.heap.size + 1) ([.int .i64 3, .int .i64 0, .int .i64 op, .int .i64 0, .string ⟨#[]⟩, .slice none 0 0, .int .i64 0, .slice A ns.length mc, .slice (some ⟨X5.heap.size, 0, none⟩) 2 2] : List Value).toArray rfl rfl 26 _ ((HR5.out.far (p := ⟨b9, 8, none⟩) (show w.heap.size + 1 ≠ b9 by omega) (.slice (some ⟨X5.heap.size, 0, none⟩) 2 2)).alloc (.cells ([.int .i64 x.kind, .int .i64 x.fn, .int .i64 x.op, .int .i64 x.num, .string x.metric, .slice pm x.mats.length cm, .int .i64 x.span, .slice pn x.names.length cn, .slice pk x.kids.length ck, .int .i64 y.kind, .int .i64 y.fn, .int .i64 y.op, .int .i64 y.num, .string y.metric, .slice qm y.mats.length dm, .int .i64 y.span, .slice qn y.names.length dn, .slice qk y.kids.length dk] : List Value).toArray 26)) (by kernel_rfl) rfl (by kernel_rfl) ?_))
    have hs5 := HS5.out
    have hz6 := setCell_size X5 ⟨b9, 8, none⟩ (.slice (some ⟨X5.heap.size, 0, none⟩) 2 2)
    have hbl6 : Below (X5.setCell ⟨b9, 8, none⟩ (.slice (some ⟨X5.heap.size, 0, none⟩) 2 2)).heap.size (X5.setCell ⟨b9, 8, none⟩ (.slice (some ⟨X5.heap.size, 0, none⟩) 2 2)) ((X5.setCell ⟨b9, 8, none⟩ (.slice (some ⟨X5.heap.size, 0, none⟩) 2 2)).alloc (.cells ([.int .i64 x.kind, .int .i64 x.fn, .int .i64 x.op, .int .i64 x.num, .string x.metric, .slice pm x.mats.length cm, .int .i64 x.span, .slice pn x.names.length cn, .slice pk x.kids.length ck, .int .i64 y.kind, .int .i64 y.fn, .int .i64 y.op, .int .i64 y.num, .string y.metric, .slice qm y.mats.length dm, .int .i64 y.span, .slice qn y.names.length dn, .slice qk y.kids.length dk] : List Value).toArray 26)) := (Below.refl _ _).alloc (Nat.le_refl _) _
    have hK6 : Blk ((X5.setCell ⟨b9, 8, none⟩ (.slice (some ⟨X5.heap.size, 0, none⟩) 2 2)).alloc (.cells ([.int .i64 x.kind, .int .i64 x.fn, .int .i64 x.op, .int .i64 x.num, .string x.metric, .slice pm x.mats.length cm, .int .i64 x.span, .slice pn x.names.length cn, .slice pk x.kids.length ck, .int .i64 y.kind, .int .i64 y.fn, .int .i64 y.op, .int .i64 y.num, .string y.metric, .slice qm y.mats.length dm, .int .i64 y.span, .slice qn y.names.length dn, .slice qk y.kids.length dk] : List Value).toArray 26)) X5.heap.size 26 [.int .i64 x.kind, .int .i64 x.fn, .int .i64 x.op, .int .i64 x.num, .string x.metric, .slice pm x.mats.length cm, .int .i64 x.span, .slice pn x.names.length cn, .slice pk x.kids.length ck, .int .i64 y.kind, .int .i64 y.fn, .int .i64 y.op, .int .i64 y.num, .string y.metric, .slice qm y.mats.length dm, .int .i64 y.span, .slice qn y.names.length dn, .slice qk y.kids.length dk] := by have := Blk.new (X5.setCell ⟨b9, 8, none⟩ (.slice (some ⟨X5.heap.size, 0, none⟩) 2 2)) [.int .i64 x.kind, .int .i64 x.fn, .int .i64 x.op, .int .i64 x.num, .string x.metric, .slice pm x.mats.length cm, .int .i64 x.span, .slice pn x.names.length cn, .slice pk x.kids.length ck, .int .i64 y.kind, .int .i64 y.fn, .int .i64 y.op, .int .i64 y.num, .string y.metric, .slice qm y.mats.length dm, .int .i64 y.span, .slice qn y.names.length dn, .slice qk y.kids.length dk] 26; rwa [hz6] at this
    have hx6 := (HX5.out.set (k := b9) (fun h => by have h : b9 < w.heap.size := h.2; omega) 8 (.slice (some ⟨X5.heap.size, 0, none⟩) 2 2)).below hbl6
    have hy6 := (HY5.out.set (k := b9) (show ¬ X3.heap.size ≤ b9 by omega) 8 (.slice (some ⟨X5.heap.size, 0, none⟩) 2 2)).below hbl6
    have hm6 := (HM5.out.set (k := b9) (show ¬ (w1.heap.size ≤ b9 ∧ b9 < b10) by omega) 8 (.slice (some ⟨X5.heap.size, 0, none⟩) 2 2)).below hbl6
    have hP6 := (HP5.out.setFar hgY 8 (.slice (some ⟨X5.heap.size, 0, none⟩) 2 2)).keep hbl6
    have ho6 := (HO5.out.setNew (show w.heap.size ≤ b9 by omega) 8 (.slice (some ⟨X5.heap.size, 0, none⟩) 2 2)).trans (Off.of (g := g) hbl6)
    exact bodyPost_agg (d := _) rfl rfl (setRow_at ((HR5.out.far (p := ⟨b9, 8, none⟩) (show w.heap.size + 1 ≠ b9 by omega) (.slice (some ⟨X5.heap.size, 0, none⟩) 2 2)).alloc (.cells ([.int .i64 x.kind, .int .i64 x.fn, .int .i64 x.op, .int .i64 x.num, .string x.metric, .slice pm x.mats.length cm, .int .i64 x.span, .slice pn x.names.length cn, .slice pk x.kids.length ck, .int .i64 y.kind, .int .i64 y.fn, .int .i64 y.op, .int .i64 y.num, .string y.metric, .slice qm y.mats.length dm, .int .i64 y.span, .slice qn y.names.length dn, .slice qk y.kids.length dk] : List Value).toArray 26)) _) Tryd.underlying26 rfl (by kernel_rfl) rfl (exR_close (S := fun k => (S k ∧ k < w.heap.size) ∨ (w.heap.size ≤ k ∧ k ≠ w.heap.size + 1)) (exS_node (by decide) (noMatsS _ _) (hm6.go (Nat.le_refl _) (fun k _ h => Or.inr (by have h : w1.heap.size ≤ k ∧ k < b10 := h; show w.heap.size ≤ k ∧ k ≠ w.heap.size + 1; omega)) (fun _ _ _ => rfl)) (exsS2 (cs := [.int .i64 x.kind, .int .i64 x.fn, .int .i64 x.op, .int .i64 x.num, .string x.metric, .slice pm x.mats.length cm, .int .i64 x.span, .slice pn x.names.length cn, .slice pk x.kids.length ck]) (ds := [.int .i64 y.kind, .int .i64 y.fn, .int .i64 y.op, .int .i64 y.num, .string y.metric, .slice qm y.mats.length dm, .int .i64 y.span, .slice qn y.names.length dn, .slice qk y.kids.length dk]) hK6 (Or.inr (show w.heap.size ≤ X5.heap.size ∧ X5.heap.size ≠ w.heap.size + 1 by omega)) (hx6.go (Nat.le_refl _) (fun k _ h => Or.inl h) (fun _ _ _ => rfl)) (hy6.go (Nat.le_refl _) (fun k _ h => Or.inr (by have h : X3.heap.size ≤ k := h; show w.heap.size ≤ k ∧ k ≠ w.heap.size + 1; omega)) (fun _ _ _ => rfl)))) hP6 ho6 (by omega) (show g < w.heap.size + 1 by omega) (fun h => h.elim (fun h => by have := h.2; omega) (fun h => h.2 rfl)) (fun k _ h => h.elim (fun h => Or.inl h.1) (fun h => Or.inr h.1)))
  · have h0b : (p.err == 0) = false := by simpa using h0
    clear hnum
    go_enter Tryd.func89, Tryd.ntmps89; (try simp only [List.append_eq, List.cons_append, List.nil_append])
    go_wp2
    go_quiet (fail)
    go_wp2_with fail
    have hXb := (two_at w [.int .i64 x.kind, .int .i64 x.fn, .int .i64 x.op, .int .i64 x.num, .string x.metric, .slice pm x.mats.length cm, .int .i64 x.span, .slice pn x.names.length cn, .slice pk x.kids.length ck] ZX 26 26).drewN nq
    have hRb := (two_at' w (.cells ([.int .i64 x.kind, .int .i64 x.fn, .int .i64 x.op, .int .i64 x.num, .string x.metric, .slice pm x.mats.length cm, .int .i64 x.span, .slice pn x.names.length cn, .slice pk x.kids.length ck] : List Value).toArray 26) ZX 26).drewN nq
    have hbl := below_drewN (two_below w (.cells ([.int .i64 x.kind, .int .i64 x.fn, .int .i64 x.op, .int .i64 x.num, .string x.metric, .slice pm x.mats.length cm, .int .i64 x.span, .slice pn x.names.length cn, .slice pk x.kids.length ck] : List Value).toArray 26) (.cells ZX.toArray 26)) nq
    have hPY := HP.out.keep hbl
    have hxY := Hx.out.below hbl
    have hoY := Off.of (g := g) hbl
    have hgY := hPY.1.lt
    have hRlt := hRb.lt
    clear c0 c1 c2 c3 c4 f1 f2 f3 f4 e0 e1 e2 e3
    have hzY : (((w.alloc (.cells ([.int .i64 x.kind, .int .i64 x.fn, .int .i64 x.op, .int .i64 x.num, .string x.metric, .slice pm x.mats.length cm, .int .i64 x.span, .slice pn x.names.length cn, .slice pk x.kids.length ck] : List Value).toArray 26)).alloc (.cells ZX.toArray 26)).drewN nq).heap.size = w.heap.size + 1 + 1 := by show ((w.alloc _).alloc _).heap.size = _; simp
    generalize (((w.alloc (.cells ([.int .i64 x.kind, .int .i64 x.fn, .int .i64 x.op, .int .i64 x.num, .string x.metric, .slice pm x.mats.length cm, .int .i64 x.span, .slice pn x.names.length cn, .slice pk x.kids.length ck] : List Value).toArray 26)).alloc (.cells ZX.toArray 26)).drewN nq) = Y at hXb hRb hbl hPY hxY hoY hgY hRlt hzY
    have hJ := Blk.new Y [.int .i64 3, .int .i64 0, .int .i64 op, .int .i64 0, .string ⟨#[]⟩, .slice none 0 0, .int .i64 0, .slice none 0 0, .slice none 0 0] 26
    have hbl2 : Below Y.heap.size Y (Y.alloc (.cells ([.int .i64 3, .int .i64 0, .int .i64 op, .int .i64 0, .string ⟨#[]⟩, .slice none 0 0, .int .i64 0, .slice none 0 0, .slice none 0 0] : List Value).toArray 26)) := (Below.refl _ _).alloc (Nat.le_refl _) _
    have hX1 := hXb.keep hbl2
    have hR1 := hRb.keep hbl2
    have hP1 := hPY.keep hbl2
    have hx1 := hxY.below hbl2
    have ho1 := hoY.trans (Off.of (g := g) hbl2)
    have hJlt := hJ.lt
    generalize Y.alloc (.cells ([.int .i64 3, .int .i64 0, .int .i64 op, .int .i64 0, .string ⟨#[]⟩, .slice none 0 0, .int .i64 0, .slice none 0 0, .slice none 0 0] : List Value).toArray 26) = X1 at hJ hbl2 hX1 hR1 hP1 hx1 ho1 hJlt
    rw [hzY] at hJ hJlt hgY hRlt
    obtain ⟨b9, hb9⟩ : ∃ k, w.heap.size + 1 + 1 = k := ⟨_, rfl⟩
    rw [hb9] at hJ hJlt hgY hRlt ⊢
    clear hXb hRb hbl hbl2 hPY hxY hoY hb9 hzY
    refine (HT.out _ hP1).mono ?_
    rintro e' w1 ⟨rfl, hPa, hoa⟩
    have hXa := hoa.blkX hX1 (Nat.ne_of_gt hg)
    have hRa := hoa.blkX hR1 (show w.heap.size + 1 ≠ g by omega)
    have hJa := hoa.blkX hJ (Nat.ne_of_gt hgY)
    have hxa := hx1.off hoa (fun h => hSg h.1)
    have hzaa := hoa.size
    have hoa := ho1.trans hoa
    clear hX1 hR1 hJ hP1 hx1 ho1
    go_wp2_with fail
    refine (HM.out _ hPa).mono ?_
    rintro e' w2 ⟨v, rfl, hown, hPb, hob⟩
    obtain ⟨A, mc, rfl⟩ := ownN_slice hown
    have hmsb := hown.strsS Hsm.out
    have hXb := hob.blkX hXa (Nat.ne_of_gt hg)
    have hRb := hob.blkX hRa (show w.heap.size + 1 ≠ g by omega)
    have hJb := hob.blkX hJa (Nat.ne_of_gt hgY)
    have hxb := hxa.off hob (fun h => hSg h.1)
    have hzb := hob.size
    have hob := hoa.trans hob
    have d7 := hJb.cell 7 _ rfl
    have f7 := hJb.free 7
    have HXb := Lib.hid hXb; have HRb := Lib.hid hRb; have HJb := Lib.hid hJb; have Hxb := Lib.hid hxb; have Hob := Lib.hid hob; have Hmsb := Lib.hid hmsb
    clear hXb hRb hJb hxb hob hmsb hXa hRa hJa hxa hoa hPa hown
    go_wp2_with fail
    have hXc := HXb.out.far (p := ⟨b9, 7, none⟩) (show w.heap.size ≠ b9 by omega) (.slice A ns.length mc)
    have hRc := HRb.out.far (p := ⟨b9, 7, none⟩) (show w.heap.size + 1 ≠ b9 by omega) (.slice A ns.length mc)
    have hJc := HJb.out.set_ 7 (.slice A ns.length mc)
    have hxc := Hxb.out.set (k := b9) (fun h => by have h : b9 < w.heap.size := h.2; omega) 7 (.slice A ns.length mc)
    have hPc := hPb.setFar hgY 7 (.slice A ns.length mc)
    have hoc := Hob.out.setNew (show w.heap.size ≤ b9 by omega) 7 (.slice A ns.length mc)
    have hmsc := Hmsb.out.set (k := b9) (show ¬ w1.heap.size ≤ b9 by omega) 7 (.slice A ns.length mc)
    have hzc := setCell_size w2 ⟨b9, 7, none⟩ (.slice A ns.length mc)
    rw [← hzc]
    generalize w2.setCell ⟨b9, 7, none⟩ (.slice A ns.length mc) = W2 at hXc hRc hJc hxc hPc hoc hmsc hzc
    clear HXb HRb HJb Hxb Hob Hmsb d7 f7 hPb
    have hZ := Blk.new W2 ZX 26
    have hbl3 : Below W2.heap.size W2 (W2.alloc (.cells ZX.toArray 26)) := (Below.refl _ _).alloc (Nat.le_refl _) _
    have hXd := hXc.keep hbl3
    have hRd := hRc.keep hbl3
    have hJd := hJc.keep hbl3
    have hPd := hPc.keep hbl3
    have hxd := hxc.below hbl3
    have hmsd := (hmsc.go (S' := fun k => w1.heap.size ≤ k ∧ k < W2.heap.size) (Nat.le_refl _) (fun b hb h => ⟨h, hb⟩) (fun _ _ _ => rfl)).below hbl3
    have hod := hoc.trans (Off.of (g := g) hbl3)
    have hZlt := hZ.lt
    have hJlt2 := hJc.lt
    have hRlt2 := hRc.lt
    have hgW := hPc.1.lt
    generalize W2.alloc (.cells ZX.toArray 26) = X3 at hZ hbl3 hXd hRd hJd hPd hxd hmsd hod hZlt
    obtain ⟨b10, hb10⟩ : ∃ k, W2.heap.size = k := ⟨_, rfl⟩
    rw [hb10] at hmsd hZ hZlt hJlt2 hRlt2 hgW ⊢
    clear hbl3 hXc hRc hJc hPc hxc hmsc hoc
    refine (HY.out _ hPd).mono ?_
    rintro e' w4 ⟨cs', rfl, hy4, hP4, ho4⟩
    obtain ⟨qm, dm, qn, dn, qk, dk, rfl, -⟩ := IsEx.cellsE hy4
    have hX4 := ho4.blkX hXd (Nat.ne_of_gt hg)
    have hR4 := ho4.blkX hRd (show w.heap.size + 1 ≠ g by omega)
    have hJ4 := ho4.blkX hJd (Nat.ne_of_gt hgY)
    have hZ4 := ho4.blkX hZ (Nat.ne_of_gt hgW)
    have hx4 := hxd.off ho4 (fun h => hSg h.1)
    have hms4 := hmsd.off ho4 (show ¬ (w1.heap.size ≤ g ∧ g < b10) by omega)
    have hz34 := ho4.size
    have ho4 := hod.trans ho4
    have hs5 : (w4.setRow b10 ([.int .i64 y.kind, .int .i64 y.fn, .int .i64 y.op, .int .i64 y.num, .string y.metric, .slice qm y.mats.length dm, .int .i64 y.span, .slice qn y.names.length dn, .slice qk y.kids.length dk] : List Value).toArray).heap.size = w4.heap.size := setRow_size _ _ _
    have hX5 : Blk (w4.setRow b10 ([.int .i64 y.kind, .int .i64 y.fn, .int .i64 y.op, .int .i64 y.num, .string y.metric, .slice qm y.mats.length dm, .int .i64 y.span, .slice qn y.names.length dn, .slice qk y.kids.length dk] : List Value).toArray) w.heap.size _ _ := (setRow_far w4 b10 _ (show w.heap.size ≠ b10 by omega)).trans hX4
    have hR5 : Blk (w4.setRow b10 ([.int .i64 y.kind, .int .i64 y.fn, .int .i64 y.op, .int .i64 y.num, .string y.metric, .slice qm y.mats.length dm, .int .i64 y.span, .slice qn y.names.length dn, .slice qk y.kids.length dk] : List Value).toArray) (w.heap.size + 1) _ _ := (setRow_far w4 b10 _ (show w.heap.size + 1 ≠ b10 by omega)).trans hR4
    have hJ5 : Blk (w4.setRow b10 ([.int .i64 y.kind, .int .i64 y.fn, .int .i64 y.op, .int .i64 y.num, .string y.metric, .slice qm y.mats.length dm, .int .i64 y.span, .slice qn y.names.length dn, .slice qk y.kids.length dk] : List Value).toArray) b9 _ _ := (setRow_far w4 b10 _ (show b9 ≠ b10 by omega)).trans hJ4
    have hZ5 := hZ4.row [.int .i64 y.kind, .int .i64 y.fn, .int .i64 y.op, .int .i64 y.num, .string y.metric, .slice qm y.mats.length dm, .int .i64 y.span, .slice qn y.names.length dn, .slice qk y.kids.length dk]
    have hP5 := hP4.row (show g < b10 by omega) ([.int .i64 y.kind, .int .i64 y.fn, .int .i64 y.op, .int .i64 y.num, .string y.metric, .slice qm y.mats.length dm, .int .i64 y.span, .slice qn y.names.length dn, .slice qk y.kids.length dk] : List Value).toArray
    have hx5 := hx4.go (S' := fun k => S k ∧ k < w.heap.size) (w' := w4.setRow b10 ([.int .i64 y.kind, .int .i64 y.fn, .int .i64 y.op, .int .i64 y.num, .string y.metric, .slice qm y.mats.length dm, .int .i64 y.span, .slice qn y.names.length dn, .slice qk y.kids.length dk] : List Value).toArray) (by rw [hs5]; exact Nat.le_refl _) (fun _ _ h => h) (fun k _ hk => setRow_far w4 b10 _ (by have hk : k < w.heap.size := hk.2; omega))
    have hy5 := hy4.go (S' := fun k => X3.heap.size ≤ k) (w' := w4.setRow b10 ([.int .i64 y.kind, .int .i64 y.fn, .int .i64 y.op, .int .i64 y.num, .string y.metric, .slice qm y.mats.length dm, .int .i64 y.span, .slice qn y.names.length dn, .slice qk y.kids.length dk] : List Value).toArray) (by rw [hs5]; exact Nat.le_refl _) (fun _ _ h => h) (fun k _ hk => setRow_far w4 b10 _ (by have hk : X3.heap.size ≤ k := hk; omega))
    have hms5 := hms4.go (S' := fun k => w1.heap.size ≤ k ∧ k < b10) (w' := w4.setRow b10 ([.int .i64 y.kind, .int .i64 y.fn, .int .i64 y.op, .int .i64 y.num, .string y.metric, .slice qm y.mats.length dm, .int .i64 y.span, .slice qn y.names.length dn, .slice qk y.kids.length dk] : List Value).toArray) (by rw [hs5]; exact Nat.le_refl _) (fun _ _ h => h) (fun k _ hk => setRow_far w4 b10 _ (by have hk : w1.heap.size ≤ k ∧ k < b10 := hk; omega))
    have ho5 := ho4.rowNew (show w.heap.size ≤ b10 by omega) ([.int .i64 y.kind, .int .i64 y.fn, .int .i64 y.op, .int .i64 y.num, .string y.metric, .slice qm y.mats.length dm, .int .i64 y.span, .slice qn y.names.length dn, .slice qk y.kids.length dk] : List Value).toArray
    have HZ4 := Lib.hid hZ4
    have hs0 := hX4.lt
    clear hX4 hR4 hJ4 hZ4 hx4 hy4 ho4 hP4 hXd hRd hJd hZ hxd hPd hod hms4 hmsd
    go_wp2_with (first
      | (refine wpList_store_row rfl 26 _ _ rfl b10 ([.int .i64 y.kind, .int .i64 y.fn, .int .i64 y.op, .int .i64 y.num, .string y.metric, .slice qm y.mats.length dm, .int .i64 y.span, .slice qn y.names.length dn, .slice qk y.kids.length dk] : List Value).toArray rfl rfl 26 _ HZ4.out (by kernel_rfl) rfl (by kernel_rfl) ?_; generalize w4.setRow b10 ([.int .i64 y.kind, .int .i64 y.fn, .int .i64 y.op, .int .i64 y.num, .string y.metric, .slice qm y.mats.length dm, .int .i64 y.span, .slice qn y.names.length dn, .slice qk y.kids.length dk] : List Value).toArray = X5 at hX5 hR5 hJ5 hZ5 hP5 hx5 hy5 hms5 ho5 hs5; have l9 := hJ5.lt; have l10 := hZ5.lt; have l0 := hX5.lt; have l1 := hR5.lt; have x0 := hX5.cell 0 _ rfl; have x1 := hX5.cell 1 _ rfl; have x2 := hX5.cell 2 _ rfl; have x3 := hX5.cell 3 _ rfl; have x4 := hX5.cell 4 _ rfl; have x5 := hX5.cell 5 _ rfl; have x6 := hX5.cell 6 _ rfl; have x7 := hX5.cell 7 _ rfl; have x8 := hX5.cell 8 _ rfl; have z0 := hZ5.cell 0 _ rfl; have z1 := hZ5.cell 1 _ rfl; have z2 := hZ5.cell 2 _ rfl; have z3 := hZ5.cell 3 _ rfl; have z4 := hZ5.cell 4 _ rfl; have z5 := hZ5.cell 5 _ rfl; have z6 := hZ5.cell 6 _ rfl; have z7 := hZ5.cell 7 _ rfl; have z8 := hZ5.cell 8 _ rfl; have d0 := hJ5.cell 0 _ rfl; have d1 := hJ5.cell 1 _ rfl; have d2 := hJ5.cell 2 _ rfl; have d3 := hJ5.cell 3 _ rfl; have d4 := hJ5.cell 4 _ rfl; have d5 := hJ5.cell 5 _ rfl; have d6 := hJ5.cell 6 _ rfl; have d7 := hJ5.cell 7 _ rfl; have d8 := hJ5.cell 8 _ rfl; have f8 := hJ5.free 8; have HR5 := Lib.hid hR5; have HJ5 := Lib.hid hJ5; have HP5 := Lib.hid hP5; have HX5 := Lib.hid hx5; have HY5 := Lib.hid hy5; have HO5 := Lib.hid ho5; have HM5 := Lib.hid hms5; clear hms5; have HS5 := Lib.hid hs5; clear hX5 hR5 hJ5 hZ5 hP5 hx5 hy5 ho5 hs5)
      | (refine wpList_store_row rfl 26 _ _ rfl (w.heap.size + 1) ([.int .i64 3, .int .i64 0, .int .i64 op, .int .i64 0, .string ⟨#[]⟩, .slice none 0 0, .int .i64 0, .slice A ns.length mc, .slice (some ⟨X5.heap.size, 0, none⟩) 2 2] : List Value).toArray rfl rfl 26 _ ((HR5.out.far (p := ⟨b9, 8, none⟩) (show w.heap.size + 1 ≠ b9 by omega) (.slice (some ⟨X5.heap.size, 0, none⟩) 2 2)).alloc (.cells ([.int .i64 x.kind, .int .i64 x.fn, .int .i64 x.op, .int .i64 x.num, .string x.metric, .slice pm x.mats.length cm, .int .i64 x.span, .slice pn x.names.length cn, .slice pk x.kids.length ck, .int .i64 y.kind, .int .i64 y.fn, .int .i64 y.op, .int .i64 y.num, .string y.metric, .slice qm y.mats.length dm, .int .i64 y.span, .slice qn y.names.length dn, .slice qk y.kids.length dk] : List Value).toArray 26)) (by kernel_rfl) rfl (by kernel_rfl) ?_))
    have hs5 := HS5.out
    have hz6 := setCell_size X5 ⟨b9, 8, none⟩ (.slice (some ⟨X5.heap.size, 0, none⟩) 2 2)
    have hbl6 : Below (X5.setCell ⟨b9, 8, none⟩ (.slice (some ⟨X5.heap.size, 0, none⟩) 2 2)).heap.size (X5.setCell ⟨b9, 8, none⟩ (.slice (some ⟨X5.heap.size, 0, none⟩) 2 2)) ((X5.setCell ⟨b9, 8, none⟩ (.slice (some ⟨X5.heap.size, 0, none⟩) 2 2)).alloc (.cells ([.int .i64 x.kind, .int .i64 x.fn, .int .i64 x.op, .int .i64 x.num, .string x.metric, .slice pm x.mats.length cm, .int .i64 x.span, .slice pn x.names.length cn, .slice pk x.kids.length ck, .int .i64 y.kind, .int .i64 y.fn, .int .i64 y.op, .int .i64 y.num, .string y.metric, .slice qm y.mats.length dm, .int .i64 y.span, .slice qn y.names.length dn, .slice qk y.kids.length dk] : List Value).toArray 26)) := (Below.refl _ _).alloc (Nat.le_refl _) _
    have hK6 : Blk ((X5.setCell ⟨b9, 8, none⟩ (.slice (some ⟨X5.heap.size, 0, none⟩) 2 2)).alloc (.cells ([.int .i64 x.kind, .int .i64 x.fn, .int .i64 x.op, .int .i64 x.num, .string x.metric, .slice pm x.mats.length cm, .int .i64 x.span, .slice pn x.names.length cn, .slice pk x.kids.length ck, .int .i64 y.kind, .int .i64 y.fn, .int .i64 y.op, .int .i64 y.num, .string y.metric, .slice qm y.mats.length dm, .int .i64 y.span, .slice qn y.names.length dn, .slice qk y.kids.length dk] : List Value).toArray 26)) X5.heap.size 26 [.int .i64 x.kind, .int .i64 x.fn, .int .i64 x.op, .int .i64 x.num, .string x.metric, .slice pm x.mats.length cm, .int .i64 x.span, .slice pn x.names.length cn, .slice pk x.kids.length ck, .int .i64 y.kind, .int .i64 y.fn, .int .i64 y.op, .int .i64 y.num, .string y.metric, .slice qm y.mats.length dm, .int .i64 y.span, .slice qn y.names.length dn, .slice qk y.kids.length dk] := by have := Blk.new (X5.setCell ⟨b9, 8, none⟩ (.slice (some ⟨X5.heap.size, 0, none⟩) 2 2)) [.int .i64 x.kind, .int .i64 x.fn, .int .i64 x.op, .int .i64 x.num, .string x.metric, .slice pm x.mats.length cm, .int .i64 x.span, .slice pn x.names.length cn, .slice pk x.kids.length ck, .int .i64 y.kind, .int .i64 y.fn, .int .i64 y.op, .int .i64 y.num, .string y.metric, .slice qm y.mats.length dm, .int .i64 y.span, .slice qn y.names.length dn, .slice qk y.kids.length dk] 26; rwa [hz6] at this
    have hx6 := (HX5.out.set (k := b9) (fun h => by have h : b9 < w.heap.size := h.2; omega) 8 (.slice (some ⟨X5.heap.size, 0, none⟩) 2 2)).below hbl6
    have hy6 := (HY5.out.set (k := b9) (show ¬ X3.heap.size ≤ b9 by omega) 8 (.slice (some ⟨X5.heap.size, 0, none⟩) 2 2)).below hbl6
    have hm6 := (HM5.out.set (k := b9) (show ¬ (w1.heap.size ≤ b9 ∧ b9 < b10) by omega) 8 (.slice (some ⟨X5.heap.size, 0, none⟩) 2 2)).below hbl6
    have hP6 := (HP5.out.setFar hgY 8 (.slice (some ⟨X5.heap.size, 0, none⟩) 2 2)).keep hbl6
    have ho6 := (HO5.out.setNew (show w.heap.size ≤ b9 by omega) 8 (.slice (some ⟨X5.heap.size, 0, none⟩) 2 2)).trans (Off.of (g := g) hbl6)
    exact bodyPost_agg (d := _) rfl rfl (setRow_at ((HR5.out.far (p := ⟨b9, 8, none⟩) (show w.heap.size + 1 ≠ b9 by omega) (.slice (some ⟨X5.heap.size, 0, none⟩) 2 2)).alloc (.cells ([.int .i64 x.kind, .int .i64 x.fn, .int .i64 x.op, .int .i64 x.num, .string x.metric, .slice pm x.mats.length cm, .int .i64 x.span, .slice pn x.names.length cn, .slice pk x.kids.length ck, .int .i64 y.kind, .int .i64 y.fn, .int .i64 y.op, .int .i64 y.num, .string y.metric, .slice qm y.mats.length dm, .int .i64 y.span, .slice qn y.names.length dn, .slice qk y.kids.length dk] : List Value).toArray 26)) _) Tryd.underlying26 rfl (by kernel_rfl) rfl (exR_close (S := fun k => (S k ∧ k < w.heap.size) ∨ (w.heap.size ≤ k ∧ k ≠ w.heap.size + 1)) (exS_node (by decide) (noMatsS _ _) (hm6.go (Nat.le_refl _) (fun k _ h => Or.inr (by have h : w1.heap.size ≤ k ∧ k < b10 := h; show w.heap.size ≤ k ∧ k ≠ w.heap.size + 1; omega)) (fun _ _ _ => rfl)) (exsS2 (cs := [.int .i64 x.kind, .int .i64 x.fn, .int .i64 x.op, .int .i64 x.num, .string x.metric, .slice pm x.mats.length cm, .int .i64 x.span, .slice pn x.names.length cn, .slice pk x.kids.length ck]) (ds := [.int .i64 y.kind, .int .i64 y.fn, .int .i64 y.op, .int .i64 y.num, .string y.metric, .slice qm y.mats.length dm, .int .i64 y.span, .slice qn y.names.length dn, .slice qk y.kids.length dk]) hK6 (Or.inr (show w.heap.size ≤ X5.heap.size ∧ X5.heap.size ≠ w.heap.size + 1 by omega)) (hx6.go (Nat.le_refl _) (fun k _ h => Or.inl h) (fun _ _ _ => rfl)) (hy6.go (Nat.le_refl _) (fun k _ h => Or.inr (by have h : X3.heap.size ≤ k := h; show w.heap.size ≤ k ∧ k ≠ w.heap.size + 1; omega)) (fun _ _ _ => rfl)))) hP6 ho6 (by omega) (show g < w.heap.size + 1 by omega) (fun h => h.elim (fun h => by have := h.2; omega) (fun h => h.2 rfl)) (fun k _ h => h.elim (fun h => Or.inl h.1) (fun h => Or.inr h.1)))

set_option maxRecDepth 100000 in
set_option maxHeartbeats 16000000 in
theorem pStep_joinTF (g : Nat) (pt : Option Addr) (cap : Nat) (L : List Tok) (f : Nat) (hC : AtomC g pt cap L f) (op : Int) (x : Ex) (p q q' : PS) (ns : List (List UInt8)) (y : Ex) (hnum : ¬ (p.err = 0 ∧ (p.tok L).kind = 2)) (hc : (p.take L [111, 110]).1 = true)
    (hn : pNames L f (p.take L [111, 110]).2 = some (ns, q))
    (hy : pAtom L f q = some (y, q')) (hw : PW L p) (S : Nat → Prop) (cs : List Value) (w : World) (hSg : ¬ S g) (h : PA g pt cap L p w) (hx : ExS S w x cs) :
    Calls Tryd.prog 89 #[.pointer (some ⟨g, 0, none⟩), .int .i64 op, .agg cs.toArray, .bool false] w (ExR g pt cap L (fun k => S k ∨ w.heap.size ≤ k) w (.mk 3 0 op 0 ⟨#[]⟩ [] 0 (ns.map baOf) [x, y]) q') := by
  have hi := hw.at'
  have hlen := hw.len
  obtain ⟨pm, cm, pn, cn, pk, ck, rfl, -⟩ := IsEx.cellsE hx
  obtain ⟨b, off, rfl, hbg, -⟩ := h.now hw.at'
  have hg := h.1.lt
  have hP := h
  have ho := Off.refl g w
  have HT := Lib.hid (fun (X : World) (hX : PA g _ cap L p X) => pTake g (some ⟨b, off, none⟩) cap L p X hX hw [111, 110])
  have hw2 := hw.take [111, 110]
  rw [hc] at HT
  have HM := Lib.hid (fun (X : World) (hX : PA g _ cap L _ X) => pNamesC g (some ⟨b, off, none⟩) cap L f _ ns q hn X hX hw2)
  obtain ⟨hwq, hsm, -⟩ := pNames_keep hn hw2
  have Hsm := Lib.hid hsm; clear hsm
  have HY := Lib.hid (fun (X : World) (hX : PA g _ cap L q X) => hC _ _ _ hy hwq X hX)
  clear h hw hw2 hwq hy hn hc hC
  have HP := Lib.hid hP; have Ho := Lib.hid ho; clear ho; obtain ⟨b', off', hpt, -, e0, e1, e2, e3⟩ := hP.now hi; cases hpt; obtain ⟨hb, hl⟩ := hP; clear hl; have hg := hb.lt; have hbw := Nat.lt_trans hbg hg; unfold PC at hb; have c0 := hb.cell 0 _ rfl; have c1 := hb.cell 1 _ rfl; have c2 := hb.cell 2 _ rfl; have c3 := hb.cell 3 _ rfl; have c4 := hb.cell 4 _ rfl; have f1 := hb.free 1; have f2 := hb.free 2; have f3 := hb.free 3; have f4 := hb.free 4; clear hb
  obtain ⟨t, ht⟩ : ∃ t, p.tok L = t := ⟨_, rfl⟩
  rw [ht] at e0 e1 e2 e3 hnum
  clear ht
  have Hx := Lib.hid (hx.go (S' := fun k => S k ∧ k < w.heap.size) (Nat.le_refl _) (fun b hb h => ⟨h, hb⟩) (fun _ _ _ => rfl)); clear hx
  by_cases h0 : p.err = 0
  · have hk : ¬ t.kind = 2 := fun e => hnum ⟨h0, e⟩
    have hkb : (t.kind == 2) = false := by simpa using hk
    clear hnum
    rw [h0] at c2
    go_enter Tryd.func89, Tryd.ntmps89; (try simp only [List.append_eq, List.cons_append, List.nil_append])
    go_wp2
    go_quiet (fail)
    go_wp2_with fail
    have hXb := (two_at w [.int .i64 x.kind, .int .i64 x.fn, .int .i64 x.op, .int .i64 x.num, .string x.metric, .slice pm x.mats.length cm, .int .i64 x.span, .slice pn x.names.length cn, .slice pk x.kids.length ck] ZX 26 26).drewN nq
    have hRb := (two_at' w (.cells ([.int .i64 x.kind, .int .i64 x.fn, .int .i64 x.op, .int .i64 x.num, .string x.metric, .slice pm x.mats.length cm, .int .i64 x.span, .slice pn x.names.length cn, .slice pk x.kids.length ck] : List Value).toArray 26) ZX 26).drewN nq
    have hbl := below_drewN (two_below w (.cells ([.int .i64 x.kind, .int .i64 x.fn, .int .i64 x.op, .int .i64 x.num, .string x.metric, .slice pm x.mats.length cm, .int .i64 x.span, .slice pn x.names.length cn, .slice pk x.kids.length ck] : List Value).toArray 26) (.cells ZX.toArray 26)) nq
    have hPY := HP.out.keep hbl
    have hxY := Hx.out.below hbl
    have hoY := Off.of (g := g) hbl
    have hgY := hPY.1.lt
    have hRlt := hRb.lt
    clear c0 c1 c2 c3 c4 f1 f2 f3 f4 e0 e1 e2 e3
    have hzY : (((w.alloc (.cells ([.int .i64 x.kind, .int .i64 x.fn, .int .i64 x.op, .int .i64 x.num, .string x.metric, .slice pm x.mats.length cm, .int .i64 x.span, .slice pn x.names.length cn, .slice pk x.kids.length ck] : List Value).toArray 26)).alloc (.cells ZX.toArray 26)).drewN nq).heap.size = w.heap.size + 1 + 1 := by show ((w.alloc _).alloc _).heap.size = _; simp
    generalize (((w.alloc (.cells ([.int .i64 x.kind, .int .i64 x.fn, .int .i64 x.op, .int .i64 x.num, .string x.metric, .slice pm x.mats.length cm, .int .i64 x.span, .slice pn x.names.length cn, .slice pk x.kids.length ck] : List Value).toArray 26)).alloc (.cells ZX.toArray 26)).drewN nq) = Y at hXb hRb hbl hPY hxY hoY hgY hRlt hzY
    have hJ := Blk.new Y [.int .i64 3, .int .i64 0, .int .i64 op, .int .i64 0, .string ⟨#[]⟩, .slice none 0 0, .int .i64 0, .slice none 0 0, .slice none 0 0] 26
    have hbl2 : Below Y.heap.size Y (Y.alloc (.cells ([.int .i64 3, .int .i64 0, .int .i64 op, .int .i64 0, .string ⟨#[]⟩, .slice none 0 0, .int .i64 0, .slice none 0 0, .slice none 0 0] : List Value).toArray 26)) := (Below.refl _ _).alloc (Nat.le_refl _) _
    have hX1 := hXb.keep hbl2
    have hR1 := hRb.keep hbl2
    have hP1 := hPY.keep hbl2
    have hx1 := hxY.below hbl2
    have ho1 := hoY.trans (Off.of (g := g) hbl2)
    have hJlt := hJ.lt
    generalize Y.alloc (.cells ([.int .i64 3, .int .i64 0, .int .i64 op, .int .i64 0, .string ⟨#[]⟩, .slice none 0 0, .int .i64 0, .slice none 0 0, .slice none 0 0] : List Value).toArray 26) = X1 at hJ hbl2 hX1 hR1 hP1 hx1 ho1 hJlt
    rw [hzY] at hJ hJlt hgY hRlt
    obtain ⟨b9, hb9⟩ : ∃ k, w.heap.size + 1 + 1 = k := ⟨_, rfl⟩
    rw [hb9] at hJ hJlt hgY hRlt ⊢
    clear hXb hRb hbl hbl2 hPY hxY hoY hb9 hzY
    refine (HT.out _ hP1).mono ?_
    rintro e' w1 ⟨rfl, hPa, hoa⟩
    have hXa := hoa.blkX hX1 (Nat.ne_of_gt hg)
    have hRa := hoa.blkX hR1 (show w.heap.size + 1 ≠ g by omega)
    have hJa := hoa.blkX hJ (Nat.ne_of_gt hgY)
    have hxa := hx1.off hoa (fun h => hSg h.1)
    have hzaa := hoa.size
    have hoa := ho1.trans hoa
    clear hX1 hR1 hJ hP1 hx1 ho1
    go_wp2_with fail
    refine (HM.out _ hPa).mono ?_
    rintro e' w2 ⟨v, rfl, hown, hPb, hob⟩
    obtain ⟨A, mc, rfl⟩ := ownN_slice hown
    have hmsb := hown.strsS Hsm.out
    have hXb := hob.blkX hXa (Nat.ne_of_gt hg)
    have hRb := hob.blkX hRa (show w.heap.size + 1 ≠ g by omega)
    have hJb := hob.blkX hJa (Nat.ne_of_gt hgY)
    have hxb := hxa.off hob (fun h => hSg h.1)
    have hzb := hob.size
    have hob := hoa.trans hob
    have d7 := hJb.cell 7 _ rfl
    have f7 := hJb.free 7
    have HXb := Lib.hid hXb; have HRb := Lib.hid hRb; have HJb := Lib.hid hJb; have Hxb := Lib.hid hxb; have Hob := Lib.hid hob; have Hmsb := Lib.hid hmsb
    clear hXb hRb hJb hxb hob hmsb hXa hRa hJa hxa hoa hPa hown
    go_wp2_with fail
    have hXc := HXb.out.far (p := ⟨b9, 7, none⟩) (show w.heap.size ≠ b9 by omega) (.slice A ns.length mc)
    have hRc := HRb.out.far (p := ⟨b9, 7, none⟩) (show w.heap.size + 1 ≠ b9 by omega) (.slice A ns.length mc)
    have hJc := HJb.out.set_ 7 (.slice A ns.length mc)
    have hxc := Hxb.out.set (k := b9) (fun h => by have h : b9 < w.heap.size := h.2; omega) 7 (.slice A ns.length mc)
    have hPc := hPb.setFar hgY 7 (.slice A ns.length mc)
    have hoc := Hob.out.setNew (show w.heap.size ≤ b9 by omega) 7 (.slice A ns.length mc)
    have hmsc := Hmsb.out.set (k := b9) (show ¬ w1.heap.size ≤ b9 by omega) 7 (.slice A ns.length mc)
    have hzc := setCell_size w2 ⟨b9, 7, none⟩ (.slice A ns.length mc)
    rw [← hzc]
    generalize w2.setCell ⟨b9, 7, none⟩ (.slice A ns.length mc) = W2 at hXc hRc hJc hxc hPc hoc hmsc hzc
    clear HXb HRb HJb Hxb Hob Hmsb d7 f7 hPb
    have hZ := Blk.new W2 ZX 26
    have hbl3 : Below W2.heap.size W2 (W2.alloc (.cells ZX.toArray 26)) := (Below.refl _ _).alloc (Nat.le_refl _) _
    have hXd := hXc.keep hbl3
    have hRd := hRc.keep hbl3
    have hJd := hJc.keep hbl3
    have hPd := hPc.keep hbl3
    have hxd := hxc.below hbl3
    have hmsd := (hmsc.go (S' := fun k => w1.heap.size ≤ k ∧ k < W2.heap.size) (Nat.le_refl _) (fun b hb h => ⟨h, hb⟩) (fun _ _ _ => rfl)).below hbl3
    have hod := hoc.trans (Off.of (g := g) hbl3)
    have hZlt := hZ.lt
    have hJlt2 := hJc.lt
    have hRlt2 := hRc.lt
    have hgW := hPc.1.lt
    generalize W2.alloc (.cells ZX.toArray 26) = X3 at hZ hbl3 hXd hRd hJd hPd hxd hmsd hod hZlt
    obtain ⟨b10, hb10⟩ : ∃ k, W2.heap.size = k := ⟨_, rfl⟩
    rw [hb10] at hmsd hZ hZlt hJlt2 hRlt2 hgW ⊢
    clear hbl3 hXc hRc hJc hPc hxc hmsc hoc
    refine (HY.out _ hPd).mono ?_
    rintro e' w4 ⟨cs', rfl, hy4, hP4, ho4⟩
    obtain ⟨qm, dm, qn, dn, qk, dk, rfl, -⟩ := IsEx.cellsE hy4
    have hX4 := ho4.blkX hXd (Nat.ne_of_gt hg)
    have hR4 := ho4.blkX hRd (show w.heap.size + 1 ≠ g by omega)
    have hJ4 := ho4.blkX hJd (Nat.ne_of_gt hgY)
    have hZ4 := ho4.blkX hZ (Nat.ne_of_gt hgW)
    have hx4 := hxd.off ho4 (fun h => hSg h.1)
    have hms4 := hmsd.off ho4 (show ¬ (w1.heap.size ≤ g ∧ g < b10) by omega)
    have hz34 := ho4.size
    have ho4 := hod.trans ho4
    have hs5 : (w4.setRow b10 ([.int .i64 y.kind, .int .i64 y.fn, .int .i64 y.op, .int .i64 y.num, .string y.metric, .slice qm y.mats.length dm, .int .i64 y.span, .slice qn y.names.length dn, .slice qk y.kids.length dk] : List Value).toArray).heap.size = w4.heap.size := setRow_size _ _ _
    have hX5 : Blk (w4.setRow b10 ([.int .i64 y.kind, .int .i64 y.fn, .int .i64 y.op, .int .i64 y.num, .string y.metric, .slice qm y.mats.length dm, .int .i64 y.span, .slice qn y.names.length dn, .slice qk y.kids.length dk] : List Value).toArray) w.heap.size _ _ := (setRow_far w4 b10 _ (show w.heap.size ≠ b10 by omega)).trans hX4
    have hR5 : Blk (w4.setRow b10 ([.int .i64 y.kind, .int .i64 y.fn, .int .i64 y.op, .int .i64 y.num, .string y.metric, .slice qm y.mats.length dm, .int .i64 y.span, .slice qn y.names.length dn, .slice qk y.kids.length dk] : List Value).toArray) (w.heap.size + 1) _ _ := (setRow_far w4 b10 _ (show w.heap.size + 1 ≠ b10 by omega)).trans hR4
    have hJ5 : Blk (w4.setRow b10 ([.int .i64 y.kind, .int .i64 y.fn, .int .i64 y.op, .int .i64 y.num, .string y.metric, .slice qm y.mats.length dm, .int .i64 y.span, .slice qn y.names.length dn, .slice qk y.kids.length dk] : List Value).toArray) b9 _ _ := (setRow_far w4 b10 _ (show b9 ≠ b10 by omega)).trans hJ4
    have hZ5 := hZ4.row [.int .i64 y.kind, .int .i64 y.fn, .int .i64 y.op, .int .i64 y.num, .string y.metric, .slice qm y.mats.length dm, .int .i64 y.span, .slice qn y.names.length dn, .slice qk y.kids.length dk]
    have hP5 := hP4.row (show g < b10 by omega) ([.int .i64 y.kind, .int .i64 y.fn, .int .i64 y.op, .int .i64 y.num, .string y.metric, .slice qm y.mats.length dm, .int .i64 y.span, .slice qn y.names.length dn, .slice qk y.kids.length dk] : List Value).toArray
    have hx5 := hx4.go (S' := fun k => S k ∧ k < w.heap.size) (w' := w4.setRow b10 ([.int .i64 y.kind, .int .i64 y.fn, .int .i64 y.op, .int .i64 y.num, .string y.metric, .slice qm y.mats.length dm, .int .i64 y.span, .slice qn y.names.length dn, .slice qk y.kids.length dk] : List Value).toArray) (by rw [hs5]; exact Nat.le_refl _) (fun _ _ h => h) (fun k _ hk => setRow_far w4 b10 _ (by have hk : k < w.heap.size := hk.2; omega))
    have hy5 := hy4.go (S' := fun k => X3.heap.size ≤ k) (w' := w4.setRow b10 ([.int .i64 y.kind, .int .i64 y.fn, .int .i64 y.op, .int .i64 y.num, .string y.metric, .slice qm y.mats.length dm, .int .i64 y.span, .slice qn y.names.length dn, .slice qk y.kids.length dk] : List Value).toArray) (by rw [hs5]; exact Nat.le_refl _) (fun _ _ h => h) (fun k _ hk => setRow_far w4 b10 _ (by have hk : X3.heap.size ≤ k := hk; omega))
    have hms5 := hms4.go (S' := fun k => w1.heap.size ≤ k ∧ k < b10) (w' := w4.setRow b10 ([.int .i64 y.kind, .int .i64 y.fn, .int .i64 y.op, .int .i64 y.num, .string y.metric, .slice qm y.mats.length dm, .int .i64 y.span, .slice qn y.names.length dn, .slice qk y.kids.length dk] : List Value).toArray) (by rw [hs5]; exact Nat.le_refl _) (fun _ _ h => h) (fun k _ hk => setRow_far w4 b10 _ (by have hk : w1.heap.size ≤ k ∧ k < b10 := hk; omega))
    have ho5 := ho4.rowNew (show w.heap.size ≤ b10 by omega) ([.int .i64 y.kind, .int .i64 y.fn, .int .i64 y.op, .int .i64 y.num, .string y.metric, .slice qm y.mats.length dm, .int .i64 y.span, .slice qn y.names.length dn, .slice qk y.kids.length dk] : List Value).toArray
    have HZ4 := Lib.hid hZ4
    have hs0 := hX4.lt
    clear hX4 hR4 hJ4 hZ4 hx4 hy4 ho4 hP4 hXd hRd hJd hZ hxd hPd hod hms4 hmsd
    go_wp2_with (first
      | (refine wpList_store_row rfl 26 _ _ rfl b10 ([.int .i64 y.kind, .int .i64 y.fn, .int .i64 y.op, .int .i64 y.num, .string y.metric, .slice qm y.mats.length dm, .int .i64 y.span, .slice qn y.names.length dn, .slice qk y.kids.length dk] : List Value).toArray rfl rfl 26 _ HZ4.out (by kernel_rfl) rfl (by kernel_rfl) ?_; generalize w4.setRow b10 ([.int .i64 y.kind, .int .i64 y.fn, .int .i64 y.op, .int .i64 y.num, .string y.metric, .slice qm y.mats.length dm, .int .i64 y.span, .slice qn y.names.length dn, .slice qk y.kids.length dk] : List Value).toArray = X5 at hX5 hR5 hJ5 hZ5 hP5 hx5 hy5 hms5 ho5 hs5; have l9 := hJ5.lt; have l10 := hZ5.lt; have l0 := hX5.lt; have l1 := hR5.lt; have x0 := hX5.cell 0 _ rfl; have x1 := hX5.cell 1 _ rfl; have x2 := hX5.cell 2 _ rfl; have x3 := hX5.cell 3 _ rfl; have x4 := hX5.cell 4 _ rfl; have x5 := hX5.cell 5 _ rfl; have x6 := hX5.cell 6 _ rfl; have x7 := hX5.cell 7 _ rfl; have x8 := hX5.cell 8 _ rfl; have z0 := hZ5.cell 0 _ rfl; have z1 := hZ5.cell 1 _ rfl; have z2 := hZ5.cell 2 _ rfl; have z3 := hZ5.cell 3 _ rfl; have z4 := hZ5.cell 4 _ rfl; have z5 := hZ5.cell 5 _ rfl; have z6 := hZ5.cell 6 _ rfl; have z7 := hZ5.cell 7 _ rfl; have z8 := hZ5.cell 8 _ rfl; have d0 := hJ5.cell 0 _ rfl; have d1 := hJ5.cell 1 _ rfl; have d2 := hJ5.cell 2 _ rfl; have d3 := hJ5.cell 3 _ rfl; have d4 := hJ5.cell 4 _ rfl; have d5 := hJ5.cell 5 _ rfl; have d6 := hJ5.cell 6 _ rfl; have d7 := hJ5.cell 7 _ rfl; have d8 := hJ5.cell 8 _ rfl; have f8 := hJ5.free 8; have HR5 := Lib.hid hR5; have HJ5 := Lib.hid hJ5; have HP5 := Lib.hid hP5; have HX5 := Lib.hid hx5; have HY5 := Lib.hid hy5; have HO5 := Lib.hid ho5; have HM5 := Lib.hid hms5; clear hms5; have HS5 := Lib.hid hs5; clear hX5 hR5 hJ5 hZ5 hP5 hx5 hy5 ho5 hs5)
      | (refine wpList_store_row rfl 26 _ _ rfl (w.heap.size + 1) ([.int .i64 3, .int .i64 0, .int .i64 op, .int .i64 0, .string ⟨#[]⟩, .slice none 0 0, .int .i64 0, .slice A ns.length mc, .slice (some ⟨X5.heap.size, 0, none⟩) 2 2] : List Value).toArray rfl rfl 26 _ ((HR5.out.far (p := ⟨b9, 8, none⟩) (show w.heap.size + 1 ≠ b9 by omega) (.slice (some ⟨X5.heap.size, 0, none⟩) 2 2)).alloc (.cells ([.int .i64 x.kind, .int .i64 x.fn, .int .i64 x.op, .int .i64 x.num, .string x.metric, .slice pm x.mats.length cm, .int .i64 x.span, .slice pn x.names.length cn, .slice pk x.kids.length ck, .int .i64 y.kind, .int .i64 y.fn, .int .i64 y.op, .int .i64 y.num, .string y.metric, .slice qm y.mats.length dm, .int .i64 y.span, .slice qn y.names.length dn, .slice qk y.kids.length dk] : List Value).toArray 26)) (by kernel_rfl) rfl (by kernel_rfl) ?_))
    have hs5 := HS5.out
    have hz6 := setCell_size X5 ⟨b9, 8, none⟩ (.slice (some ⟨X5.heap.size, 0, none⟩) 2 2)
    have hbl6 : Below (X5.setCell ⟨b9, 8, none⟩ (.slice (some ⟨X5.heap.size, 0, none⟩) 2 2)).heap.size (X5.setCell ⟨b9, 8, none⟩ (.slice (some ⟨X5.heap.size, 0, none⟩) 2 2)) ((X5.setCell ⟨b9, 8, none⟩ (.slice (some ⟨X5.heap.size, 0, none⟩) 2 2)).alloc (.cells ([.int .i64 x.kind, .int .i64 x.fn, .int .i64 x.op, .int .i64 x.num, .string x.metric, .slice pm x.mats.length cm, .int .i64 x.span, .slice pn x.names.length cn, .slice pk x.kids.length ck, .int .i64 y.kind, .int .i64 y.fn, .int .i64 y.op, .int .i64 y.num, .string y.metric, .slice qm y.mats.length dm, .int .i64 y.span, .slice qn y.names.length dn, .slice qk y.kids.length dk] : List Value).toArray 26)) := (Below.refl _ _).alloc (Nat.le_refl _) _
    have hK6 : Blk ((X5.setCell ⟨b9, 8, none⟩ (.slice (some ⟨X5.heap.size, 0, none⟩) 2 2)).alloc (.cells ([.int .i64 x.kind, .int .i64 x.fn, .int .i64 x.op, .int .i64 x.num, .string x.metric, .slice pm x.mats.length cm, .int .i64 x.span, .slice pn x.names.length cn, .slice pk x.kids.length ck, .int .i64 y.kind, .int .i64 y.fn, .int .i64 y.op, .int .i64 y.num, .string y.metric, .slice qm y.mats.length dm, .int .i64 y.span, .slice qn y.names.length dn, .slice qk y.kids.length dk] : List Value).toArray 26)) X5.heap.size 26 [.int .i64 x.kind, .int .i64 x.fn, .int .i64 x.op, .int .i64 x.num, .string x.metric, .slice pm x.mats.length cm, .int .i64 x.span, .slice pn x.names.length cn, .slice pk x.kids.length ck, .int .i64 y.kind, .int .i64 y.fn, .int .i64 y.op, .int .i64 y.num, .string y.metric, .slice qm y.mats.length dm, .int .i64 y.span, .slice qn y.names.length dn, .slice qk y.kids.length dk] := by have := Blk.new (X5.setCell ⟨b9, 8, none⟩ (.slice (some ⟨X5.heap.size, 0, none⟩) 2 2)) [.int .i64 x.kind, .int .i64 x.fn, .int .i64 x.op, .int .i64 x.num, .string x.metric, .slice pm x.mats.length cm, .int .i64 x.span, .slice pn x.names.length cn, .slice pk x.kids.length ck, .int .i64 y.kind, .int .i64 y.fn, .int .i64 y.op, .int .i64 y.num, .string y.metric, .slice qm y.mats.length dm, .int .i64 y.span, .slice qn y.names.length dn, .slice qk y.kids.length dk] 26; rwa [hz6] at this
    have hx6 := (HX5.out.set (k := b9) (fun h => by have h : b9 < w.heap.size := h.2; omega) 8 (.slice (some ⟨X5.heap.size, 0, none⟩) 2 2)).below hbl6
    have hy6 := (HY5.out.set (k := b9) (show ¬ X3.heap.size ≤ b9 by omega) 8 (.slice (some ⟨X5.heap.size, 0, none⟩) 2 2)).below hbl6
    have hm6 := (HM5.out.set (k := b9) (show ¬ (w1.heap.size ≤ b9 ∧ b9 < b10) by omega) 8 (.slice (some ⟨X5.heap.size, 0, none⟩) 2 2)).below hbl6
    have hP6 := (HP5.out.setFar hgY 8 (.slice (some ⟨X5.heap.size, 0, none⟩) 2 2)).keep hbl6
    have ho6 := (HO5.out.setNew (show w.heap.size ≤ b9 by omega) 8 (.slice (some ⟨X5.heap.size, 0, none⟩) 2 2)).trans (Off.of (g := g) hbl6)
    exact bodyPost_agg (d := _) rfl rfl (setRow_at ((HR5.out.far (p := ⟨b9, 8, none⟩) (show w.heap.size + 1 ≠ b9 by omega) (.slice (some ⟨X5.heap.size, 0, none⟩) 2 2)).alloc (.cells ([.int .i64 x.kind, .int .i64 x.fn, .int .i64 x.op, .int .i64 x.num, .string x.metric, .slice pm x.mats.length cm, .int .i64 x.span, .slice pn x.names.length cn, .slice pk x.kids.length ck, .int .i64 y.kind, .int .i64 y.fn, .int .i64 y.op, .int .i64 y.num, .string y.metric, .slice qm y.mats.length dm, .int .i64 y.span, .slice qn y.names.length dn, .slice qk y.kids.length dk] : List Value).toArray 26)) _) Tryd.underlying26 rfl (by kernel_rfl) rfl (exR_close (S := fun k => (S k ∧ k < w.heap.size) ∨ (w.heap.size ≤ k ∧ k ≠ w.heap.size + 1)) (exS_node (by decide) (noMatsS _ _) (hm6.go (Nat.le_refl _) (fun k _ h => Or.inr (by have h : w1.heap.size ≤ k ∧ k < b10 := h; show w.heap.size ≤ k ∧ k ≠ w.heap.size + 1; omega)) (fun _ _ _ => rfl)) (exsS2 (cs := [.int .i64 x.kind, .int .i64 x.fn, .int .i64 x.op, .int .i64 x.num, .string x.metric, .slice pm x.mats.length cm, .int .i64 x.span, .slice pn x.names.length cn, .slice pk x.kids.length ck]) (ds := [.int .i64 y.kind, .int .i64 y.fn, .int .i64 y.op, .int .i64 y.num, .string y.metric, .slice qm y.mats.length dm, .int .i64 y.span, .slice qn y.names.length dn, .slice qk y.kids.length dk]) hK6 (Or.inr (show w.heap.size ≤ X5.heap.size ∧ X5.heap.size ≠ w.heap.size + 1 by omega)) (hx6.go (Nat.le_refl _) (fun k _ h => Or.inl h) (fun _ _ _ => rfl)) (hy6.go (Nat.le_refl _) (fun k _ h => Or.inr (by have h : X3.heap.size ≤ k := h; show w.heap.size ≤ k ∧ k ≠ w.heap.size + 1; omega)) (fun _ _ _ => rfl)))) hP6 ho6 (by omega) (show g < w.heap.size + 1 by omega) (fun h => h.elim (fun h => by have := h.2; omega) (fun h => h.2 rfl)) (fun k _ h => h.elim (fun h => Or.inl h.1) (fun h => Or.inr h.1)))
  · have h0b : (p.err == 0) = false := by simpa using h0
    clear hnum
    go_enter Tryd.func89, Tryd.ntmps89; (try simp only [List.append_eq, List.cons_append, List.nil_append])
    go_wp2
    go_quiet (fail)
    go_wp2_with fail
    have hXb := (two_at w [.int .i64 x.kind, .int .i64 x.fn, .int .i64 x.op, .int .i64 x.num, .string x.metric, .slice pm x.mats.length cm, .int .i64 x.span, .slice pn x.names.length cn, .slice pk x.kids.length ck] ZX 26 26).drewN nq
    have hRb := (two_at' w (.cells ([.int .i64 x.kind, .int .i64 x.fn, .int .i64 x.op, .int .i64 x.num, .string x.metric, .slice pm x.mats.length cm, .int .i64 x.span, .slice pn x.names.length cn, .slice pk x.kids.length ck] : List Value).toArray 26) ZX 26).drewN nq
    have hbl := below_drewN (two_below w (.cells ([.int .i64 x.kind, .int .i64 x.fn, .int .i64 x.op, .int .i64 x.num, .string x.metric, .slice pm x.mats.length cm, .int .i64 x.span, .slice pn x.names.length cn, .slice pk x.kids.length ck] : List Value).toArray 26) (.cells ZX.toArray 26)) nq
    have hPY := HP.out.keep hbl
    have hxY := Hx.out.below hbl
    have hoY := Off.of (g := g) hbl
    have hgY := hPY.1.lt
    have hRlt := hRb.lt
    clear c0 c1 c2 c3 c4 f1 f2 f3 f4 e0 e1 e2 e3
    have hzY : (((w.alloc (.cells ([.int .i64 x.kind, .int .i64 x.fn, .int .i64 x.op, .int .i64 x.num, .string x.metric, .slice pm x.mats.length cm, .int .i64 x.span, .slice pn x.names.length cn, .slice pk x.kids.length ck] : List Value).toArray 26)).alloc (.cells ZX.toArray 26)).drewN nq).heap.size = w.heap.size + 1 + 1 := by show ((w.alloc _).alloc _).heap.size = _; simp
    generalize (((w.alloc (.cells ([.int .i64 x.kind, .int .i64 x.fn, .int .i64 x.op, .int .i64 x.num, .string x.metric, .slice pm x.mats.length cm, .int .i64 x.span, .slice pn x.names.length cn, .slice pk x.kids.length ck] : List Value).toArray 26)).alloc (.cells ZX.toArray 26)).drewN nq) = Y at hXb hRb hbl hPY hxY hoY hgY hRlt hzY
    have hJ := Blk.new Y [.int .i64 3, .int .i64 0, .int .i64 op, .int .i64 0, .string ⟨#[]⟩, .slice none 0 0, .int .i64 0, .slice none 0 0, .slice none 0 0] 26
    have hbl2 : Below Y.heap.size Y (Y.alloc (.cells ([.int .i64 3, .int .i64 0, .int .i64 op, .int .i64 0, .string ⟨#[]⟩, .slice none 0 0, .int .i64 0, .slice none 0 0, .slice none 0 0] : List Value).toArray 26)) := (Below.refl _ _).alloc (Nat.le_refl _) _
    have hX1 := hXb.keep hbl2
    have hR1 := hRb.keep hbl2
    have hP1 := hPY.keep hbl2
    have hx1 := hxY.below hbl2
    have ho1 := hoY.trans (Off.of (g := g) hbl2)
    have hJlt := hJ.lt
    generalize Y.alloc (.cells ([.int .i64 3, .int .i64 0, .int .i64 op, .int .i64 0, .string ⟨#[]⟩, .slice none 0 0, .int .i64 0, .slice none 0 0, .slice none 0 0] : List Value).toArray 26) = X1 at hJ hbl2 hX1 hR1 hP1 hx1 ho1 hJlt
    rw [hzY] at hJ hJlt hgY hRlt
    obtain ⟨b9, hb9⟩ : ∃ k, w.heap.size + 1 + 1 = k := ⟨_, rfl⟩
    rw [hb9] at hJ hJlt hgY hRlt ⊢
    clear hXb hRb hbl hbl2 hPY hxY hoY hb9 hzY
    refine (HT.out _ hP1).mono ?_
    rintro e' w1 ⟨rfl, hPa, hoa⟩
    have hXa := hoa.blkX hX1 (Nat.ne_of_gt hg)
    have hRa := hoa.blkX hR1 (show w.heap.size + 1 ≠ g by omega)
    have hJa := hoa.blkX hJ (Nat.ne_of_gt hgY)
    have hxa := hx1.off hoa (fun h => hSg h.1)
    have hzaa := hoa.size
    have hoa := ho1.trans hoa
    clear hX1 hR1 hJ hP1 hx1 ho1
    go_wp2_with fail
    refine (HM.out _ hPa).mono ?_
    rintro e' w2 ⟨v, rfl, hown, hPb, hob⟩
    obtain ⟨A, mc, rfl⟩ := ownN_slice hown
    have hmsb := hown.strsS Hsm.out
    have hXb := hob.blkX hXa (Nat.ne_of_gt hg)
    have hRb := hob.blkX hRa (show w.heap.size + 1 ≠ g by omega)
    have hJb := hob.blkX hJa (Nat.ne_of_gt hgY)
    have hxb := hxa.off hob (fun h => hSg h.1)
    have hzb := hob.size
    have hob := hoa.trans hob
    have d7 := hJb.cell 7 _ rfl
    have f7 := hJb.free 7
    have HXb := Lib.hid hXb; have HRb := Lib.hid hRb; have HJb := Lib.hid hJb; have Hxb := Lib.hid hxb; have Hob := Lib.hid hob; have Hmsb := Lib.hid hmsb
    clear hXb hRb hJb hxb hob hmsb hXa hRa hJa hxa hoa hPa hown
    go_wp2_with fail
    have hXc := HXb.out.far (p := ⟨b9, 7, none⟩) (show w.heap.size ≠ b9 by omega) (.slice A ns.length mc)
    have hRc := HRb.out.far (p := ⟨b9, 7, none⟩) (show w.heap.size + 1 ≠ b9 by omega) (.slice A ns.length mc)
    have hJc := HJb.out.set_ 7 (.slice A ns.length mc)
    have hxc := Hxb.out.set (k := b9) (fun h => by have h : b9 < w.heap.size := h.2; omega) 7 (.slice A ns.length mc)
    have hPc := hPb.setFar hgY 7 (.slice A ns.length mc)
    have hoc := Hob.out.setNew (show w.heap.size ≤ b9 by omega) 7 (.slice A ns.length mc)
    have hmsc := Hmsb.out.set (k := b9) (show ¬ w1.heap.size ≤ b9 by omega) 7 (.slice A ns.length mc)
    have hzc := setCell_size w2 ⟨b9, 7, none⟩ (.slice A ns.length mc)
    rw [← hzc]
    generalize w2.setCell ⟨b9, 7, none⟩ (.slice A ns.length mc) = W2 at hXc hRc hJc hxc hPc hoc hmsc hzc
    clear HXb HRb HJb Hxb Hob Hmsb d7 f7 hPb
    have hZ := Blk.new W2 ZX 26
    have hbl3 : Below W2.heap.size W2 (W2.alloc (.cells ZX.toArray 26)) := (Below.refl _ _).alloc (Nat.le_refl _) _
    have hXd := hXc.keep hbl3
    have hRd := hRc.keep hbl3
    have hJd := hJc.keep hbl3
    have hPd := hPc.keep hbl3
    have hxd := hxc.below hbl3
    have hmsd := (hmsc.go (S' := fun k => w1.heap.size ≤ k ∧ k < W2.heap.size) (Nat.le_refl _) (fun b hb h => ⟨h, hb⟩) (fun _ _ _ => rfl)).below hbl3
    have hod := hoc.trans (Off.of (g := g) hbl3)
    have hZlt := hZ.lt
    have hJlt2 := hJc.lt
    have hRlt2 := hRc.lt
    have hgW := hPc.1.lt
    generalize W2.alloc (.cells ZX.toArray 26) = X3 at hZ hbl3 hXd hRd hJd hPd hxd hmsd hod hZlt
    obtain ⟨b10, hb10⟩ : ∃ k, W2.heap.size = k := ⟨_, rfl⟩
    rw [hb10] at hmsd hZ hZlt hJlt2 hRlt2 hgW ⊢
    clear hbl3 hXc hRc hJc hPc hxc hmsc hoc
    refine (HY.out _ hPd).mono ?_
    rintro e' w4 ⟨cs', rfl, hy4, hP4, ho4⟩
    obtain ⟨qm, dm, qn, dn, qk, dk, rfl, -⟩ := IsEx.cellsE hy4
    have hX4 := ho4.blkX hXd (Nat.ne_of_gt hg)
    have hR4 := ho4.blkX hRd (show w.heap.size + 1 ≠ g by omega)
    have hJ4 := ho4.blkX hJd (Nat.ne_of_gt hgY)
    have hZ4 := ho4.blkX hZ (Nat.ne_of_gt hgW)
    have hx4 := hxd.off ho4 (fun h => hSg h.1)
    have hms4 := hmsd.off ho4 (show ¬ (w1.heap.size ≤ g ∧ g < b10) by omega)
    have hz34 := ho4.size
    have ho4 := hod.trans ho4
    have hs5 : (w4.setRow b10 ([.int .i64 y.kind, .int .i64 y.fn, .int .i64 y.op, .int .i64 y.num, .string y.metric, .slice qm y.mats.length dm, .int .i64 y.span, .slice qn y.names.length dn, .slice qk y.kids.length dk] : List Value).toArray).heap.size = w4.heap.size := setRow_size _ _ _
    have hX5 : Blk (w4.setRow b10 ([.int .i64 y.kind, .int .i64 y.fn, .int .i64 y.op, .int .i64 y.num, .string y.metric, .slice qm y.mats.length dm, .int .i64 y.span, .slice qn y.names.length dn, .slice qk y.kids.length dk] : List Value).toArray) w.heap.size _ _ := (setRow_far w4 b10 _ (show w.heap.size ≠ b10 by omega)).trans hX4
    have hR5 : Blk (w4.setRow b10 ([.int .i64 y.kind, .int .i64 y.fn, .int .i64 y.op, .int .i64 y.num, .string y.metric, .slice qm y.mats.length dm, .int .i64 y.span, .slice qn y.names.length dn, .slice qk y.kids.length dk] : List Value).toArray) (w.heap.size + 1) _ _ := (setRow_far w4 b10 _ (show w.heap.size + 1 ≠ b10 by omega)).trans hR4
    have hJ5 : Blk (w4.setRow b10 ([.int .i64 y.kind, .int .i64 y.fn, .int .i64 y.op, .int .i64 y.num, .string y.metric, .slice qm y.mats.length dm, .int .i64 y.span, .slice qn y.names.length dn, .slice qk y.kids.length dk] : List Value).toArray) b9 _ _ := (setRow_far w4 b10 _ (show b9 ≠ b10 by omega)).trans hJ4
    have hZ5 := hZ4.row [.int .i64 y.kind, .int .i64 y.fn, .int .i64 y.op, .int .i64 y.num, .string y.metric, .slice qm y.mats.length dm, .int .i64 y.span, .slice qn y.names.length dn, .slice qk y.kids.length dk]
    have hP5 := hP4.row (show g < b10 by omega) ([.int .i64 y.kind, .int .i64 y.fn, .int .i64 y.op, .int .i64 y.num, .string y.metric, .slice qm y.mats.length dm, .int .i64 y.span, .slice qn y.names.length dn, .slice qk y.kids.length dk] : List Value).toArray
    have hx5 := hx4.go (S' := fun k => S k ∧ k < w.heap.size) (w' := w4.setRow b10 ([.int .i64 y.kind, .int .i64 y.fn, .int .i64 y.op, .int .i64 y.num, .string y.metric, .slice qm y.mats.length dm, .int .i64 y.span, .slice qn y.names.length dn, .slice qk y.kids.length dk] : List Value).toArray) (by rw [hs5]; exact Nat.le_refl _) (fun _ _ h => h) (fun k _ hk => setRow_far w4 b10 _ (by have hk : k < w.heap.size := hk.2; omega))
    have hy5 := hy4.go (S' := fun k => X3.heap.size ≤ k) (w' := w4.setRow b10 ([.int .i64 y.kind, .int .i64 y.fn, .int .i64 y.op, .int .i64 y.num, .string y.metric, .slice qm y.mats.length dm, .int .i64 y.span, .slice qn y.names.length dn, .slice qk y.kids.length dk] : List Value).toArray) (by rw [hs5]; exact Nat.le_refl _) (fun _ _ h => h) (fun k _ hk => setRow_far w4 b10 _ (by have hk : X3.heap.size ≤ k := hk; omega))
    have hms5 := hms4.go (S' := fun k => w1.heap.size ≤ k ∧ k < b10) (w' := w4.setRow b10 ([.int .i64 y.kind, .int .i64 y.fn, .int .i64 y.op, .int .i64 y.num, .string y.metric, .slice qm y.mats.length dm, .int .i64 y.span, .slice qn y.names.length dn, .slice qk y.kids.length dk] : List Value).toArray) (by rw [hs5]; exact Nat.le_refl _) (fun _ _ h => h) (fun k _ hk => setRow_far w4 b10 _ (by have hk : w1.heap.size ≤ k ∧ k < b10 := hk; omega))
    have ho5 := ho4.rowNew (show w.heap.size ≤ b10 by omega) ([.int .i64 y.kind, .int .i64 y.fn, .int .i64 y.op, .int .i64 y.num, .string y.metric, .slice qm y.mats.length dm, .int .i64 y.span, .slice qn y.names.length dn, .slice qk y.kids.length dk] : List Value).toArray
    have HZ4 := Lib.hid hZ4
    have hs0 := hX4.lt
    clear hX4 hR4 hJ4 hZ4 hx4 hy4 ho4 hP4 hXd hRd hJd hZ hxd hPd hod hms4 hmsd
    go_wp2_with (first
      | (refine wpList_store_row rfl 26 _ _ rfl b10 ([.int .i64 y.kind, .int .i64 y.fn, .int .i64 y.op, .int .i64 y.num, .string y.metric, .slice qm y.mats.length dm, .int .i64 y.span, .slice qn y.names.length dn, .slice qk y.kids.length dk] : List Value).toArray rfl rfl 26 _ HZ4.out (by kernel_rfl) rfl (by kernel_rfl) ?_; generalize w4.setRow b10 ([.int .i64 y.kind, .int .i64 y.fn, .int .i64 y.op, .int .i64 y.num, .string y.metric, .slice qm y.mats.length dm, .int .i64 y.span, .slice qn y.names.length dn, .slice qk y.kids.length dk] : List Value).toArray = X5 at hX5 hR5 hJ5 hZ5 hP5 hx5 hy5 hms5 ho5 hs5; have l9 := hJ5.lt; have l10 := hZ5.lt; have l0 := hX5.lt; have l1 := hR5.lt; have x0 := hX5.cell 0 _ rfl; have x1 := hX5.cell 1 _ rfl; have x2 := hX5.cell 2 _ rfl; have x3 := hX5.cell 3 _ rfl; have x4 := hX5.cell 4 _ rfl; have x5 := hX5.cell 5 _ rfl; have x6 := hX5.cell 6 _ rfl; have x7 := hX5.cell 7 _ rfl; have x8 := hX5.cell 8 _ rfl; have z0 := hZ5.cell 0 _ rfl; have z1 := hZ5.cell 1 _ rfl; have z2 := hZ5.cell 2 _ rfl; have z3 := hZ5.cell 3 _ rfl; have z4 := hZ5.cell 4 _ rfl; have z5 := hZ5.cell 5 _ rfl; have z6 := hZ5.cell 6 _ rfl; have z7 := hZ5.cell 7 _ rfl; have z8 := hZ5.cell 8 _ rfl; have d0 := hJ5.cell 0 _ rfl; have d1 := hJ5.cell 1 _ rfl; have d2 := hJ5.cell 2 _ rfl; have d3 := hJ5.cell 3 _ rfl; have d4 := hJ5.cell 4 _ rfl; have d5 := hJ5.cell 5 _ rfl; have d6 := hJ5.cell 6 _ rfl; have d7 := hJ5.cell 7 _ rfl; have d8 := hJ5.cell 8 _ rfl; have f8 := hJ5.free 8; have HR5 := Lib.hid hR5; have HJ5 := Lib.hid hJ5; have HP5 := Lib.hid hP5; have HX5 := Lib.hid hx5; have HY5 := Lib.hid hy5; have HO5 := Lib.hid ho5; have HM5 := Lib.hid hms5; clear hms5; have HS5 := Lib.hid hs5; clear hX5 hR5 hJ5 hZ5 hP5 hx5 hy5 ho5 hs5)
      | (refine wpList_store_row rfl 26 _ _ rfl (w.heap.size + 1) ([.int .i64 3, .int .i64 0, .int .i64 op, .int .i64 0, .string ⟨#[]⟩, .slice none 0 0, .int .i64 0, .slice A ns.length mc, .slice (some ⟨X5.heap.size, 0, none⟩) 2 2] : List Value).toArray rfl rfl 26 _ ((HR5.out.far (p := ⟨b9, 8, none⟩) (show w.heap.size + 1 ≠ b9 by omega) (.slice (some ⟨X5.heap.size, 0, none⟩) 2 2)).alloc (.cells ([.int .i64 x.kind, .int .i64 x.fn, .int .i64 x.op, .int .i64 x.num, .string x.metric, .slice pm x.mats.length cm, .int .i64 x.span, .slice pn x.names.length cn, .slice pk x.kids.length ck, .int .i64 y.kind, .int .i64 y.fn, .int .i64 y.op, .int .i64 y.num, .string y.metric, .slice qm y.mats.length dm, .int .i64 y.span, .slice qn y.names.length dn, .slice qk y.kids.length dk] : List Value).toArray 26)) (by kernel_rfl) rfl (by kernel_rfl) ?_))
    have hs5 := HS5.out
    have hz6 := setCell_size X5 ⟨b9, 8, none⟩ (.slice (some ⟨X5.heap.size, 0, none⟩) 2 2)
    have hbl6 : Below (X5.setCell ⟨b9, 8, none⟩ (.slice (some ⟨X5.heap.size, 0, none⟩) 2 2)).heap.size (X5.setCell ⟨b9, 8, none⟩ (.slice (some ⟨X5.heap.size, 0, none⟩) 2 2)) ((X5.setCell ⟨b9, 8, none⟩ (.slice (some ⟨X5.heap.size, 0, none⟩) 2 2)).alloc (.cells ([.int .i64 x.kind, .int .i64 x.fn, .int .i64 x.op, .int .i64 x.num, .string x.metric, .slice pm x.mats.length cm, .int .i64 x.span, .slice pn x.names.length cn, .slice pk x.kids.length ck, .int .i64 y.kind, .int .i64 y.fn, .int .i64 y.op, .int .i64 y.num, .string y.metric, .slice qm y.mats.length dm, .int .i64 y.span, .slice qn y.names.length dn, .slice qk y.kids.length dk] : List Value).toArray 26)) := (Below.refl _ _).alloc (Nat.le_refl _) _
    have hK6 : Blk ((X5.setCell ⟨b9, 8, none⟩ (.slice (some ⟨X5.heap.size, 0, none⟩) 2 2)).alloc (.cells ([.int .i64 x.kind, .int .i64 x.fn, .int .i64 x.op, .int .i64 x.num, .string x.metric, .slice pm x.mats.length cm, .int .i64 x.span, .slice pn x.names.length cn, .slice pk x.kids.length ck, .int .i64 y.kind, .int .i64 y.fn, .int .i64 y.op, .int .i64 y.num, .string y.metric, .slice qm y.mats.length dm, .int .i64 y.span, .slice qn y.names.length dn, .slice qk y.kids.length dk] : List Value).toArray 26)) X5.heap.size 26 [.int .i64 x.kind, .int .i64 x.fn, .int .i64 x.op, .int .i64 x.num, .string x.metric, .slice pm x.mats.length cm, .int .i64 x.span, .slice pn x.names.length cn, .slice pk x.kids.length ck, .int .i64 y.kind, .int .i64 y.fn, .int .i64 y.op, .int .i64 y.num, .string y.metric, .slice qm y.mats.length dm, .int .i64 y.span, .slice qn y.names.length dn, .slice qk y.kids.length dk] := by have := Blk.new (X5.setCell ⟨b9, 8, none⟩ (.slice (some ⟨X5.heap.size, 0, none⟩) 2 2)) [.int .i64 x.kind, .int .i64 x.fn, .int .i64 x.op, .int .i64 x.num, .string x.metric, .slice pm x.mats.length cm, .int .i64 x.span, .slice pn x.names.length cn, .slice pk x.kids.length ck, .int .i64 y.kind, .int .i64 y.fn, .int .i64 y.op, .int .i64 y.num, .string y.metric, .slice qm y.mats.length dm, .int .i64 y.span, .slice qn y.names.length dn, .slice qk y.kids.length dk] 26; rwa [hz6] at this
    have hx6 := (HX5.out.set (k := b9) (fun h => by have h : b9 < w.heap.size := h.2; omega) 8 (.slice (some ⟨X5.heap.size, 0, none⟩) 2 2)).below hbl6
    have hy6 := (HY5.out.set (k := b9) (show ¬ X3.heap.size ≤ b9 by omega) 8 (.slice (some ⟨X5.heap.size, 0, none⟩) 2 2)).below hbl6
    have hm6 := (HM5.out.set (k := b9) (show ¬ (w1.heap.size ≤ b9 ∧ b9 < b10) by omega) 8 (.slice (some ⟨X5.heap.size, 0, none⟩) 2 2)).below hbl6
    have hP6 := (HP5.out.setFar hgY 8 (.slice (some ⟨X5.heap.size, 0, none⟩) 2 2)).keep hbl6
    have ho6 := (HO5.out.setNew (show w.heap.size ≤ b9 by omega) 8 (.slice (some ⟨X5.heap.size, 0, none⟩) 2 2)).trans (Off.of (g := g) hbl6)
    exact bodyPost_agg (d := _) rfl rfl (setRow_at ((HR5.out.far (p := ⟨b9, 8, none⟩) (show w.heap.size + 1 ≠ b9 by omega) (.slice (some ⟨X5.heap.size, 0, none⟩) 2 2)).alloc (.cells ([.int .i64 x.kind, .int .i64 x.fn, .int .i64 x.op, .int .i64 x.num, .string x.metric, .slice pm x.mats.length cm, .int .i64 x.span, .slice pn x.names.length cn, .slice pk x.kids.length ck, .int .i64 y.kind, .int .i64 y.fn, .int .i64 y.op, .int .i64 y.num, .string y.metric, .slice qm y.mats.length dm, .int .i64 y.span, .slice qn y.names.length dn, .slice qk y.kids.length dk] : List Value).toArray 26)) _) Tryd.underlying26 rfl (by kernel_rfl) rfl (exR_close (S := fun k => (S k ∧ k < w.heap.size) ∨ (w.heap.size ≤ k ∧ k ≠ w.heap.size + 1)) (exS_node (by decide) (noMatsS _ _) (hm6.go (Nat.le_refl _) (fun k _ h => Or.inr (by have h : w1.heap.size ≤ k ∧ k < b10 := h; show w.heap.size ≤ k ∧ k ≠ w.heap.size + 1; omega)) (fun _ _ _ => rfl)) (exsS2 (cs := [.int .i64 x.kind, .int .i64 x.fn, .int .i64 x.op, .int .i64 x.num, .string x.metric, .slice pm x.mats.length cm, .int .i64 x.span, .slice pn x.names.length cn, .slice pk x.kids.length ck]) (ds := [.int .i64 y.kind, .int .i64 y.fn, .int .i64 y.op, .int .i64 y.num, .string y.metric, .slice qm y.mats.length dm, .int .i64 y.span, .slice qn y.names.length dn, .slice qk y.kids.length dk]) hK6 (Or.inr (show w.heap.size ≤ X5.heap.size ∧ X5.heap.size ≠ w.heap.size + 1 by omega)) (hx6.go (Nat.le_refl _) (fun k _ h => Or.inl h) (fun _ _ _ => rfl)) (hy6.go (Nat.le_refl _) (fun k _ h => Or.inr (by have h : X3.heap.size ≤ k := h; show w.heap.size ≤ k ∧ k ≠ w.heap.size + 1; omega)) (fun _ _ _ => rfl)))) hP6 ho6 (by omega) (show g < w.heap.size + 1 by omega) (fun h => h.elim (fun h => by have := h.2; omega) (fun h => h.2 rfl)) (fun k _ h => h.elim (fun h => Or.inl h.1) (fun h => Or.inr h.1)))

end Go.Proofs.YtobelmipjanibaaDoor
