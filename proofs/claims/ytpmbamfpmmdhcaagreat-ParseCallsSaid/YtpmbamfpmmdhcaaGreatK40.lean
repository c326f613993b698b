/- The reference's Expr, Match. (PRINTED by gen_qtop3.py.) -/
import Derived.Test.YtpmbamfpmmdhcaaGreatK51
import Derived.Test.YtpmbamfpmmdhcaaGreatK36
import Derived.Test.YtpmbamfpmmdhcaaGreatK39
set_option maxRecDepth 100000
set_option maxHeartbeats 16000000
namespace Go.Proofs.YtpmbamfpmmdhcaaGreat
open Go.RowKit
set_option linter.unusedSimpArgs false
set_option linter.unusedVariables false
theorem uExpr (s : ByteArray) (w : World) (hs : s.size ≤ maxLen) (e : Ex) (p4 : PS) (f : Nat) (hr : pExpr (LX s) f (PX s) = some (e,p4)) :
    Calls Tryz.prog 17 #[.string s] w (ExprR e (p4.done (LX s) (checkExpr e)) w) := by
  have HB := Lib.hid (fun (X : World) => pBegin s X (rAll s X hs))
  have HE := Lib.hid (fun (g : Nat) (pt : Option Addr) (cap : Nat) (X : World) (hX : PA g pt cap (LX s) (PX s) X) => (allCs g pt cap (LX s) f).expr _ _ _ hr (pw_begin s) X hX)
  have hw4 := ((keeps (LX s) f).expr _ _ _ hr (pw_begin s)).1
  have HC := Lib.hid (fun (X : World) (cs : List Value) (hX : IsEx X.heap.size X e cs) => rCheckExpr e cs _ X (Nat.le_refl _) hX (by have := expr_size hr (pw_begin s);omega))
  have HN := Lib.hid (fun (g : Nat) (pt : Option Addr) (cap : Nat) (X : World) (hX : PA g pt cap (LX s) p4 X) => pEnd g pt cap (LX s) p4 X hX hw4 (checkExpr e))
  generalize p4.done (LX s) (checkExpr e) = q at HN ⊢
  generalize checkExpr e = c at HC HN
  clear hr hs hw4
  go_enter Tryz.func17,Tryz.ntmps17;(try simp only [List.append_eq,List.cons_append,List.nil_append])
  go_wp2_with fail
  have hT := two_at w ZX [.int .i64 0,.int .i64 0] 28 31
  have hF := two_at' w (.cells ZX.toArray 28) [.int .i64 0,.int .i64 0] 31
  have hb0 := two_below w (.cells ZX.toArray 28) (.cells ([.int .i64 0,.int .i64 0] : List Value).toArray 31)
  have hz0 : ((w.alloc (.cells ZX.toArray 28)).alloc (.cells ([.int .i64 0,.int .i64 0] : List Value).toArray 31)).heap.size = w.heap.size + 2 := by simp
  refine (HB.out _).mono ?_
  rintro e' w1 ⟨g,pt,cap,rfl,hg,hP1,hb⟩
  rw [hz0] at hg
  have hT1 := hT.keep hb
  have hF1 := hF.keep hb
  have hb1 := hb0.trans (hb.mono hb0.size)
  have hz1 := hb.size
  rw [hz0] at hz1
  clear hT hF hb0 hb hz0
  go_wp2_with fail
  refine (HE.out _ _ _ _ hP1).mono ?_
  rintro e' w2 ⟨cs,rfl,hx2,hP2,ho2⟩
  have hT2 := ho2.blkX hT1 (show w.heap.size ≠ g by omega)
  have hF2 := ho2.blkX hF1 (show w.heap.size + 1 ≠ g by omega)
  have hb2 := Off.belowW hb1 ho2 (by omega)
  have hgs := hP2.1.lt
  have hz2 := ho2.size
  obtain ⟨pm,cm,pn,cn,pk,ck,rfl,-⟩ := IsEx.cellsE hx2
  have hx2 := hx2.go (S' := fun k => w.heap.size + 2 ≤ k ∧ k ≠ g) (Nat.le_refl _) (fun k _ h => by have h : w1.heap.size ≤ k := h;have := hP1.1.lt;exact ⟨by omega,by omega⟩) (fun _ _ _ => rfl)
  clear hT1 hF1 hb1 hP1 ho2
  go_wp2_with fail
  have hbl : Below w2.heap.size w2 (w2.alloc (.cells ([.int .i64 e.kind,.int .i64 e.fn,.int .i64 e.op,.int .i64 e.num,.string e.metric,.slice pm e.mats.length cm,.int .i64 e.span,.slice pn e.names.length cn,.slice pk e.kids.length ck] : List Value).toArray 28)) := (Below.refl _ _).alloc (Nat.le_refl _) _
  have hE3 := Blk.new w2 [.int .i64 e.kind,.int .i64 e.fn,.int .i64 e.op,.int .i64 e.num,.string e.metric,.slice pm e.mats.length cm,.int .i64 e.span,.slice pn e.names.length cn,.slice pk e.kids.length ck] 28
  have hT3 := hT2.keep hbl
  have hF3 := hF2.keep hbl
  have hP3 := hP2.keep hbl
  have hx3 := hx2.below hbl
  have hb3 := hb2.trans (hbl.mono hb2.size)
  have hgB : g < w2.heap.size := hgs
  have hBw : w.heap.size + 2 ≤ w2.heap.size := by omega
  generalize (w2.alloc (.cells ([.int .i64 e.kind,.int .i64 e.fn,.int .i64 e.op,.int .i64 e.num,.string e.metric,.slice pm e.mats.length cm,.int .i64 e.span,.slice pn e.names.length cn,.slice pk e.kids.length ck] : List Value).toArray 28)) = w3 at hE3 hT3 hF3 hP3 hx3 hb3
  obtain ⟨B,hBe⟩ : ∃ B,w2.heap.size = B := ⟨_,rfl⟩
  rw [hBe] at hE3 hgB hBw ⊢
  clear hbl hT2 hF2 hP2 hx2 hb2 hBe hgs hz1 hz2
  refine (HC.out _ _ hx3.ex).mono ?_
  rintro e' w4 ⟨rfl,hb4⟩
  have hE4 := hE3.keep hb4
  have hT4 := hT3.keep hb4
  have hF4 := hF3.keep hb4
  have hP4 := hP3.keep hb4
  have hx4 := hx3.below hb4
  have hbb := hb3.trans (hb4.mono hb3.size)
  clear hE3 hT3 hF3 hP3 hx3 hb3 hb4
  go_wp2_with fail
  refine (HN.out _ _ _ _ hP4).mono ?_
  rintro e' w5 ⟨rfl,hP5,ho5⟩
  have hE5 := ho5.blkX hE4 (show B ≠ g by omega)
  have hT5 := ho5.blkX hT4 (show w.heap.size ≠ g by omega)
  have hF5 := ho5.blkX hF4 (show w.heap.size + 1 ≠ g by omega)
  have hx5 := hx4.off ho5 (fun h => h.2 rfl)
  have hb5 := Off.belowW hbb ho5 (by omega)
  have hlB := hE5.lt
  clear hE4 hT4 hF4 hP4 hx4 hbb ho5 hP5
  go_upto_region 4 with fail
  have hbl : Below w5.heap.size w5 (w5.alloc (.cells ([.int .i64 q.err,.int .i64 q.at'] : List Value).toArray 31)) := (Below.refl _ _).alloc (Nat.le_refl _) _
  have hG6 := Blk.new w5 [.int .i64 q.err,.int .i64 q.at'] 31
  have hE6 := hE5.keep hbl
  have hT6 := hT5.keep hbl
  have hF6 := hF5.keep hbl
  have hx6 := hx5.below hbl
  have hb6 := hb5.trans (hbl.mono hb5.size)
  generalize (w5.alloc (.cells ([.int .i64 q.err,.int .i64 q.at'] : List Value).toArray 31)) = w6 at hG6 hE6 hT6 hF6 hx6 hb6
  have f0 := hG6.cell 0 _ rfl
  have f1 := hG6.cell 1 _ rfl
  have hl6 := hG6.lt
  clear hbl hE5 hT5 hF5 hx5 hb5
  by_cases h0 : q.err = 0
  · have h0c : (q.err != 0) = false := by simp [h0]
    have H0 := Lib.hid h0;have HG6 := Lib.hid hG6;have HE6 := Lib.hid hE6;have HT6 := Lib.hid hT6;have HF6 := Lib.hid hF6;have HX6 := Lib.hid hx6;have HB6 := Lib.hid hb6;clear h0 hG6 hE6 hT6 hF6 hx6 hb6
    go_upto_region 6 with fail
    have hG6 := HG6.out;have hE6 := HE6.out;have hT6 := HT6.out;have hF6 := HF6.out;have hx6 := HX6.out;have hb6 := HB6.out;clear f0 f1 h0c HG6 HE6 HT6 HF6 HX6 HB6;refine wp_region_held_drew (S := fun X => Blk X B 28 [.int .i64 e.kind,.int .i64 e.fn,.int .i64 e.op,.int .i64 e.num,.string e.metric,.slice pm e.mats.length cm,.int .i64 e.span,.slice pn e.names.length cn,.slice pk e.kids.length ck] ∧ Blk X w5.heap.size 31 [.int .i64 q.err,.int .i64 q.at']) (by kernel_rfl) ⟨hE6.drew,hG6.drew⟩ (fun hHeld => ?_);have hT7 := hT6.drew;have hF7 := hF6.drew;have hE7 := hE6.drew;have hG7 := hG6.drew;have hb7 := hb6.drew;have hx7 := hx6.below (Below.refl w6.heap.size w6).drew;generalize w6.drew = wd at hHeld hT7 hF7 hE7 hG7 hb7 hx7;clear hT6 hF6 hE6 hG6 hb6 hx6
    (refine htk 0 20 (.agg ([.int .i64 e.kind,.int .i64 e.fn,.int .i64 e.op,.int .i64 e.num,.string e.metric,.slice pm e.mats.length cm,.int .i64 e.span,.slice pn e.names.length cn,.slice pk e.kids.length ck] : List Value).toArray) rfl ?_ ?_;(intro w hSw;have x0 := hSw.1.cell 0 _ rfl;have x1 := hSw.1.cell 1 _ rfl;have x2 := hSw.1.cell 2 _ rfl;have x3 := hSw.1.cell 3 _ rfl;have x4 := hSw.1.cell 4 _ rfl;have x5 := hSw.1.cell 5 _ rfl;have x6 := hSw.1.cell 6 _ rfl;have x7 := hSw.1.cell 7 _ rfl;have x8 := hSw.1.cell 8 _ rfl;go_simp);simp only [lsz,lss])
    (refine htk 1 21 (.agg ([.int .i64 q.err,.int .i64 q.at'] : List Value).toArray) rfl ?_ ?_;(intro w hSw;have x0 := hSw.2.cell 0 _ rfl;have x1 := hSw.2.cell 1 _ rfl;go_simp);simp only [lsz,lss])
    refine held_store 2 rfl (by kernel_rfl) (by kernel_rfl) rfl 28 _ _ rfl w.heap.size [.int .i64 e.kind,.int .i64 e.fn,.int .i64 e.op,.int .i64 e.num,.string e.metric,.slice pm e.mats.length cm,.int .i64 e.span,.slice pn e.names.length cn,.slice pk e.kids.length ck] ZX 28 rfl rfl hT7 (by kernel_rfl) rfl (by kernel_rfl) ⟨(setRow_far _ _ _ (show B ≠ w.heap.size by omega)).trans hE7,(setRow_far _ _ _ (show w5.heap.size ≠ w.heap.size by omega)).trans hG7⟩ (fun hHeld => ?_);have hT8 : Blk (wd.setRow w.heap.size ([.int .i64 e.kind,.int .i64 e.fn,.int .i64 e.op,.int .i64 e.num,.string e.metric,.slice pm e.mats.length cm,.int .i64 e.span,.slice pn e.names.length cn,.slice pk e.kids.length ck] : List Value).toArray) w.heap.size 28 [.int .i64 e.kind,.int .i64 e.fn,.int .i64 e.op,.int .i64 e.num,.string e.metric,.slice pm e.mats.length cm,.int .i64 e.span,.slice pn e.names.length cn,.slice pk e.kids.length ck] := setRow_at hT7 _;have hF8 : Blk (wd.setRow w.heap.size ([.int .i64 e.kind,.int .i64 e.fn,.int .i64 e.op,.int .i64 e.num,.string e.metric,.slice pm e.mats.length cm,.int .i64 e.span,.slice pn e.names.length cn,.slice pk e.kids.length ck] : List Value).toArray) (w.heap.size + 1) 31 [.int .i64 0,.int .i64 0] := (setRow_far _ _ _ (show w.heap.size + 1 ≠ w.heap.size by omega)).trans hF7;have hb8 := below_setRow hb7 (Nat.le_refl _) ([.int .i64 e.kind,.int .i64 e.fn,.int .i64 e.op,.int .i64 e.num,.string e.metric,.slice pm e.mats.length cm,.int .i64 e.span,.slice pn e.names.length cn,.slice pk e.kids.length ck] : List Value).toArray;have hx8 := hx7.off (Off.row wd ([.int .i64 e.kind,.int .i64 e.fn,.int .i64 e.op,.int .i64 e.num,.string e.metric,.slice pm e.mats.length cm,.int .i64 e.span,.slice pn e.names.length cn,.slice pk e.kids.length ck] : List Value).toArray) (show ¬ (w.heap.size + 2 ≤ w.heap.size ∧ w.heap.size ≠ g) by omega);have hh8 := hHeld;generalize wd.setRow w.heap.size ([.int .i64 e.kind,.int .i64 e.fn,.int .i64 e.op,.int .i64 e.num,.string e.metric,.slice pm e.mats.length cm,.int .i64 e.span,.slice pn e.names.length cn,.slice pk e.kids.length ck] : List Value).toArray = we at hT8 hF8 hb8 hx8 hh8 hHeld;refine held_store 3 rfl (by kernel_rfl) (by kernel_rfl) rfl 31 _ _ rfl (w.heap.size + 1) [.int .i64 q.err,.int .i64 q.at'] [.int .i64 0,.int .i64 0] 31 rfl rfl hF8 (by kernel_rfl) rfl (by kernel_rfl) ⟨(setRow_far _ _ _ (show B ≠ w.heap.size + 1 by omega)).trans hh8.1,(setRow_far _ _ _ (show w5.heap.size ≠ w.heap.size + 1 by omega)).trans hh8.2⟩ (fun hHeld => ?_);refine wpAnyH_done (by kernel_rfl) ?_ _;go_wp2;refine bodyPost_agg2 (d := _) (d2 := _) rfl rfl ((setRow_far _ _ _ (show w.heap.size ≠ w.heap.size + 1 by omega)).trans hT8) Tryz.underlying28 rfl (by kernel_rfl) rfl (setRow_at hF8 _) Tryz.underlying31 rfl (by kernel_rfl) rfl ⟨below_setRow hb8 (by omega) _,Or.inl ⟨H0.out,_,by rw [H0.out],?_⟩⟩;exact (hx8.off (Off.row we _) (show ¬ (w.heap.size + 2 ≤ w.heap.size + 1 ∧ w.heap.size + 1 ≠ g) by omega)).ex
  · have h0c : (q.err != 0) = true := by simpa using h0
    have h0b : (q.err == 0) = false := by simpa using h0
    go_upto_region 5 with fail
    clear f0 f1 h0c h0b;refine wp_region_held_drew (S := fun X => Blk X w5.heap.size 31 [.int .i64 q.err,.int .i64 q.at']) (by kernel_rfl) hG6.drew (fun hHeld => ?_);have hT7 := hT6.drew;have hF7 := hF6.drew;have hG7 := hG6.drew;have hb7 := hb6.drew;generalize w6.drew = wd at hHeld hT7 hF7 hG7 hb7;clear hT6 hF6 hG6 hb6
    (refine htk 0 18 ?_ rfl ?_ ?_;rotate_left;(intro w hSw;clear hSw;go_simp);(try with_reducible rfl);simp only [lsz,lss])
    (refine htk 1 19 (.agg ([.int .i64 q.err,.int .i64 q.at'] : List Value).toArray) rfl ?_ ?_;(intro w hSw;have x0 := hSw.cell 0 _ rfl;have x1 := hSw.cell 1 _ rfl;go_simp);simp only [lsz,lss])
    refine held_store 2 rfl (by kernel_rfl) (by kernel_rfl) rfl 28 _ _ rfl w.heap.size ZX ZX 28 rfl rfl hT7 (by kernel_rfl) rfl (by kernel_rfl) ((setRow_far _ _ _ (show w5.heap.size ≠ w.heap.size by omega)).trans hG7) (fun hHeld => ?_);have hT8 : Blk (wd.setRow w.heap.size ZX.toArray) w.heap.size 28 ZX := setRow_at hT7 _;have hF8 : Blk (wd.setRow w.heap.size ZX.toArray) (w.heap.size + 1) 31 [.int .i64 0,.int .i64 0] := (setRow_far _ _ _ (show w.heap.size + 1 ≠ w.heap.size by omega)).trans hF7;have hb8 := below_setRow hb7 (Nat.le_refl _) ZX.toArray;have hh8 := hHeld;generalize wd.setRow w.heap.size ZX.toArray = we at hT8 hF8 hb8 hh8 hHeld;refine held_store 3 rfl (by kernel_rfl) (by kernel_rfl) rfl 31 _ _ rfl (w.heap.size + 1) [.int .i64 q.err,.int .i64 q.at'] [.int .i64 0,.int .i64 0] 31 rfl rfl hF8 (by kernel_rfl) rfl (by kernel_rfl) ((setRow_far _ _ _ (show w5.heap.size ≠ w.heap.size + 1 by omega)).trans hh8) (fun hHeld => ?_);refine wpAnyH_done (by kernel_rfl) ?_ _;go_wp2;exact bodyPost_agg2 (d := _) (d2 := _) rfl rfl ((setRow_far _ _ _ (show w.heap.size ≠ w.heap.size + 1 by omega)).trans hT8) Tryz.underlying28 rfl (by kernel_rfl) rfl (setRow_at hF8 _) Tryz.underlying31 rfl (by kernel_rfl) rfl ⟨below_setRow hb8 (by omega) _,Or.inr ⟨h0,rfl⟩⟩
theorem uMatch (s : ByteArray) (w : World) (hs : s.size ≤ maxLen) (ms : List Mat) (p4 : PS) (f : Nat) (hr : pMatch (LX s) f (M0 s) = some (ms,p4)) :
    Calls Tryz.prog 19 #[.string s] w (MtR ms (p4.done (LX s) (checkMats ms)) w) := by
  have HB := Lib.hid (fun (X : World) => pBegin s X (rAll s X hs))
  have HI := Lib.hid (fun (g : Nat) (pt : Option Addr) (cap : Nat) (X : World) (hX : PA g pt cap (LX s) (PX s) X) => pIs g pt cap (LX s) (PX s) X hX (pw_begin s) [123])
  have HFl := Lib.hid (fun (g : Nat) (pt : Option Addr) (cap : Nat) (X : World) (hX : PA g pt cap (LX s) (PX s) X) => pFail g pt cap (LX s) (PX s) X hX 14 ((PX s).tok (LX s)).pos)
  have hw0 : PW (LX s) (M0 s) := by unfold M0;split;exact pw_begin s;exact (pw_begin s).fail _ _
  have HM := Lib.hid (fun (g : Nat) (pt : Option Addr) (cap : Nat) (X : World) (hX : PA g pt cap (LX s) (M0 s) X) => pMatchC g pt cap (LX s) f (M0 s) ms p4 hr X hX hw0)
  obtain ⟨hw4,hsm,-⟩ := pMatch_keep hr hw0
  have Hsm := Lib.hid hsm
  have HC := Lib.hid (fun (X : World) (v : Value) (hX : IsMats X.heap.size X v ms) => rCheckMatch ms v _ X hX)
  have HN := Lib.hid (fun (g : Nat) (pt : Option Addr) (cap : Nat) (X : World) (hX : PA g pt cap (LX s) p4 X) => pEnd g pt cap (LX s) p4 X hX hw4 (checkMats ms))
  generalize p4.done (LX s) (checkMats ms) = q at HN ⊢
  generalize checkMats ms = c at HC HN
  have hi := (pw_begin s).at'
  have hlen := (pw_begin s).len
  have HX0 : Hid ((PX s).i < (LX s).length) := Lib.hid hi
  clear hr hs hw4 hsm hw0
  cases hT : (PX s).isT (LX s) [123] with
  | true =>
    have hM : M0 s = PX s := by unfold M0;rw [hT];rfl
    rw [hM] at HM;rw [hT] at HI;clear hM hT
    go_enter Tryz.func19,Tryz.ntmps19;(try simp only [List.append_eq,List.cons_append,List.nil_append])
    go_wp2_with fail
    have hF := Blk.new w [.int .i64 0,.int .i64 0] 31;have hb0 : Below w.heap.size w (w.alloc (.cells ([.int .i64 0,.int .i64 0] : List Value).toArray 31)) := (Below.refl _ _).alloc (Nat.le_refl _) _;have hz0 : (w.alloc (.cells ([.int .i64 0,.int .i64 0] : List Value).toArray 31)).heap.size = w.heap.size + 1 := by simp
    refine (HB.out _).mono ?_;rintro e' w0 ⟨g,pt,cap,rfl,hg,hP0,hb⟩;rw [hz0] at hg;have hF0 := hF.keep hb;have hbz := hb0.trans (hb.mono hb0.size);clear hF hb0 hb hz0
    go_wp2_with fail
    refine (HI.out _ _ _ _ hP0).mono ?_;rintro e' w1 ⟨rfl,hP1,ho1⟩;have hF1 := ho1.blkX hF0 (show w.heap.size ≠ g by omega);have hb1 := Off.belowW hbz ho1 (by omega);clear hF0 hbz hP0 ho1
    go_wp2_with fail
    refine (HM.out _ _ _ _ hP1).mono ?_;rintro e' w2 ⟨v,rfl,hown,hP2,ho2⟩;have hF2 := ho2.blkX hF1 (show w.heap.size ≠ g by omega);have hb2 := Off.belowW hb1 ho2 (by omega);have hz2 := ho2.size;have hg1 := hP1.1.lt;have hms2 := (hown.matsS Hsm.out).go (S' := fun k => w.heap.size + 1 ≤ k ∧ k ≠ g) (Nat.le_refl _) (fun k _ h => by have h : w1.heap.size ≤ k := h;exact ⟨by omega,by omega⟩) (fun _ _ _ => rfl);obtain ⟨A,mc,rfl⟩ := ownMt_slice hown;clear hF1 hb1 hP1 ho2 hown
    go_wp2_with fail
    refine (HC.out _ _ hms2.mats').mono ?_;rintro e' w4 ⟨rfl,rfl⟩
    go_wp2_with fail
    refine (HN.out _ _ _ _ hP2).mono ?_;rintro e' w5 ⟨rfl,hP5,ho5⟩;have hF5 := ho5.blkX hF2 (show w.heap.size ≠ g by omega);have hms5 := hms2.off ho5 (fun h => h.2 rfl);have hb5 := Off.belowW hb2 ho5 (by omega);have hlF := hF5.lt;clear hF2 hP2 hms2 hb2 ho5 hP5
    go_upto_region 6 with fail
    have hbl : Below w5.heap.size w5 (w5.alloc (.cells ([.int .i64 q.err,.int .i64 q.at'] : List Value).toArray 31)) := (Below.refl _ _).alloc (Nat.le_refl _) _;have hG6 := Blk.new w5 [.int .i64 q.err,.int .i64 q.at'] 31;have hF6 := hF5.keep hbl;have hms6 := hms5.go hbl.size (fun _ _ h => h) (fun b hb' _ => hbl.block b hb');have hb6 := hb5.trans (hbl.mono hb5.size);generalize (w5.alloc (.cells ([.int .i64 q.err,.int .i64 q.at'] : List Value).toArray 31)) = w6 at hG6 hF6 hms6 hb6;have f0 := hG6.cell 0 _ rfl;have f1 := hG6.cell 1 _ rfl;have hl6 := hG6.lt;clear hbl hF5 hms5 hb5
    by_cases h0 : q.err = 0
    · have h0c : (q.err != 0) = false := by simp [h0]
      have H0 := Lib.hid h0;have HG6 := Lib.hid hG6;have HF6 := Lib.hid hF6;have HM6 := Lib.hid hms6;have HB6 := Lib.hid hb6;clear h0 hG6 hF6 hms6 hb6
      go_upto_region 8 with fail
      have hG6 := HG6.out;have hF6 := HF6.out;have hms6 := HM6.out;have hb6 := HB6.out;clear f0 f1 h0c HG6 HF6 HM6 HB6;refine wp_region_held_drew (S := fun X => Blk X w5.heap.size 31 [.int .i64 q.err,.int .i64 q.at']) (by kernel_rfl) hG6.drew (fun hHeld => ?_);have hF7 := hF6.drew;have hG7 := hG6.drew;have hb7 := hb6.drew;have hms7 := hms6.go (w' := w6.drew) (Nat.le_refl _) (fun _ _ h => h) (fun _ _ _ => rfl);generalize w6.drew = wd at hHeld hF7 hG7 hb7 hms7;clear hF6 hG6 hb6 hms6
      (refine htk 0 35 ?_ rfl ?_ ?_;rotate_left;(intro w hSw;clear hSw;go_simp);(try with_reducible rfl);simp only [lsz,lss])
      (refine htk 1 36 (.agg ([.int .i64 q.err,.int .i64 q.at'] : List Value).toArray) rfl ?_ ?_;(intro w hSw;have x0 := hSw.cell 0 _ rfl;have x1 := hSw.cell 1 _ rfl;go_simp);simp only [lsz,lss])
      (refine htk 2 2 ?_ rfl ?_ ?_;rotate_left;(intro w hSw;clear hSw;go_simp);(try with_reducible rfl);simp only [lsz,lss])
      refine held_store 3 rfl (by kernel_rfl) (by kernel_rfl) rfl 31 _ _ rfl w.heap.size [.int .i64 q.err,.int .i64 q.at'] [.int .i64 0,.int .i64 0] 31 rfl rfl hF7 (by kernel_rfl) rfl (by kernel_rfl) ((setRow_far _ _ _ (show w5.heap.size ≠ w.heap.size by omega)).trans hG7) (fun hHeld => ?_);refine wpAnyH_done (by kernel_rfl) ?_ _;go_wp2;refine bodyPost_tmp_agg (d := _) rfl rfl (setRow_at hF7 _) Tryz.underlying31 rfl (by kernel_rfl) rfl ⟨below_setRow hb7 (Nat.le_refl _) _,Or.inl ⟨H0.out,.slice A ms.length mc,by rw [H0.out];rfl,?_⟩⟩;exact (hms7.off (Off.row wd _) (show ¬ (w.heap.size + 1 ≤ w.heap.size ∧ w.heap.size ≠ g) by omega)).mats'
    · have h0c : (q.err != 0) = true := by simpa using h0
      have h0b : (q.err == 0) = false := by simpa using h0
      go_upto_region 7 with fail
      clear f0 f1 h0c h0b;refine wp_region_held_drew (S := fun X => Blk X w5.heap.size 31 [.int .i64 q.err,.int .i64 q.at']) (by kernel_rfl) hG6.drew (fun hHeld => ?_);have hF7 := hF6.drew;have hG7 := hG6.drew;have hb7 := hb6.drew;generalize w6.drew = wd at hHeld hF7 hG7 hb7;clear hF6 hG6 hb6
      (refine htk 0 34 (.agg ([.int .i64 q.err,.int .i64 q.at'] : List Value).toArray) rfl ?_ ?_;(intro w hSw;have x0 := hSw.cell 0 _ rfl;have x1 := hSw.cell 1 _ rfl;go_simp);simp only [lsz,lss])
      (refine htk 1 2 ?_ rfl ?_ ?_;rotate_left;(intro w hSw;clear hSw;go_simp);(try with_reducible rfl);simp only [lsz,lss])
      refine held_store 2 rfl (by kernel_rfl) (by kernel_rfl) rfl 31 _ _ rfl w.heap.size [.int .i64 q.err,.int .i64 q.at'] [.int .i64 0,.int .i64 0] 31 rfl rfl hF7 (by kernel_rfl) rfl (by kernel_rfl) ((setRow_far _ _ _ (show w5.heap.size ≠ w.heap.size by omega)).trans hG7) (fun hHeld => ?_);refine wpAnyH_done (by kernel_rfl) ?_ _;go_wp2;exact bodyPost_tmp_agg (d := _) rfl rfl (setRow_at hF7 _) Tryz.underlying31 rfl (by kernel_rfl) rfl ⟨below_setRow hb7 (Nat.le_refl _) _,Or.inr ⟨h0,rfl⟩⟩
  | false =>
    have hM : M0 s = (PX s).fail 14 ((PX s).tok (LX s)).pos := by unfold M0;rw [hT];rfl
    rw [← hM] at HFl;rw [hT] at HI;clear hM hT;generalize M0 s = m0 at HM HFl
    go_enter Tryz.func19,Tryz.ntmps19;(try simp only [List.append_eq,List.cons_append,List.nil_append])
    go_wp2_with fail
    have hF := Blk.new w [.int .i64 0,.int .i64 0] 31;have hb0 : Below w.heap.size w (w.alloc (.cells ([.int .i64 0,.int .i64 0] : List Value).toArray 31)) := (Below.refl _ _).alloc (Nat.le_refl _) _;have hz0 : (w.alloc (.cells ([.int .i64 0,.int .i64 0] : List Value).toArray 31)).heap.size = w.heap.size + 1 := by simp
    refine (HB.out _).mono ?_;rintro e' w0 ⟨g,pt,cap,rfl,hg,hP0,hb⟩;rw [hz0] at hg;have hF0 := hF.keep hb;have hbz := hb0.trans (hb.mono hb0.size);clear hF hb0 hb hz0
    go_wp2_with fail
    refine (HI.out _ _ _ _ hP0).mono ?_;rintro e' wi ⟨rfl,hPi,hoi⟩;have hFi := hoi.blkX hF0 (show w.heap.size ≠ g by omega);have hbi := Off.belowW hbz hoi (by omega);clear hF0 hbz hP0 hoi;obtain ⟨bb,off,rfl,hbg,e0,e1,e2,e3⟩ := hPi.now HX0.out;have hgi := hPi.1.lt;have hbw : bb < wi.heap.size := Nat.lt_trans hbg hgi;have hBi := hPi.1;unfold PC at hBi;have c0 := hBi.cell 0 _ rfl;have c1 := hBi.cell 1 _ rfl;have c2 := hBi.cell 2 _ rfl;have c3 := hBi.cell 3 _ rfl;have c4 := hBi.cell 4 _ rfl;have HPi := Lib.hid hPi;have HFi := Lib.hid hFi;have Hbi := Lib.hid hbi;clear hBi hPi hFi hbi
    go_wp2_with fail
    go_still_tail 12,(by kernel_rfl)
    change wpList _ _ _ _ _ wi.drew
    have hbd : Below wi.heap.size wi wi.drew := (Below.refl _ _).drew;have hPd := HPi.out.keep hbd;have hFd := HFi.out.keep hbd;have hbd2 := Hbi.out.drew;generalize wi.drew = wd at hbd hPd hFd hbd2
    go_wp2_with fail
    refine (HFl.out _ _ _ _ hPd).mono ?_;rintro e' w1 ⟨rfl,hP1,ho1⟩;have hF1 := ho1.blkX hFd (show w.heap.size ≠ g by omega);have hb1 := Off.belowW hbd2 ho1 (by omega);clear hPd hFd hbd2 hbd ho1 c0 c1 c2 c3 c4 e0 e1 e2 e3 HPi HFi Hbi
    go_wp2_with fail
    refine (HM.out _ _ _ _ hP1).mono ?_;rintro e' w2 ⟨v,rfl,hown,hP2,ho2⟩;have hF2 := ho2.blkX hF1 (show w.heap.size ≠ g by omega);have hb2 := Off.belowW hb1 ho2 (by omega);have hz2 := ho2.size;have hg1 := hP1.1.lt;have hms2 := (hown.matsS Hsm.out).go (S' := fun k => w.heap.size + 1 ≤ k ∧ k ≠ g) (Nat.le_refl _) (fun k _ h => by have h : w1.heap.size ≤ k := h;exact ⟨by omega,by omega⟩) (fun _ _ _ => rfl);obtain ⟨A,mc,rfl⟩ := ownMt_slice hown;clear hF1 hb1 hP1 ho2 hown
    go_wp2_with fail
    refine (HC.out _ _ hms2.mats').mono ?_;rintro e' w4 ⟨rfl,rfl⟩
    go_wp2_with fail
    refine (HN.out _ _ _ _ hP2).mono ?_;rintro e' w5 ⟨rfl,hP5,ho5⟩;have hF5 := ho5.blkX hF2 (show w.heap.size ≠ g by omega);have hms5 := hms2.off ho5 (fun h => h.2 rfl);have hb5 := Off.belowW hb2 ho5 (by omega);have hlF := hF5.lt;clear hF2 hP2 hms2 hb2 ho5 hP5
    go_upto_region 6 with fail
    have hbl : Below w5.heap.size w5 (w5.alloc (.cells ([.int .i64 q.err,.int .i64 q.at'] : List Value).toArray 31)) := (Below.refl _ _).alloc (Nat.le_refl _) _;have hG6 := Blk.new w5 [.int .i64 q.err,.int .i64 q.at'] 31;have hF6 := hF5.keep hbl;have hms6 := hms5.go hbl.size (fun _ _ h => h) (fun b hb' _ => hbl.block b hb');have hb6 := hb5.trans (hbl.mono hb5.size);generalize (w5.alloc (.cells ([.int .i64 q.err,.int .i64 q.at'] : List Value).toArray 31)) = w6 at hG6 hF6 hms6 hb6;have f0 := hG6.cell 0 _ rfl;have f1 := hG6.cell 1 _ rfl;have hl6 := hG6.lt;clear hbl hF5 hms5 hb5
    by_cases h0 : q.err = 0
    · have h0c : (q.err != 0) = false := by simp [h0]
      have H0 := Lib.hid h0;have HG6 := Lib.hid hG6;have HF6 := Lib.hid hF6;have HM6 := Lib.hid hms6;have HB6 := Lib.hid hb6;clear h0 hG6 hF6 hms6 hb6
      go_upto_region 8 with fail
      have hG6 := HG6.out;have hF6 := HF6.out;have hms6 := HM6.out;have hb6 := HB6.out;clear f0 f1 h0c HG6 HF6 HM6 HB6;refine wp_region_held_drew (S := fun X => Blk X w5.heap.size 31 [.int .i64 q.err,.int .i64 q.at']) (by kernel_rfl) hG6.drew (fun hHeld => ?_);have hF7 := hF6.drew;have hG7 := hG6.drew;have hb7 := hb6.drew;have hms7 := hms6.go (w' := w6.drew) (Nat.le_refl _) (fun _ _ h => h) (fun _ _ _ => rfl);generalize w6.drew = wd at hHeld hF7 hG7 hb7 hms7;clear hF6 hG6 hb6 hms6
      (refine htk 0 35 ?_ rfl ?_ ?_;rotate_left;(intro w hSw;clear hSw;go_simp);(try with_reducible rfl);simp only [lsz,lss])
      (refine htk 1 36 (.agg ([.int .i64 q.err,.int .i64 q.at'] : List Value).toArray) rfl ?_ ?_;(intro w hSw;have x0 := hSw.cell 0 _ rfl;have x1 := hSw.cell 1 _ rfl;go_simp);simp only [lsz,lss])
      (refine htk 2 2 ?_ rfl ?_ ?_;rotate_left;(intro w hSw;clear hSw;go_simp);(try with_reducible rfl);simp only [lsz,lss])
      refine held_store 3 rfl (by kernel_rfl) (by kernel_rfl) rfl 31 _ _ rfl w.heap.size [.int .i64 q.err,.int .i64 q.at'] [.int .i64 0,.int .i64 0] 31 rfl rfl hF7 (by kernel_rfl) rfl (by kernel_rfl) ((setRow_far _ _ _ (show w5.heap.size ≠ w.heap.size by omega)).trans hG7) (fun hHeld => ?_);refine wpAnyH_done (by kernel_rfl) ?_ _;go_wp2;refine bodyPost_tmp_agg (d := _) rfl rfl (setRow_at hF7 _) Tryz.underlying31 rfl (by kernel_rfl) rfl ⟨below_setRow hb7 (Nat.le_refl _) _,Or.inl ⟨H0.out,.slice A ms.length mc,by rw [H0.out];rfl,?_⟩⟩;exact (hms7.off (Off.row wd _) (show ¬ (w.heap.size + 1 ≤ w.heap.size ∧ w.heap.size ≠ g) by omega)).mats'
    · have h0c : (q.err != 0) = true := by simpa using h0
      have h0b : (q.err == 0) = false := by simpa using h0
      go_upto_region 7 with fail
      clear f0 f1 h0c h0b;refine wp_region_held_drew (S := fun X => Blk X w5.heap.size 31 [.int .i64 q.err,.int .i64 q.at']) (by kernel_rfl) hG6.drew (fun hHeld => ?_);have hF7 := hF6.drew;have hG7 := hG6.drew;have hb7 := hb6.drew;generalize w6.drew = wd at hHeld hF7 hG7 hb7;clear hF6 hG6 hb6
      (refine htk 0 34 (.agg ([.int .i64 q.err,.int .i64 q.at'] : List Value).toArray) rfl ?_ ?_;(intro w hSw;have x0 := hSw.cell 0 _ rfl;have x1 := hSw.cell 1 _ rfl;go_simp);simp only [lsz,lss])
      (refine htk 1 2 ?_ rfl ?_ ?_;rotate_left;(intro w hSw;clear hSw;go_simp);(try with_reducible rfl);simp only [lsz,lss])
      refine held_store 2 rfl (by kernel_rfl) (by kernel_rfl) rfl 31 _ _ rfl w.heap.size [.int .i64 q.err,.int .i64 q.at'] [.int .i64 0,.int .i64 0] 31 rfl rfl hF7 (by kernel_rfl) rfl (by kernel_rfl) ((setRow_far _ _ _ (show w5.heap.size ≠ w.heap.size by omega)).trans hG7) (fun hHeld => ?_);refine wpAnyH_done (by kernel_rfl) ?_ _;go_wp2;exact bodyPost_tmp_agg (d := _) rfl rfl (setRow_at hF7 _) Tryz.underlying31 rfl (by kernel_rfl) rfl ⟨below_setRow hb7 (Nat.le_refl _) _,Or.inr ⟨h0,rfl⟩⟩
def QRes (ev : Int) (x : Ex) (fe fa : Int) (w : World) (e' : Ending) (w' : World) : Prop := ∃ cs,e' = .returned (.tuple #[.agg (.int .i64 ev :: cs).toArray,.agg #[.int .i64 fe,.int .i64 fa]]) ∧ IsEx w'.heap.size w' x cs ∧ Below w.heap.size w w'
def ERes (x : Ex) (fe fa : Int) (w : World) (e' : Ending) (w' : World) : Prop := ∃ cs,e' = .returned (.tuple #[.agg cs.toArray,.agg #[.int .i64 fe,.int .i64 fa]]) ∧ IsEx w'.heap.size w' x cs ∧ Below w.heap.size w w'
def MRes (l : List Mat) (fe fa : Int) (w : World) (e' : Ending) (w' : World) : Prop := ∃ v,e' = .returned (.tuple #[v,.agg #[.int .i64 fe,.int .i64 fa]]) ∧ IsMats w'.heap.size w' v l ∧ Below w.heap.size w w'
theorem noEx_is (w : World) : IsEx w.heap.size w noEx ZX := (noExS (fun _ => True) w).ex
theorem QryR.res {s : ByteArray} {e : Ex} {q : PS} {w : World} {e' : Ending} {w' : World} (h : QryR s e q w e' w') : QRes (if q.err = 0 then EV s else 0) (if q.err = 0 then e else noEx) q.err q.at' w e' w' := by
  obtain ⟨hb,⟨h0,cs,rfl,hx⟩ | ⟨h0,rfl⟩⟩ := h
  · rw [if_pos h0,if_pos h0,h0];exact ⟨cs,rfl,hx,hb⟩
  · rw [if_neg h0,if_neg h0];exact ⟨ZX,rfl,noEx_is w',hb⟩
theorem ExprR.res {e : Ex} {q : PS} {w : World} {e' : Ending} {w' : World} (h : ExprR e q w e' w') : ERes (if q.err = 0 then e else noEx) q.err q.at' w e' w' := by
  obtain ⟨hb,⟨h0,cs,rfl,hx⟩ | ⟨h0,rfl⟩⟩ := h
  · rw [if_pos h0,h0];exact ⟨cs,rfl,hx,hb⟩
  · rw [if_neg h0];exact ⟨ZX,rfl,noEx_is w',hb⟩
theorem MtR.res {ms : List Mat} {q : PS} {w : World} {e' : Ending} {w' : World} (h : MtR ms q w e' w') : MRes (if q.err = 0 then ms else []) q.err q.at' w e' w' := by
  obtain ⟨hb,⟨h0,v,rfl,hx⟩ | ⟨h0,rfl⟩⟩ := h
  · rw [if_pos h0,h0];exact ⟨v,rfl,hx,hb⟩
  · rw [if_neg h0];exact ⟨_,rfl,(noMatsS (fun _ => True) w').mats',hb⟩
theorem rdQuery2 (s : ByteArray) (w : World) (hs : s.size ≤ maxLen) {f : Nat} {e : Ex} {p4 : PS} (hr : pExpr (LX s) f (P3 s) = some (e,p4)) :
    Calls Tryz.prog 16 #[.string s] w (QryR s e (p4.done (LX s) (checkQuery (EV s) e)) w) :=
  pQuery s w (fun w => rAll s w hs) e p4 f hr (fun cs W he => rCheck (EV s) e cs W.heap.size W (Nat.le_refl _) he (by have := expr_size hr (pw3 s);omega))
theorem any_read2 (s : ByteArray) : ∃ f e p4,pExpr (LX s) f (P3 s) = some (e,p4) := by
  obtain ⟨⟨e,p4⟩,F,h⟩ := expr_ev (LX s) (P3 s) (pw3 s)
  exact ⟨F,e,p4,h F (Nat.le_refl _)⟩
theorem qBoth (s : ByteArray) (hs : s.size ≤ maxLen) : ∃ ev x fe fa,(∀ X,Calls Tryz.prog 13 #[.string s] X (QRes ev x fe fa X)) ∧ (∀ X,Calls Tryz.prog 16 #[.string s] X (QRes ev x fe fa X)) ∧ (-9223372036854775808 ≤ ev ∧ ev ≤ 9223372036854775807) := by
  obtain ⟨f,e,p4,hr⟩ := any_read2 s
  refine ⟨_,_,_,_,fun X => (tQuery s X hs e p4 f hr).mono fun _ _ h => h.res,fun X => (rdQuery2 s X hs hr).mono fun _ _ h => h.res,?_⟩
  split
  · exact tok_num' (pw1 s) 2
  · decide
theorem eBoth (s : ByteArray) (hs : s.size ≤ maxLen) : ∃ x fe fa,(∀ X,Calls Tryz.prog 7 #[.string s] X (ERes x fe fa X)) ∧ (∀ X,Calls Tryz.prog 17 #[.string s] X (ERes x fe fa X)) := by
  obtain ⟨⟨e,p4⟩,F,h⟩ := expr_ev (LX s) (PX s) (pw_begin s)
  have hr := h F (Nat.le_refl _)
  exact ⟨_,_,_,fun X => (tExpr s X hs e p4 F hr).mono fun _ _ h => h.res,fun X => (uExpr s X hs e p4 F hr).mono fun _ _ h => h.res⟩
theorem mBoth (s : ByteArray) (hs : s.size ≤ maxLen) : ∃ l fe fa,(∀ X,Calls Tryz.prog 18 #[.string s] X (MRes l fe fa X)) ∧ (∀ X,Calls Tryz.prog 19 #[.string s] X (MRes l fe fa X)) := by
  have hw : PW (LX s) (M0 s) := by unfold M0;split;exact pw_begin s;exact (pw_begin s).fail _ _
  obtain ⟨⟨ms,p4⟩,F,h⟩ := pMatch_ev (LX s) (M0 s) hw
  have hr := h F (Nat.le_refl _)
  exact ⟨_,_,_,fun X => (tMatch s X hs ms p4 F hr).mono fun _ _ h => h.res,fun X => (uMatch s X hs ms p4 F hr).mono fun _ _ h => h.res⟩
end Go.Proofs.YtpmbamfpmmdhcaaGreat
