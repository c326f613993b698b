/- ParseCalls: the walk. -/
import Derived.Test.YtpmbamfpmmdhcaaGreatK41
set_option maxRecDepth 100000
set_option maxHeartbeats 16000000
namespace Go.Proofs.YtpmbamfpmmdhcaaGreat
open Go.RowKit
set_option linter.unusedSimpArgs false
set_option linter.unusedVariables false
theorem funcV_is (o : Option (Int × Int)) : ∃ a b c,funcV o = .tuple #[.int .i64 a,.int .i64 b,.bool c] := by
  cases o with
  | none => exact ⟨_,_,_,rfl⟩
  | some r => exact ⟨_,_,_,rfl⟩
theorem one_at (w : World) (cs : List Value) (t : Nat) : Blk (w.alloc (.cells cs.toArray t)) w.heap.size t cs := Blk.new w cs t
theorem xCalls (s : ByteArray) (w : World) (hs : s.size ≤ maxLen) : Calls Tryz.prog 5 #[.string s] w fun e' w' => e' = .returned (.bool true) ∧ Below w.heap.size w w' := by
  obtain ⟨ev,x,fe,fa,hq1,hq2,hev⟩ := qBoth s hs
  obtain ⟨y,ge,ga,he1,he2⟩ := eBoth s hs
  obtain ⟨l,ke,ka,hm1,hm2⟩ := mBoth s hs
  obtain ⟨c1,c2,c3,hc⟩ := funcV_is (funcOf s.data.toList)
  have H13 := Lib.hid hq1
  have H16 := Lib.hid hq2
  have H7 := Lib.hid he1
  have H17 := Lib.hid he2
  have H18 := Lib.hid hm1
  have H19 := Lib.hid hm2
  have H20 := Lib.hid (fun X => qFunc s X)
  have H21 := Lib.hid (fun X => pFunc s X)
  rw [hc] at H20 H21
  clear hq1 hq2 he1 he2 hm1 hm2 hc hev
  go_enter Tryz.func5,Tryz.ntmps5;(try simp only [List.append_eq,List.cons_append,List.nil_append])
  go_wp2_with fail
  refine (xLives _).mono ?_
  rintro e' w0 ⟨rfl,hb0⟩
  have HB := Lib.hid hb0;clear hb0
  have hlen : s.size ≤ maxLen := hs
  unfold maxLen at hlen
  go_upto_region 3 with fail
  by_cases h1 : 2000 < s.size ∧ s.size ≤ 16384
  · have h2 : (2000 : Int) < (s.size : Int) := by omega
    have h3 : (s.size : Int) ≤ 16384 := by omega
    go_wp2;go_ret;exact ⟨rfl,HB.out⟩
  have h4 : ¬ (2000 : Int) < (s.size : Int) ∨ ((2000 : Int) < (s.size : Int) ∧ ¬ (s.size : Int) ≤ 16384) := by omega
  clear h1
  rcases h4 with h1 | ⟨h1,h2⟩
  all_goals (
    go_wp2_with fail
    refine (H13.out _).mono ?_;rintro e' w1 ⟨cs,rfl,hx,hb⟩;have HB := Lib.hid (HB.out.trans (hb.mono HB.out.size));clear hb H13;obtain ⟨pm1,cm1,pn1,cn1,pk1,ck1,rfl,-⟩ := hx.cellsE;have X1 := Lib.hid hx;clear hx
    go_upto_region 6 with fail
    obtain ⟨y1,hW⟩ : ∃ z,(w1.alloc (.cells #[.int .i64 ev,.int .i64 x.kind,.int .i64 x.fn,.int .i64 x.op,.int .i64 x.num,.string x.metric,.slice pm1 x.mats.length cm1,.int .i64 x.span,.slice pn1 x.names.length cn1,.slice pk1 x.kids.length ck1] 42)).alloc (.cells #[.int .i64 fe,.int .i64 fa] 31) = z := ⟨_,rfl⟩;have kb : Below w1.heap.size w1 y1 := by rw [← hW];exact two_below w1 _ _
    have B1 : Blk y1 w1.heap.size 42 [.int .i64 ev,.int .i64 x.kind,.int .i64 x.fn,.int .i64 x.op,.int .i64 x.num,.string x.metric,.slice pm1 x.mats.length cm1,.int .i64 x.span,.slice pn1 x.names.length cn1,.slice pk1 x.kids.length ck1] := by rw [← hW];exact two_at w1 [.int .i64 ev,.int .i64 x.kind,.int .i64 x.fn,.int .i64 x.op,.int .i64 x.num,.string x.metric,.slice pm1 x.mats.length cm1,.int .i64 x.span,.slice pn1 x.names.length cn1,.slice pk1 x.kids.length ck1] [.int .i64 fe,.int .i64 fa] _ _
    have F1 : Blk y1 (w1.heap.size + 1) 31 [.int .i64 fe,.int .i64 fa] := by rw [← hW];exact two_at' w1 _ [.int .i64 fe,.int .i64 fa] _
    rw [hW];clear hW;have X1 := Lib.hid (X1.out.mono kb kb.size);have HB := Lib.hid (HB.out.trans (kb.mono HB.out.size));clear kb;have B1 := Lib.hid B1;have F1 := Lib.hid F1
    go_wp2_with fail
    refine (H16.out _).mono ?_;rintro e' w2 ⟨cs,rfl,hx,hb⟩;have X1 := Lib.hid (X1.out.mono hb hb.size);have B1 := Lib.hid (B1.out.keep hb);have F1 := Lib.hid (F1.out.keep hb);have HB := Lib.hid (HB.out.trans (hb.mono HB.out.size));clear hb H16;obtain ⟨pm2,cm2,pn2,cn2,pk2,ck2,rfl,-⟩ := hx.cellsE;have X2 := Lib.hid hx;clear hx
    go_upto_region 7 with fail
    obtain ⟨y2,hW⟩ : ∃ z,(w2.alloc (.cells #[.int .i64 ev,.int .i64 x.kind,.int .i64 x.fn,.int .i64 x.op,.int .i64 x.num,.string x.metric,.slice pm2 x.mats.length cm2,.int .i64 x.span,.slice pn2 x.names.length cn2,.slice pk2 x.kids.length ck2] 42)).alloc (.cells #[.int .i64 fe,.int .i64 fa] 31) = z := ⟨_,rfl⟩;have kb : Below w2.heap.size w2 y2 := by rw [← hW];exact two_below w2 _ _
    have B2 : Blk y2 w2.heap.size 42 [.int .i64 ev,.int .i64 x.kind,.int .i64 x.fn,.int .i64 x.op,.int .i64 x.num,.string x.metric,.slice pm2 x.mats.length cm2,.int .i64 x.span,.slice pn2 x.names.length cn2,.slice pk2 x.kids.length ck2] := by rw [← hW];exact two_at w2 [.int .i64 ev,.int .i64 x.kind,.int .i64 x.fn,.int .i64 x.op,.int .i64 x.num,.string x.metric,.slice pm2 x.mats.length cm2,.int .i64 x.span,.slice pn2 x.names.length cn2,.slice pk2 x.kids.length ck2] [.int .i64 fe,.int .i64 fa] _ _
    have F2 : Blk y2 (w2.heap.size + 1) 31 [.int .i64 fe,.int .i64 fa] := by rw [← hW];exact two_at' w2 _ [.int .i64 fe,.int .i64 fa] _
    rw [hW];clear hW;have X1 := Lib.hid (X1.out.mono kb kb.size);have B1 := Lib.hid (B1.out.keep kb);have F1 := Lib.hid (F1.out.keep kb);have X2 := Lib.hid (X2.out.mono kb kb.size);have HB := Lib.hid (HB.out.trans (kb.mono HB.out.size));clear kb;have B2 := Lib.hid B2;have F2 := Lib.hid F2
    go_wp2_with fail
    refine (H7.out _).mono ?_;rintro e' w3 ⟨cs,rfl,hx,hb⟩;have X1 := Lib.hid (X1.out.mono hb hb.size);have B1 := Lib.hid (B1.out.keep hb);have F1 := Lib.hid (F1.out.keep hb);have X2 := Lib.hid (X2.out.mono hb hb.size);have B2 := Lib.hid (B2.out.keep hb);have F2 := Lib.hid (F2.out.keep hb);have HB := Lib.hid (HB.out.trans (hb.mono HB.out.size));clear hb H7;obtain ⟨pm3,cm3,pn3,cn3,pk3,ck3,rfl,-⟩ := hx.cellsE;have X3 := Lib.hid hx;clear hx
    go_upto_region 8 with fail
    obtain ⟨y3,hW⟩ : ∃ z,(w3.alloc (.cells #[.int .i64 y.kind,.int .i64 y.fn,.int .i64 y.op,.int .i64 y.num,.string y.metric,.slice pm3 y.mats.length cm3,.int .i64 y.span,.slice pn3 y.names.length cn3,.slice pk3 y.kids.length ck3] 28)).alloc (.cells #[.int .i64 ge,.int .i64 ga] 31) = z := ⟨_,rfl⟩;have kb : Below w3.heap.size w3 y3 := by rw [← hW];exact two_below w3 _ _
    have B3 : Blk y3 w3.heap.size 28 [.int .i64 y.kind,.int .i64 y.fn,.int .i64 y.op,.int .i64 y.num,.string y.metric,.slice pm3 y.mats.length cm3,.int .i64 y.span,.slice pn3 y.names.length cn3,.slice pk3 y.kids.length ck3] := by rw [← hW];exact two_at w3 [.int .i64 y.kind,.int .i64 y.fn,.int .i64 y.op,.int .i64 y.num,.string y.metric,.slice pm3 y.mats.length cm3,.int .i64 y.span,.slice pn3 y.names.length cn3,.slice pk3 y.kids.length ck3] [.int .i64 ge,.int .i64 ga] _ _
    have F3 : Blk y3 (w3.heap.size + 1) 31 [.int .i64 ge,.int .i64 ga] := by rw [← hW];exact two_at' w3 _ [.int .i64 ge,.int .i64 ga] _
    rw [hW];clear hW;have X1 := Lib.hid (X1.out.mono kb kb.size);have B1 := Lib.hid (B1.out.keep kb);have F1 := Lib.hid (F1.out.keep kb);have X2 := Lib.hid (X2.out.mono kb kb.size);have B2 := Lib.hid (B2.out.keep kb);have F2 := Lib.hid (F2.out.keep kb);have X3 := Lib.hid (X3.out.mono kb kb.size);have HB := Lib.hid (HB.out.trans (kb.mono HB.out.size));clear kb;have B3 := Lib.hid B3;have F3 := Lib.hid F3
    go_wp2_with fail
    refine (H17.out _).mono ?_;rintro e' w4 ⟨cs,rfl,hx,hb⟩;have X1 := Lib.hid (X1.out.mono hb hb.size);have B1 := Lib.hid (B1.out.keep hb);have F1 := Lib.hid (F1.out.keep hb);have X2 := Lib.hid (X2.out.mono hb hb.size);have B2 := Lib.hid (B2.out.keep hb);have F2 := Lib.hid (F2.out.keep hb);have X3 := Lib.hid (X3.out.mono hb hb.size);have B3 := Lib.hid (B3.out.keep hb);have F3 := Lib.hid (F3.out.keep hb);have HB := Lib.hid (HB.out.trans (hb.mono HB.out.size));clear hb H17;obtain ⟨pm4,cm4,pn4,cn4,pk4,ck4,rfl,-⟩ := hx.cellsE;have X4 := Lib.hid hx;clear hx
    go_upto_region 9 with fail
    obtain ⟨y4,hW⟩ : ∃ z,(w4.alloc (.cells #[.int .i64 y.kind,.int .i64 y.fn,.int .i64 y.op,.int .i64 y.num,.string y.metric,.slice pm4 y.mats.length cm4,.int .i64 y.span,.slice pn4 y.names.length cn4,.slice pk4 y.kids.length ck4] 28)).alloc (.cells #[.int .i64 ge,.int .i64 ga] 31) = z := ⟨_,rfl⟩;have kb : Below w4.heap.size w4 y4 := by rw [← hW];exact two_below w4 _ _
    have B4 : Blk y4 w4.heap.size 28 [.int .i64 y.kind,.int .i64 y.fn,.int .i64 y.op,.int .i64 y.num,.string y.metric,.slice pm4 y.mats.length cm4,.int .i64 y.span,.slice pn4 y.names.length cn4,.slice pk4 y.kids.length ck4] := by rw [← hW];exact two_at w4 [.int .i64 y.kind,.int .i64 y.fn,.int .i64 y.op,.int .i64 y.num,.string y.metric,.slice pm4 y.mats.length cm4,.int .i64 y.span,.slice pn4 y.names.length cn4,.slice pk4 y.kids.length ck4] [.int .i64 ge,.int .i64 ga] _ _
    have F4 : Blk y4 (w4.heap.size + 1) 31 [.int .i64 ge,.int .i64 ga] := by rw [← hW];exact two_at' w4 _ [.int .i64 ge,.int .i64 ga] _
    rw [hW];clear hW;have X1 := Lib.hid (X1.out.mono kb kb.size);have B1 := Lib.hid (B1.out.keep kb);have F1 := Lib.hid (F1.out.keep kb);have X2 := Lib.hid (X2.out.mono kb kb.size);have B2 := Lib.hid (B2.out.keep kb);have F2 := Lib.hid (F2.out.keep kb);have X3 := Lib.hid (X3.out.mono kb kb.size);have B3 := Lib.hid (B3.out.keep kb);have F3 := Lib.hid (F3.out.keep kb);have X4 := Lib.hid (X4.out.mono kb kb.size);have HB := Lib.hid (HB.out.trans (kb.mono HB.out.size));clear kb;have B4 := Lib.hid B4;have F4 := Lib.hid F4
    go_wp2_with fail
    refine (H18.out _).mono ?_;rintro e' w5 ⟨v5,rfl,hx,hb⟩;have X1 := Lib.hid (X1.out.mono hb hb.size);have B1 := Lib.hid (B1.out.keep hb);have F1 := Lib.hid (F1.out.keep hb);have X2 := Lib.hid (X2.out.mono hb hb.size);have B2 := Lib.hid (B2.out.keep hb);have F2 := Lib.hid (F2.out.keep hb);have X3 := Lib.hid (X3.out.mono hb hb.size);have B3 := Lib.hid (B3.out.keep hb);have F3 := Lib.hid (F3.out.keep hb);have X4 := Lib.hid (X4.out.mono hb hb.size);have B4 := Lib.hid (B4.out.keep hb);have F4 := Lib.hid (F4.out.keep hb);have HB := Lib.hid (HB.out.trans (hb.mono HB.out.size));clear hb H18;have X5 := Lib.hid hx;clear hx
    go_upto_region 10 with fail
    obtain ⟨y5,hW⟩ : ∃ z,w5.alloc (.cells #[.int .i64 ke,.int .i64 ka] 31) = z := ⟨_,rfl⟩;have kb : Below w5.heap.size w5 y5 := by rw [← hW];exact (Below.refl _ _).alloc (Nat.le_refl _) _
    have F5 : Blk y5 w5.heap.size 31 [.int .i64 ke,.int .i64 ka] := by rw [← hW];exact one_at w5 [.int .i64 ke,.int .i64 ka] _
    rw [hW];clear hW;have X1 := Lib.hid (X1.out.mono kb kb.size);have B1 := Lib.hid (B1.out.keep kb);have F1 := Lib.hid (F1.out.keep kb);have X2 := Lib.hid (X2.out.mono kb kb.size);have B2 := Lib.hid (B2.out.keep kb);have F2 := Lib.hid (F2.out.keep kb);have X3 := Lib.hid (X3.out.mono kb kb.size);have B3 := Lib.hid (B3.out.keep kb);have F3 := Lib.hid (F3.out.keep kb);have X4 := Lib.hid (X4.out.mono kb kb.size);have B4 := Lib.hid (B4.out.keep kb);have F4 := Lib.hid (F4.out.keep kb);have X5 := Lib.hid (X5.out.mono kb kb.size);have HB := Lib.hid (HB.out.trans (kb.mono HB.out.size));clear kb;have F5 := Lib.hid F5
    go_wp2_with fail
    refine (H19.out _).mono ?_;rintro e' w6 ⟨v6,rfl,hx,hb⟩;have X1 := Lib.hid (X1.out.mono hb hb.size);have B1 := Lib.hid (B1.out.keep hb);have F1 := Lib.hid (F1.out.keep hb);have X2 := Lib.hid (X2.out.mono hb hb.size);have B2 := Lib.hid (B2.out.keep hb);have F2 := Lib.hid (F2.out.keep hb);have X3 := Lib.hid (X3.out.mono hb hb.size);have B3 := Lib.hid (B3.out.keep hb);have F3 := Lib.hid (F3.out.keep hb);have X4 := Lib.hid (X4.out.mono hb hb.size);have B4 := Lib.hid (B4.out.keep hb);have F4 := Lib.hid (F4.out.keep hb);have X5 := Lib.hid (X5.out.mono hb hb.size);have F5 := Lib.hid (F5.out.keep hb);have HB := Lib.hid (HB.out.trans (hb.mono HB.out.size));clear hb H19;have X6 := Lib.hid hx;clear hx
    go_upto_region 11 with fail
    obtain ⟨y6,hW⟩ : ∃ z,w6.alloc (.cells #[.int .i64 ke,.int .i64 ka] 31) = z := ⟨_,rfl⟩;have kb : Below w6.heap.size w6 y6 := by rw [← hW];exact (Below.refl _ _).alloc (Nat.le_refl _) _
    have F6 : Blk y6 w6.heap.size 31 [.int .i64 ke,.int .i64 ka] := by rw [← hW];exact one_at w6 [.int .i64 ke,.int .i64 ka] _
    rw [hW];clear hW;have X1 := Lib.hid (X1.out.mono kb kb.size);have B1 := Lib.hid (B1.out.keep kb);have F1 := Lib.hid (F1.out.keep kb);have X2 := Lib.hid (X2.out.mono kb kb.size);have B2 := Lib.hid (B2.out.keep kb);have F2 := Lib.hid (F2.out.keep kb);have X3 := Lib.hid (X3.out.mono kb kb.size);have B3 := Lib.hid (B3.out.keep kb);have F3 := Lib.hid (F3.out.keep kb);have X4 := Lib.hid (X4.out.mono kb kb.size);have B4 := Lib.hid (B4.out.keep kb);have F4 := Lib.hid (F4.out.keep kb);have X5 := Lib.hid (X5.out.mono kb kb.size);have F5 := Lib.hid (F5.out.keep kb);have X6 := Lib.hid (X6.out.mono kb kb.size);have HB := Lib.hid (HB.out.trans (kb.mono HB.out.size));clear kb;have F6 := Lib.hid F6
    go_wp2_with fail
    refine (H20.out _).mono ?_;rintro e' w7 ⟨rfl,rfl⟩;clear H20
    go_wp2_with fail
    refine (H21.out _).mono ?_;rintro e' w8 ⟨rfl,hb⟩;have X1 := Lib.hid (X1.out.mono hb hb.size);have B1 := Lib.hid (B1.out.keep hb);have F1 := Lib.hid (F1.out.keep hb);have X2 := Lib.hid (X2.out.mono hb hb.size);have B2 := Lib.hid (B2.out.keep hb);have F2 := Lib.hid (F2.out.keep hb);have X3 := Lib.hid (X3.out.mono hb hb.size);have B3 := Lib.hid (B3.out.keep hb);have F3 := Lib.hid (F3.out.keep hb);have X4 := Lib.hid (X4.out.mono hb hb.size);have B4 := Lib.hid (B4.out.keep hb);have F4 := Lib.hid (F4.out.keep hb);have X5 := Lib.hid (X5.out.mono hb hb.size);have F5 := Lib.hid (F5.out.keep hb);have X6 := Lib.hid (X6.out.mono hb hb.size);have F6 := Lib.hid (F6.out.keep hb);have HB := Lib.hid (HB.out.trans (hb.mono HB.out.size));clear hb H21
    go_upto_region 13 with fail
    have b1 := B1.out;have p10 := b1.cell 0 _ rfl;have p11 := b1.cell 1 _ rfl;have p12 := b1.cell 2 _ rfl;have p13 := b1.cell 3 _ rfl;have p14 := b1.cell 4 _ rfl;have p15 := b1.cell 5 _ rfl;have p16 := b1.cell 6 _ rfl;have p17 := b1.cell 7 _ rfl;have p18 := b1.cell 8 _ rfl;have p19 := b1.cell 9 _ rfl;clear b1;have b2 := B2.out;have p20 := b2.cell 0 _ rfl;have p21 := b2.cell 1 _ rfl;have p22 := b2.cell 2 _ rfl;have p23 := b2.cell 3 _ rfl;have p24 := b2.cell 4 _ rfl;have p25 := b2.cell 5 _ rfl;have p26 := b2.cell 6 _ rfl;have p27 := b2.cell 7 _ rfl;have p28 := b2.cell 8 _ rfl;have p29 := b2.cell 9 _ rfl;clear b2;have HK := Lib.hid (kExpr x x _ _ _ w8 (Nat.le_refl _) X1.out X2.out)
    go_wp2_with fail
    refine HK.out.mono ?_;rintro e' w9 ⟨rfl,hb⟩;clear p10 p11 p12 p13 p14 p15 p16 p17 p18 p19;clear B1;clear p20 p21 p22 p23 p24 p25 p26 p27 p28 p29;clear B2;clear X1 X2 HK;have F1 := Lib.hid (F1.out.keep hb);have F2 := Lib.hid (F2.out.keep hb);have X3 := Lib.hid (X3.out.mono hb hb.size);have B3 := Lib.hid (B3.out.keep hb);have F3 := Lib.hid (F3.out.keep hb);have X4 := Lib.hid (X4.out.mono hb hb.size);have B4 := Lib.hid (B4.out.keep hb);have F4 := Lib.hid (F4.out.keep hb);have X5 := Lib.hid (X5.out.mono hb hb.size);have F5 := Lib.hid (F5.out.keep hb);have X6 := Lib.hid (X6.out.mono hb hb.size);have F6 := Lib.hid (F6.out.keep hb);have HB := Lib.hid (HB.out.trans (hb.mono HB.out.size));clear hb;have f1 := F1.out;have q10 := f1.cell 0 _ rfl;have q11 := f1.cell 1 _ rfl;clear f1;have f2 := F2.out;have q20 := f2.cell 0 _ rfl;have q21 := f2.cell 1 _ rfl;clear f2;have b3 := B3.out;have p30 := b3.cell 0 _ rfl;have p31 := b3.cell 1 _ rfl;have p32 := b3.cell 2 _ rfl;have p33 := b3.cell 3 _ rfl;have p34 := b3.cell 4 _ rfl;have p35 := b3.cell 5 _ rfl;have p36 := b3.cell 6 _ rfl;have p37 := b3.cell 7 _ rfl;have p38 := b3.cell 8 _ rfl;clear b3;have b4 := B4.out;have p40 := b4.cell 0 _ rfl;have p41 := b4.cell 1 _ rfl;have p42 := b4.cell 2 _ rfl;have p43 := b4.cell 3 _ rfl;have p44 := b4.cell 4 _ rfl;have p45 := b4.cell 5 _ rfl;have p46 := b4.cell 6 _ rfl;have p47 := b4.cell 7 _ rfl;have p48 := b4.cell 8 _ rfl;clear b4;have HK := Lib.hid (kExpr y y _ _ _ w9 (Nat.le_refl _) X3.out X4.out)
    go_wp2_with fail
    refine HK.out.mono ?_;rintro e' w10 ⟨rfl,hb⟩;clear q10 q11;clear F1;clear q20 q21;clear F2;clear p30 p31 p32 p33 p34 p35 p36 p37 p38;clear B3;clear p40 p41 p42 p43 p44 p45 p46 p47 p48;clear B4;clear X3 X4 HK;have F3 := Lib.hid (F3.out.keep hb);have F4 := Lib.hid (F4.out.keep hb);have X5 := Lib.hid (X5.out.mono hb hb.size);have F5 := Lib.hid (F5.out.keep hb);have X6 := Lib.hid (X6.out.mono hb hb.size);have F6 := Lib.hid (F6.out.keep hb);have HB := Lib.hid (HB.out.trans (hb.mono HB.out.size));clear hb;have f3 := F3.out;have q30 := f3.cell 0 _ rfl;have q31 := f3.cell 1 _ rfl;clear f3;have f4 := F4.out;have q40 := f4.cell 0 _ rfl;have q41 := f4.cell 1 _ rfl;clear f4;have HK := Lib.hid (kMatch l l _ _ _ w10 (Nat.le_refl _) X5.out X6.out)
    go_wp2_with fail
    refine HK.out.mono ?_;rintro e' w11 ⟨rfl,hb⟩;clear q30 q31;clear F3;clear q40 q41;clear F4;clear X5 X6 HK;have F5 := Lib.hid (F5.out.keep hb);have F6 := Lib.hid (F6.out.keep hb);have HB := Lib.hid (HB.out.trans (hb.mono HB.out.size));clear hb;have f5 := F5.out;have q50 := f5.cell 0 _ rfl;have q51 := f5.cell 1 _ rfl;clear f5;have f6 := F6.out;have q60 := f6.cell 0 _ rfl;have q61 := f6.cell 1 _ rfl;clear f6;go_wp2;go_ret;exact ⟨rfl,HB.out⟩)
end Go.Proofs.YtpmbamfpmmdhcaaGreat
