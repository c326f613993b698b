/- ParseJoins: the walk. -/
import Derived.Test.YtpmbamfpmmdhcaaGreatK56
set_option maxRecDepth 100000
set_option maxHeartbeats 16000000
namespace Go.Proofs.YtpmbamfpmmdhcaaGreat
open Go.RowKit
set_option linter.unusedSimpArgs false
set_option linter.unusedVariables false
theorem ans_two {a b t : ByteArray} {x y : Ex} {op : Int} {s : UInt8} (ha : IsX (sl a 0) x) (hb : IsX (sl b 0) y) (hop : (op = 1 ∧ s = 43) ∨ (op = 2 ∧ s = 45)) (ht : sl t 0 = 40 :: (sl a 0 ++ 10 :: 41 :: 32 :: s :: 32 :: 40 :: (sl b 0 ++ 10 :: 41 :: []))) (hs : t.size ≤ 16384) : Ans t (twoX op x y) := by
  obtain ⟨M,j1,j',h1,h2,h3,h4⟩ := two_reads ha hb hop
  have ho : 1 ≤ op ∧ op ≤ 3 := by rcases hop with ⟨h,_⟩ | ⟨h,_⟩ <;> omega
  exact comes_of hs (by rw [ht];exact h1) h2 h3 h4 (twoX_all ho ha.right hb.right)
theorem ans_left {a b c t : ByteArray} {x y z : Ex} {op : Int} {s : UInt8} (ha : IsX (sl a 0) x) (hb : IsX (sl b 0) y) (hc : IsX (sl c 0) z) (hop : (op = 1 ∧ s = 43) ∨ (op = 2 ∧ s = 45)) (ht : sl t 0 = 40 :: (sl a 0 ++ 10 :: 41 :: 32 :: s :: 32 :: 40 :: (sl b 0 ++ 10 :: 41 :: 32 :: s :: 32 :: 40 :: (sl c 0 ++ 10 :: 41 :: [])))) (hs : t.size ≤ 16384) : Ans t (twoX op (twoX op x y) z) := by
  obtain ⟨M,j1,j',h1,h2,h3,h4⟩ := left_reads ha hb hc hop
  have ho : 1 ≤ op ∧ op ≤ 3 := by rcases hop with ⟨h,_⟩ | ⟨h,_⟩ <;> omega
  exact comes_of hs (by rw [ht];exact h1) h2 h3 h4 (twoX_all ho (twoX_all ho ha.right hb.right) hc.right)
theorem ans_right {a b c t : ByteArray} {x y z : Ex} {op : Int} {s : UInt8} (ha : IsX (sl a 0) x) (hb : IsX (sl b 0) y) (hc : IsX (sl c 0) z) (hop : (op = 1 ∧ s = 43) ∨ (op = 2 ∧ s = 45)) (ht : sl t 0 = 40 :: (sl a 0 ++ 10 :: 41 :: 32 :: s :: 32 :: 40 :: (sl b 0 ++ 10 :: 41 :: 32 :: 42 :: 32 :: 40 :: (sl c 0 ++ 10 :: 41 :: [])))) (hs : t.size ≤ 16384) : Ans t (twoX op x (twoX 3 y z)) := by
  obtain ⟨M,j1,j',h1,h2,h3,h4⟩ := right_reads ha hb hc hop
  have ho : 1 ≤ op ∧ op ≤ 3 := by rcases hop with ⟨h,_⟩ | ⟨h,_⟩ <;> omega
  exact comes_of hs (by rw [ht];exact h1) h2 h3 h4 (twoX_all ho ha.right (twoX_all (by decide) hb.right hc.right))
theorem ans_mul {a b c t : ByteArray} {x y z : Ex} {op : Int} {s : UInt8} (ha : IsX (sl a 0) x) (hb : IsX (sl b 0) y) (hc : IsX (sl c 0) z) (hop : (op = 1 ∧ s = 43) ∨ (op = 2 ∧ s = 45)) (ht : sl t 0 = 40 :: (sl a 0 ++ 10 :: 41 :: 32 :: 42 :: 32 :: 40 :: (sl b 0 ++ 10 :: 41 :: 32 :: s :: 32 :: 40 :: (sl c 0 ++ 10 :: 41 :: [])))) (hs : t.size ≤ 16384) : Ans t (twoX op (twoX 3 x y) z) := by
  obtain ⟨M,j1,j',h1,h2,h3,h4⟩ := mul_reads ha hb hc hop
  have ho : 1 ≤ op ∧ op ≤ 3 := by rcases hop with ⟨h,_⟩ | ⟨h,_⟩ <;> omega
  exact comes_of hs (by rw [ht];exact h1) h2 h3 h4 (twoX_all ho (twoX_all (by decide) ha.right hb.right) hc.right)
theorem szL1 (a : UInt8) : (⟨#[a]⟩ : ByteArray).size = 1 := rfl
theorem szL2 (a b : UInt8) : (⟨#[a,b]⟩ : ByteArray).size = 2 := rfl
theorem szL3 (a b c : UInt8) : (⟨#[a,b,c]⟩ : ByteArray).size = 3 := rfl
theorem sl_app (a b : ByteArray) : sl (a ++ b) 0 = sl a 0 ++ sl b 0 := by unfold sl;simp [ByteArray.data_append]
theorem xJoins (a b c : ByteArray) (op : Int) (w : World) (ha : a.size ≤ maxLen) (hb : b.size ≤ maxLen) (hc : c.size ≤ maxLen) (hop : -9223372036854775808 ≤ op ∧ op ≤ 9223372036854775807) :
    Calls Tryz.prog 4 #[.string a,.string b,.string c,.int .i64 op] w fun e' w' => e' = .returned (.bool true) ∧ Below w.heap.size w w' := by
  obtain ⟨x,fe1,fa1,hE1,hR1⟩ := ans a ha
  obtain ⟨y,fe2,fa2,hE2,hR2⟩ := ans b hb
  obtain ⟨z,fe3,fa3,hE3,hR3⟩ := ans c hc
  have HE1 := Lib.hid hE1;have HE2 := Lib.hid hE2;have HE3 := Lib.hid hE3
  have HR1 := Lib.hid hR1;have HR2 := Lib.hid hR2;have HR3 := Lib.hid hR3
  have HP := Lib.hid (fun X => kPick op 2 X hop (by decide))
  have hk := pick_bd op 2 (by decide)
  clear hE1 hE2 hE3 hR1 hR2 hR3 hop
  generalize pick op 2 = k at HP hk
  unfold maxLen at ha hb hc
  go_enter Tryz.func4,Tryz.ntmps4;(try simp only [List.append_eq,List.cons_append,List.nil_append])
  go_wp2_with fail
  refine (xLives _).mono ?_
  rintro e' w0 ⟨rfl,hb0⟩
  have HB := Lib.hid hb0;clear hb0
  go_upto_region 3 with fail
  by_cases la : (2000 : Int) < (a.size : Int)
  · go_wp2
    go_ret;exact ⟨rfl,HB.out⟩
  by_cases lb : (2000 : Int) < (b.size : Int)
  · go_wp2
    go_ret;exact ⟨rfl,HB.out⟩
  by_cases lc : (2000 : Int) < (c.size : Int)
  · go_wp2
    go_ret;exact ⟨rfl,HB.out⟩
  go_wp2_with fail
  refine (HE1.out _).mono ?_
  rintro e' w1 ⟨cs,rfl,hx,hb⟩
  have HB := Lib.hid (HB.out.trans (hb.mono HB.out.size));clear hb HE1
  obtain ⟨pm1,cm1,pn1,cn1,pk1,ck1,rfl,-⟩ := hx.cellsE
  have X1 := Lib.hid hx;clear hx
  go_upto_region 6 with fail
  obtain ⟨y1,hW⟩ : ∃ zz,(w1.alloc (.cells #[.int .i64 x.kind,.int .i64 x.fn,.int .i64 x.op,.int .i64 x.num,.string x.metric,.slice pm1 x.mats.length cm1,.int .i64 x.span,.slice pn1 x.names.length cn1,.slice pk1 x.kids.length ck1] 28)).alloc (.cells #[.int .i64 fe1,.int .i64 fa1] 31) = zz := ⟨_,rfl⟩
  have kb : Below w1.heap.size w1 y1 := by rw [← hW];exact two_below w1 _ _
  have B1 : Blk y1 w1.heap.size 28 [.int .i64 x.kind,.int .i64 x.fn,.int .i64 x.op,.int .i64 x.num,.string x.metric,.slice pm1 x.mats.length cm1,.int .i64 x.span,.slice pn1 x.names.length cn1,.slice pk1 x.kids.length ck1] := by rw [← hW];exact two_at w1 [.int .i64 x.kind,.int .i64 x.fn,.int .i64 x.op,.int .i64 x.num,.string x.metric,.slice pm1 x.mats.length cm1,.int .i64 x.span,.slice pn1 x.names.length cn1,.slice pk1 x.kids.length ck1] [.int .i64 fe1,.int .i64 fa1] _ _
  have F1 : Blk y1 (w1.heap.size + 1) 31 [.int .i64 fe1,.int .i64 fa1] := by rw [← hW];exact two_at' w1 _ [.int .i64 fe1,.int .i64 fa1] _
  rw [hW];clear hW
  have X1 := Lib.hid (X1.out.mono kb kb.size)
  have HB := Lib.hid (HB.out.trans (kb.mono HB.out.size));clear kb
  have B1 := Lib.hid B1;have F1 := Lib.hid F1
  go_wp2_with fail
  refine (HE2.out _).mono ?_
  rintro e' w2 ⟨cs,rfl,hx,hb⟩
  have X1 := Lib.hid (X1.out.mono hb hb.size)
  have B1 := Lib.hid (B1.out.keep hb)
  have F1 := Lib.hid (F1.out.keep hb)
  have HB := Lib.hid (HB.out.trans (hb.mono HB.out.size));clear hb HE2
  obtain ⟨pm2,cm2,pn2,cn2,pk2,ck2,rfl,-⟩ := hx.cellsE
  have X2 := Lib.hid hx;clear hx
  go_upto_region 7 with fail
  obtain ⟨y2,hW⟩ : ∃ zz,(w2.alloc (.cells #[.int .i64 y.kind,.int .i64 y.fn,.int .i64 y.op,.int .i64 y.num,.string y.metric,.slice pm2 y.mats.length cm2,.int .i64 y.span,.slice pn2 y.names.length cn2,.slice pk2 y.kids.length ck2] 28)).alloc (.cells #[.int .i64 fe2,.int .i64 fa2] 31) = zz := ⟨_,rfl⟩
  have kb : Below w2.heap.size w2 y2 := by rw [← hW];exact two_below w2 _ _
  have B2 : Blk y2 w2.heap.size 28 [.int .i64 y.kind,.int .i64 y.fn,.int .i64 y.op,.int .i64 y.num,.string y.metric,.slice pm2 y.mats.length cm2,.int .i64 y.span,.slice pn2 y.names.length cn2,.slice pk2 y.kids.length ck2] := by rw [← hW];exact two_at w2 [.int .i64 y.kind,.int .i64 y.fn,.int .i64 y.op,.int .i64 y.num,.string y.metric,.slice pm2 y.mats.length cm2,.int .i64 y.span,.slice pn2 y.names.length cn2,.slice pk2 y.kids.length ck2] [.int .i64 fe2,.int .i64 fa2] _ _
  have F2 : Blk y2 (w2.heap.size + 1) 31 [.int .i64 fe2,.int .i64 fa2] := by rw [← hW];exact two_at' w2 _ [.int .i64 fe2,.int .i64 fa2] _
  rw [hW];clear hW
  have X1 := Lib.hid (X1.out.mono kb kb.size)
  have B1 := Lib.hid (B1.out.keep kb)
  have F1 := Lib.hid (F1.out.keep kb)
  have X2 := Lib.hid (X2.out.mono kb kb.size)
  have HB := Lib.hid (HB.out.trans (kb.mono HB.out.size));clear kb
  have B2 := Lib.hid B2;have F2 := Lib.hid F2
  go_wp2_with fail
  refine (HE3.out _).mono ?_
  rintro e' w3 ⟨cs,rfl,hx,hb⟩
  have X1 := Lib.hid (X1.out.mono hb hb.size)
  have B1 := Lib.hid (B1.out.keep hb)
  have F1 := Lib.hid (F1.out.keep hb)
  have X2 := Lib.hid (X2.out.mono hb hb.size)
  have B2 := Lib.hid (B2.out.keep hb)
  have F2 := Lib.hid (F2.out.keep hb)
  have HB := Lib.hid (HB.out.trans (hb.mono HB.out.size));clear hb HE3
  obtain ⟨pm3,cm3,pn3,cn3,pk3,ck3,rfl,-⟩ := hx.cellsE
  have X3 := Lib.hid hx;clear hx
  go_upto_region 8 with fail
  obtain ⟨y3,hW⟩ : ∃ zz,(w3.alloc (.cells #[.int .i64 z.kind,.int .i64 z.fn,.int .i64 z.op,.int .i64 z.num,.string z.metric,.slice pm3 z.mats.length cm3,.int .i64 z.span,.slice pn3 z.names.length cn3,.slice pk3 z.kids.length ck3] 28)).alloc (.cells #[.int .i64 fe3,.int .i64 fa3] 31) = zz := ⟨_,rfl⟩
  have kb : Below w3.heap.size w3 y3 := by rw [← hW];exact two_below w3 _ _
  have B3 : Blk y3 w3.heap.size 28 [.int .i64 z.kind,.int .i64 z.fn,.int .i64 z.op,.int .i64 z.num,.string z.metric,.slice pm3 z.mats.length cm3,.int .i64 z.span,.slice pn3 z.names.length cn3,.slice pk3 z.kids.length ck3] := by rw [← hW];exact two_at w3 [.int .i64 z.kind,.int .i64 z.fn,.int .i64 z.op,.int .i64 z.num,.string z.metric,.slice pm3 z.mats.length cm3,.int .i64 z.span,.slice pn3 z.names.length cn3,.slice pk3 z.kids.length ck3] [.int .i64 fe3,.int .i64 fa3] _ _
  have F3 : Blk y3 (w3.heap.size + 1) 31 [.int .i64 fe3,.int .i64 fa3] := by rw [← hW];exact two_at' w3 _ [.int .i64 fe3,.int .i64 fa3] _
  rw [hW];clear hW
  have X1 := Lib.hid (X1.out.mono kb kb.size)
  have B1 := Lib.hid (B1.out.keep kb)
  have F1 := Lib.hid (F1.out.keep kb)
  have X2 := Lib.hid (X2.out.mono kb kb.size)
  have B2 := Lib.hid (B2.out.keep kb)
  have F2 := Lib.hid (F2.out.keep kb)
  have X3 := Lib.hid (X3.out.mono kb kb.size)
  have HB := Lib.hid (HB.out.trans (kb.mono HB.out.size));clear kb
  have B3 := Lib.hid B3;have F3 := Lib.hid F3
  have f1 := F1.out
  have q10 := f1.cell 0 _ rfl;have q11 := f1.cell 1 _ rfl
  have f2 := F2.out
  have q20 := f2.cell 0 _ rfl;have q21 := f2.cell 1 _ rfl
  have f3 := F3.out
  have q30 := f3.cell 0 _ rfl;have q31 := f3.cell 1 _ rfl
  clear f1 f2 f3 F1 F2 F3
  by_cases h1 : fe1 = 0
  case neg =>
    go_wp2
    all_goals go_ret
    all_goals exact ⟨rfl,HB.out⟩
  obtain ⟨e1,-,c1,l1,i1,j1⟩ := HR1.out h1
  subst h1 e1;clear HR1
  by_cases h2 : fe2 = 0
  case neg =>
    go_wp2
    all_goals go_ret
    all_goals exact ⟨rfl,HB.out⟩
  obtain ⟨e2,-,c2,l2,i2,j2⟩ := HR2.out h2
  subst h2 e2;clear HR2
  by_cases h3 : fe3 = 0
  case neg =>
    go_wp2
    all_goals go_ret
    all_goals exact ⟨rfl,HB.out⟩
  obtain ⟨e3,-,c3,l3,i3,j3⟩ := HR3.out h3
  subst h3 e3;clear HR3
  have I1 := Lib.hid (IsX.of i1 j1);have I2 := Lib.hid (IsX.of i2 j2);have I3 := Lib.hid (IsX.of i3 j3)
  have S1 := Lib.hid (ok_partsX c1).1;have S2 := Lib.hid (ok_partsX c2).1;have S3 := Lib.hid (ok_partsX c3).1
  clear i1 j1 i2 j2 i3 j3 c1 c2 c3
  go_wp2_with fail
  refine (HP.out _).mono ?_
  rintro e' w4 ⟨rfl,rfl⟩
  clear HP q10 q11 q20 q21 q30 q31
  have z0 : k = 0 ∨ k = 1 := by omega
  clear hk
  rcases z0 with rfl | rfl
  · skip
    go_upto_region 13 with fail
    obtain ⟨y4,hW⟩ : ∃ zz,y3.alloc (.cells #[.string ⟨#[32,43,32]⟩,.string ⟨#[32,45,32]⟩] 9) = zz := ⟨_,rfl⟩;have kb : Below y3.heap.size y3 y4 := by rw [← hW];exact (Below.refl _ _).alloc (Nat.le_refl _) _
    rw [hW];clear hW;have X1 := Lib.hid (X1.out.mono kb kb.size);have B1 := Lib.hid (B1.out.keep kb);have X2 := Lib.hid (X2.out.mono kb kb.size);have B2 := Lib.hid (B2.out.keep kb);have X3 := Lib.hid (X3.out.mono kb kb.size);have B3 := Lib.hid (B3.out.keep kb);have HB := Lib.hid (HB.out.trans (kb.mono HB.out.size));clear kb;have EA : sl (⟨#[40]⟩ ++ a ++ ⟨#[10,41]⟩) 0 = 40 :: (sl a 0 ++ [10,41]) := by rw [sl_app,sl_app,show sl ⟨#[40]⟩ 0 = [40] from rfl,show sl ⟨#[10,41]⟩ 0 = [10,41] from rfl];rfl
    have ZA : (⟨#[40]⟩ ++ a ++ ⟨#[10,41]⟩ : ByteArray).size ≤ 2003 := by simp only [ByteArray.size_append,szL1,szL2];omega
    generalize (⟨#[40]⟩ ++ a ++ ⟨#[10,41]⟩ : ByteArray) = pa at EA ZA ⊢;have EA := Lib.hid EA;have EB : sl (⟨#[40]⟩ ++ b ++ ⟨#[10,41]⟩) 0 = 40 :: (sl b 0 ++ [10,41]) := by rw [sl_app,sl_app,show sl ⟨#[40]⟩ 0 = [40] from rfl,show sl ⟨#[10,41]⟩ 0 = [10,41] from rfl];rfl
    have ZB : (⟨#[40]⟩ ++ b ++ ⟨#[10,41]⟩ : ByteArray).size ≤ 2003 := by simp only [ByteArray.size_append,szL1,szL2];omega
    generalize (⟨#[40]⟩ ++ b ++ ⟨#[10,41]⟩ : ByteArray) = pb at EB ZB ⊢;have EB := Lib.hid EB;have EC : sl (⟨#[40]⟩ ++ c ++ ⟨#[10,41]⟩) 0 = 40 :: (sl c 0 ++ [10,41]) := by rw [sl_app,sl_app,show sl ⟨#[40]⟩ 0 = [40] from rfl,show sl ⟨#[10,41]⟩ 0 = [10,41] from rfl];rfl
    have ZC : (⟨#[40]⟩ ++ c ++ ⟨#[10,41]⟩ : ByteArray).size ≤ 2003 := by simp only [ByteArray.size_append,szL1,szL2];omega
    generalize (⟨#[40]⟩ ++ c ++ ⟨#[10,41]⟩ : ByteArray) = pc at EC ZC ⊢;have EC := Lib.hid EC;refine wp_region_held_drew (S := fun X => Below y4.heap.size y4 X) (by kernel_rfl) (Below.drew (Below.refl _ _)) (fun hHeld => ?_);have hd : Below y4.heap.size y4 y4.drew := Below.drew (Below.refl _ _);have X1 := Lib.hid (X1.out.mono hd hd.size);have X2 := Lib.hid (X2.out.mono hd hd.size);have X3 := Lib.hid (X3.out.mono hd hd.size);have HB := Lib.hid (HB.out.trans (hd.mono HB.out.size));have HD := Lib.hid hd;clear hd
    (refine htk 0 78 ?_ rfl ?_ ?_;rotate_left;(intro w hSw;clear hSw;go_simp);(try with_reducible rfl);simp only [lsz,lss])
    (refine htk 1 79 ?_ rfl ?_ ?_;rotate_left;(intro w hSw;clear hSw;go_simp);(try with_reducible rfl);simp only [lsz,lss])
    (refine htk 2 80 (.string (pa ++ ⟨#[32,43,32]⟩)) rfl ?_ ?_;(intro w hSw;clear hSw;go_simp;(try simp only [ByteArray.size_append,szL1,szL2,szL3]);omega);simp only [lsz,lss])
    (refine htk 3 81 ?_ rfl ?_ ?_;rotate_left;(intro w hSw;clear hSw;go_simp);(try with_reducible rfl);simp only [lsz,lss])
    (refine htk 4 82 (.string ((pa ++ ⟨#[32,43,32]⟩) ++ pb)) rfl ?_ ?_;(intro w hSw;clear hSw;go_simp;(try simp only [ByteArray.size_append,szL1,szL2,szL3]);omega);simp only [lsz,lss])
    (refine htk 5 83 ?_ rfl ?_ ?_;rotate_left;(intro w hSw;clear hSw;go_simp);(try with_reducible rfl);simp only [lsz,lss])
    (refine htk 6 84 (.int .i64 1) rfl ?_ ?_;(intro w hSw;clear hSw;first | rfl | go_simp);simp only [lsz,lss])
    (refine htk 7 85 (.agg #[.int .i64 x.kind,.int .i64 x.fn,.int .i64 x.op,.int .i64 x.num,.string x.metric,.slice pm1 x.mats.length cm1,.int .i64 x.span,.slice pn1 x.names.length cn1,.slice pk1 x.kids.length ck1]) rfl ?_ ?_;(intro w hSw;have b := B1.out.keep hSw;have p0 := b.cell 0 _ rfl;have p1 := b.cell 1 _ rfl;have p2 := b.cell 2 _ rfl;have p3 := b.cell 3 _ rfl;have p4 := b.cell 4 _ rfl;have p5 := b.cell 5 _ rfl;have p6 := b.cell 6 _ rfl;have p7 := b.cell 7 _ rfl;have p8 := b.cell 8 _ rfl;go_simp);simp only [lsz,lss])
    (refine htk 8 86 (.agg #[.int .i64 y.kind,.int .i64 y.fn,.int .i64 y.op,.int .i64 y.num,.string y.metric,.slice pm2 y.mats.length cm2,.int .i64 y.span,.slice pn2 y.names.length cn2,.slice pk2 y.kids.length ck2]) rfl ?_ ?_;(intro w hSw;have b := B2.out.keep hSw;have p0 := b.cell 0 _ rfl;have p1 := b.cell 1 _ rfl;have p2 := b.cell 2 _ rfl;have p3 := b.cell 3 _ rfl;have p4 := b.cell 4 _ rfl;have p5 := b.cell 5 _ rfl;have p6 := b.cell 6 _ rfl;have p7 := b.cell 7 _ rfl;have p8 := b.cell 8 _ rfl;go_simp);simp only [lsz,lss])
    refine hrd 9 rfl (fun K hK => ?_);rw [if_pos (by kernel_rfl)]
    go_simp
    refine (xTwo 1 x y _ _ _ _ (Nat.le_refl _) X1.out X2.out).mono ?_;rintro e' v5 ⟨g5,rfl,hx,hb⟩;have HD := Lib.hid (HD.out.trans (hb.mono HD.out.size));have X1 := Lib.hid (X1.out.mono hb hb.size);have X2 := Lib.hid (X2.out.mono hb hb.size);have X3 := Lib.hid (X3.out.mono hb hb.size);have HB := Lib.hid (HB.out.trans (hb.mono HB.out.size));clear hb
    dsimp only
    refine hK.out _ _ HD.out (fun hHeld => ?_);clear hK K
    (try simp only [Act.put,lsa,lsz,lss])
    have R1 := Lib.hid hx;clear hx;refine hrd 10 rfl (fun K hK => ?_);rw [if_pos (by kernel_rfl)]
    go_simp
    refine (xComes _ (twoX 1 x y) _ _ _ (Nat.le_refl _) R1.out (by simp only [twoX_size];have := S1.out;have := S2.out;have := S3.out;omega) (ans_two I1.out I2.out (Or.inl ⟨rfl,rfl⟩) (by simp only [sl_app,EA.out,EB.out,EC.out,show sl ⟨#[32,43,32]⟩ 0 = [32,43,32] from rfl,show sl ⟨#[32,42,32]⟩ 0 = [32,42,32] from rfl];simp) (by simp only [ByteArray.size_append,szL3];omega))).mono ?_;rintro e' v6 ⟨rfl,hb⟩;have HD := Lib.hid (HD.out.trans (hb.mono HD.out.size));have X1 := Lib.hid (X1.out.mono hb hb.size);have X2 := Lib.hid (X2.out.mono hb hb.size);have X3 := Lib.hid (X3.out.mono hb hb.size);have R1 := Lib.hid (R1.out.mono hb hb.size);have HB := Lib.hid (HB.out.trans (hb.mono HB.out.size));clear hb
    dsimp only
    refine hK.out _ _ HD.out (fun hHeld => ?_);clear hK K
    (try simp only [Act.put,lsa,lsz,lss])
    (refine htk 11 89 ?_ rfl ?_ ?_;rotate_left;(intro w hSw;clear hSw;go_simp);(try with_reducible rfl);simp only [lsz,lss])
    (refine htk 12 90 ?_ rfl ?_ ?_;rotate_left;(intro w hSw;clear hSw;go_simp);(try with_reducible rfl);simp only [lsz,lss])
    (refine htk 13 91 ?_ rfl ?_ ?_;rotate_left;(intro w hSw;clear hSw;go_simp);(try with_reducible rfl);simp only [lsz,lss])
    (refine htk 14 92 (.string (pa ++ ⟨#[32,43,32]⟩)) rfl ?_ ?_;(intro w hSw;clear hSw;go_simp;(try simp only [ByteArray.size_append,szL1,szL2,szL3]);omega);simp only [lsz,lss])
    (refine htk 15 93 ?_ rfl ?_ ?_;rotate_left;(intro w hSw;clear hSw;go_simp);(try with_reducible rfl);simp only [lsz,lss])
    (refine htk 16 94 (.string ((pa ++ ⟨#[32,43,32]⟩) ++ pb)) rfl ?_ ?_;(intro w hSw;clear hSw;go_simp;(try simp only [ByteArray.size_append,szL1,szL2,szL3]);omega);simp only [lsz,lss])
    (refine htk 17 95 (.string (((pa ++ ⟨#[32,43,32]⟩) ++ pb) ++ ⟨#[32,42,32]⟩)) rfl ?_ ?_;(intro w hSw;clear hSw;go_simp;(try simp only [ByteArray.size_append,szL1,szL2,szL3]);omega);simp only [lsz,lss])
    (refine htk 18 96 ?_ rfl ?_ ?_;rotate_left;(intro w hSw;clear hSw;go_simp);(try with_reducible rfl);simp only [lsz,lss])
    (refine htk 19 97 (.string ((((pa ++ ⟨#[32,43,32]⟩) ++ pb) ++ ⟨#[32,42,32]⟩) ++ pc)) rfl ?_ ?_;(intro w hSw;clear hSw;go_simp;(try simp only [ByteArray.size_append,szL1,szL2,szL3]);omega);simp only [lsz,lss])
    (refine htk 20 98 ?_ rfl ?_ ?_;rotate_left;(intro w hSw;clear hSw;go_simp);(try with_reducible rfl);simp only [lsz,lss])
    (refine htk 21 99 (.int .i64 1) rfl ?_ ?_;(intro w hSw;clear hSw;first | rfl | go_simp);simp only [lsz,lss])
    (refine htk 22 100 (.agg #[.int .i64 x.kind,.int .i64 x.fn,.int .i64 x.op,.int .i64 x.num,.string x.metric,.slice pm1 x.mats.length cm1,.int .i64 x.span,.slice pn1 x.names.length cn1,.slice pk1 x.kids.length ck1]) rfl ?_ ?_;(intro w hSw;have b := B1.out.keep hSw;have p0 := b.cell 0 _ rfl;have p1 := b.cell 1 _ rfl;have p2 := b.cell 2 _ rfl;have p3 := b.cell 3 _ rfl;have p4 := b.cell 4 _ rfl;have p5 := b.cell 5 _ rfl;have p6 := b.cell 6 _ rfl;have p7 := b.cell 7 _ rfl;have p8 := b.cell 8 _ rfl;go_simp);simp only [lsz,lss])
    (refine htk 23 101 (.agg #[.int .i64 y.kind,.int .i64 y.fn,.int .i64 y.op,.int .i64 y.num,.string y.metric,.slice pm2 y.mats.length cm2,.int .i64 y.span,.slice pn2 y.names.length cn2,.slice pk2 y.kids.length ck2]) rfl ?_ ?_;(intro w hSw;have b := B2.out.keep hSw;have p0 := b.cell 0 _ rfl;have p1 := b.cell 1 _ rfl;have p2 := b.cell 2 _ rfl;have p3 := b.cell 3 _ rfl;have p4 := b.cell 4 _ rfl;have p5 := b.cell 5 _ rfl;have p6 := b.cell 6 _ rfl;have p7 := b.cell 7 _ rfl;have p8 := b.cell 8 _ rfl;go_simp);simp only [lsz,lss])
    (refine htk 24 102 (.agg #[.int .i64 z.kind,.int .i64 z.fn,.int .i64 z.op,.int .i64 z.num,.string z.metric,.slice pm3 z.mats.length cm3,.int .i64 z.span,.slice pn3 z.names.length cn3,.slice pk3 z.kids.length ck3]) rfl ?_ ?_;(intro w hSw;have b := B3.out.keep hSw;have p0 := b.cell 0 _ rfl;have p1 := b.cell 1 _ rfl;have p2 := b.cell 2 _ rfl;have p3 := b.cell 3 _ rfl;have p4 := b.cell 4 _ rfl;have p5 := b.cell 5 _ rfl;have p6 := b.cell 6 _ rfl;have p7 := b.cell 7 _ rfl;have p8 := b.cell 8 _ rfl;go_simp);simp only [lsz,lss])
    refine hrd 25 rfl (fun K hK => ?_);rw [if_pos (by kernel_rfl)]
    go_simp
    refine (xTwo 3 y z _ _ _ _ (Nat.le_refl _) X2.out X3.out).mono ?_;rintro e' v7 ⟨g7,rfl,hx,hb⟩;have HD := Lib.hid (HD.out.trans (hb.mono HD.out.size));have X1 := Lib.hid (X1.out.mono hb hb.size);have X2 := Lib.hid (X2.out.mono hb hb.size);have X3 := Lib.hid (X3.out.mono hb hb.size);have HB := Lib.hid (HB.out.trans (hb.mono HB.out.size));clear hb
    dsimp only
    refine hK.out _ _ HD.out (fun hHeld => ?_);clear hK K
    (try simp only [Act.put,lsa,lsz,lss])
    have R2 := Lib.hid hx;clear hx;refine hrd 26 rfl (fun K hK => ?_);rw [if_pos (by kernel_rfl)]
    go_simp
    refine (xTwo 1 x (twoX 3 y z) _ _ _ _ (Nat.le_refl _) X1.out R2.out).mono ?_;rintro e' v8 ⟨g8,rfl,hx,hb⟩;have HD := Lib.hid (HD.out.trans (hb.mono HD.out.size));have X1 := Lib.hid (X1.out.mono hb hb.size);have X2 := Lib.hid (X2.out.mono hb hb.size);have X3 := Lib.hid (X3.out.mono hb hb.size);have R2 := Lib.hid (R2.out.mono hb hb.size);have HB := Lib.hid (HB.out.trans (hb.mono HB.out.size));clear hb
    dsimp only
    refine hK.out _ _ HD.out (fun hHeld => ?_);clear hK K
    (try simp only [Act.put,lsa,lsz,lss])
    have R3 := Lib.hid hx;clear hx;refine hrd 27 rfl (fun K hK => ?_);rw [if_pos (by kernel_rfl)]
    go_simp
    refine (xComes _ (twoX 1 x (twoX 3 y z)) _ _ _ (Nat.le_refl _) R3.out (by simp only [twoX_size];have := S1.out;have := S2.out;have := S3.out;omega) (ans_right I1.out I2.out I3.out (Or.inl ⟨rfl,rfl⟩) (by simp only [sl_app,EA.out,EB.out,EC.out,show sl ⟨#[32,43,32]⟩ 0 = [32,43,32] from rfl,show sl ⟨#[32,42,32]⟩ 0 = [32,42,32] from rfl];simp) (by simp only [ByteArray.size_append,szL3];omega))).mono ?_;rintro e' v9 ⟨rfl,hb⟩;have HD := Lib.hid (HD.out.trans (hb.mono HD.out.size));have X1 := Lib.hid (X1.out.mono hb hb.size);have X2 := Lib.hid (X2.out.mono hb hb.size);have X3 := Lib.hid (X3.out.mono hb hb.size);have R3 := Lib.hid (R3.out.mono hb hb.size);have HB := Lib.hid (HB.out.trans (hb.mono HB.out.size));clear hb
    dsimp only
    refine hK.out _ _ HD.out (fun hHeld => ?_);clear hK K
    (try simp only [Act.put,lsa,lsz,lss])
    (refine htk 28 106 ?_ rfl ?_ ?_;rotate_left;(intro w hSw;clear hSw;go_simp);(try with_reducible rfl);simp only [lsz,lss])
    (refine htk 29 107 ?_ rfl ?_ ?_;rotate_left;(intro w hSw;clear hSw;go_simp);(try with_reducible rfl);simp only [lsz,lss])
    (refine htk 30 108 ?_ rfl ?_ ?_;rotate_left;(intro w hSw;clear hSw;go_simp);(try with_reducible rfl);simp only [lsz,lss])
    (refine htk 31 109 ?_ rfl ?_ ?_;rotate_left;(intro w hSw;clear hSw;go_simp);(try with_reducible rfl);simp only [lsz,lss])
    (refine htk 32 110 (.string (pa ++ ⟨#[32,43,32]⟩)) rfl ?_ ?_;(intro w hSw;clear hSw;go_simp;(try simp only [ByteArray.size_append,szL1,szL2,szL3]);omega);simp only [lsz,lss])
    (refine htk 33 111 ?_ rfl ?_ ?_;rotate_left;(intro w hSw;clear hSw;go_simp);(try with_reducible rfl);simp only [lsz,lss])
    (refine htk 34 112 (.string ((pa ++ ⟨#[32,43,32]⟩) ++ pb)) rfl ?_ ?_;(intro w hSw;clear hSw;go_simp;(try simp only [ByteArray.size_append,szL1,szL2,szL3]);omega);simp only [lsz,lss])
    (refine htk 35 113 ?_ rfl ?_ ?_;rotate_left;(intro w hSw;clear hSw;go_simp);(try with_reducible rfl);simp only [lsz,lss])
    (refine htk 36 114 (.string (((pa ++ ⟨#[32,43,32]⟩) ++ pb) ++ ⟨#[32,43,32]⟩)) rfl ?_ ?_;(intro w hSw;clear hSw;go_simp;(try simp only [ByteArray.size_append,szL1,szL2,szL3]);omega);simp only [lsz,lss])
    (refine htk 37 115 ?_ rfl ?_ ?_;rotate_left;(intro w hSw;clear hSw;go_simp);(try with_reducible rfl);simp only [lsz,lss])
    (refine htk 38 116 (.string ((((pa ++ ⟨#[32,43,32]⟩) ++ pb) ++ ⟨#[32,43,32]⟩) ++ pc)) rfl ?_ ?_;(intro w hSw;clear hSw;go_simp;(try simp only [ByteArray.size_append,szL1,szL2,szL3]);omega);simp only [lsz,lss])
    (refine htk 39 117 ?_ rfl ?_ ?_;rotate_left;(intro w hSw;clear hSw;go_simp);(try with_reducible rfl);simp only [lsz,lss])
    (refine htk 40 118 (.int .i64 1) rfl ?_ ?_;(intro w hSw;clear hSw;first | rfl | go_simp);simp only [lsz,lss])
    (refine htk 41 119 ?_ rfl ?_ ?_;rotate_left;(intro w hSw;clear hSw;go_simp);(try with_reducible rfl);simp only [lsz,lss])
    (refine htk 42 120 (.int .i64 1) rfl ?_ ?_;(intro w hSw;clear hSw;first | rfl | go_simp);simp only [lsz,lss])
    (refine htk 43 121 (.agg #[.int .i64 x.kind,.int .i64 x.fn,.int .i64 x.op,.int .i64 x.num,.string x.metric,.slice pm1 x.mats.length cm1,.int .i64 x.span,.slice pn1 x.names.length cn1,.slice pk1 x.kids.length ck1]) rfl ?_ ?_;(intro w hSw;have b := B1.out.keep hSw;have p0 := b.cell 0 _ rfl;have p1 := b.cell 1 _ rfl;have p2 := b.cell 2 _ rfl;have p3 := b.cell 3 _ rfl;have p4 := b.cell 4 _ rfl;have p5 := b.cell 5 _ rfl;have p6 := b.cell 6 _ rfl;have p7 := b.cell 7 _ rfl;have p8 := b.cell 8 _ rfl;go_simp);simp only [lsz,lss])
    (refine htk 44 122 (.agg #[.int .i64 y.kind,.int .i64 y.fn,.int .i64 y.op,.int .i64 y.num,.string y.metric,.slice pm2 y.mats.length cm2,.int .i64 y.span,.slice pn2 y.names.length cn2,.slice pk2 y.kids.length ck2]) rfl ?_ ?_;(intro w hSw;have b := B2.out.keep hSw;have p0 := b.cell 0 _ rfl;have p1 := b.cell 1 _ rfl;have p2 := b.cell 2 _ rfl;have p3 := b.cell 3 _ rfl;have p4 := b.cell 4 _ rfl;have p5 := b.cell 5 _ rfl;have p6 := b.cell 6 _ rfl;have p7 := b.cell 7 _ rfl;have p8 := b.cell 8 _ rfl;go_simp);simp only [lsz,lss])
    (refine htk 46 124 (.agg #[.int .i64 z.kind,.int .i64 z.fn,.int .i64 z.op,.int .i64 z.num,.string z.metric,.slice pm3 z.mats.length cm3,.int .i64 z.span,.slice pn3 z.names.length cn3,.slice pk3 z.kids.length ck3]) rfl ?_ ?_;(intro w hSw;have b := B3.out.keep hSw;have p0 := b.cell 0 _ rfl;have p1 := b.cell 1 _ rfl;have p2 := b.cell 2 _ rfl;have p3 := b.cell 3 _ rfl;have p4 := b.cell 4 _ rfl;have p5 := b.cell 5 _ rfl;have p6 := b.cell 6 _ rfl;have p7 := b.cell 7 _ rfl;have p8 := b.cell 8 _ rfl;go_simp);simp only [lsz,lss])
    refine hrd 45 rfl (fun K hK => ?_);rw [if_pos (by kernel_rfl)]
    go_simp
    refine (xTwo 1 x y _ _ _ _ (Nat.le_refl _) X1.out X2.out).mono ?_;rintro e' v10 ⟨g10,rfl,hx,hb⟩;have HD := Lib.hid (HD.out.trans (hb.mono HD.out.size));have X1 := Lib.hid (X1.out.mono hb hb.size);have X2 := Lib.hid (X2.out.mono hb hb.size);have X3 := Lib.hid (X3.out.mono hb hb.size);have HB := Lib.hid (HB.out.trans (hb.mono HB.out.size));clear hb
    dsimp only
    refine hK.out _ _ HD.out (fun hHeld => ?_);clear hK K
    (try simp only [Act.put,lsa,lsz,lss])
    have R4 := Lib.hid hx;clear hx;refine hrd 47 rfl (fun K hK => ?_);rw [if_pos (by kernel_rfl)]
    go_simp
    refine (xTwo 1 (twoX 1 x y) z _ _ _ _ (Nat.le_refl _) R4.out X3.out).mono ?_;rintro e' v11 ⟨g11,rfl,hx,hb⟩;have HD := Lib.hid (HD.out.trans (hb.mono HD.out.size));have X1 := Lib.hid (X1.out.mono hb hb.size);have X2 := Lib.hid (X2.out.mono hb hb.size);have X3 := Lib.hid (X3.out.mono hb hb.size);have R4 := Lib.hid (R4.out.mono hb hb.size);have HB := Lib.hid (HB.out.trans (hb.mono HB.out.size));clear hb
    dsimp only
    refine hK.out _ _ HD.out (fun hHeld => ?_);clear hK K
    (try simp only [Act.put,lsa,lsz,lss])
    have R5 := Lib.hid hx;clear hx;refine hrd 48 rfl (fun K hK => ?_);rw [if_pos (by kernel_rfl)]
    go_simp
    refine (xComes _ (twoX 1 (twoX 1 x y) z) _ _ _ (Nat.le_refl _) R5.out (by simp only [twoX_size];have := S1.out;have := S2.out;have := S3.out;omega) (ans_left I1.out I2.out I3.out (Or.inl ⟨rfl,rfl⟩) (by simp only [sl_app,EA.out,EB.out,EC.out,show sl ⟨#[32,43,32]⟩ 0 = [32,43,32] from rfl,show sl ⟨#[32,42,32]⟩ 0 = [32,42,32] from rfl];simp) (by simp only [ByteArray.size_append,szL3];omega))).mono ?_;rintro e' v12 ⟨rfl,hb⟩;have HD := Lib.hid (HD.out.trans (hb.mono HD.out.size));have X1 := Lib.hid (X1.out.mono hb hb.size);have X2 := Lib.hid (X2.out.mono hb hb.size);have X3 := Lib.hid (X3.out.mono hb hb.size);have R5 := Lib.hid (R5.out.mono hb hb.size);have HB := Lib.hid (HB.out.trans (hb.mono HB.out.size));clear hb
    dsimp only
    refine hK.out _ _ HD.out (fun hHeld => ?_);clear hK K
    (try simp only [Act.put,lsa,lsz,lss])
    (refine htk 49 127 ?_ rfl ?_ ?_;rotate_left;(intro w hSw;clear hSw;go_simp);(try with_reducible rfl);simp only [lsz,lss])
    (refine htk 50 128 ?_ rfl ?_ ?_;rotate_left;(intro w hSw;clear hSw;go_simp);(try with_reducible rfl);simp only [lsz,lss])
    (refine htk 51 129 ?_ rfl ?_ ?_;rotate_left;(intro w hSw;clear hSw;go_simp);(try with_reducible rfl);simp only [lsz,lss])
    (refine htk 52 130 (.string (pa ++ ⟨#[32,42,32]⟩)) rfl ?_ ?_;(intro w hSw;clear hSw;go_simp;(try simp only [ByteArray.size_append,szL1,szL2,szL3]);omega);simp only [lsz,lss])
    (refine htk 53 131 ?_ rfl ?_ ?_;rotate_left;(intro w hSw;clear hSw;go_simp);(try with_reducible rfl);simp only [lsz,lss])
    (refine htk 54 132 (.string ((pa ++ ⟨#[32,42,32]⟩) ++ pb)) rfl ?_ ?_;(intro w hSw;clear hSw;go_simp;(try simp only [ByteArray.size_append,szL1,szL2,szL3]);omega);simp only [lsz,lss])
    (refine htk 55 133 ?_ rfl ?_ ?_;rotate_left;(intro w hSw;clear hSw;go_simp);(try with_reducible rfl);simp only [lsz,lss])
    (refine htk 56 134 (.string (((pa ++ ⟨#[32,42,32]⟩) ++ pb) ++ ⟨#[32,43,32]⟩)) rfl ?_ ?_;(intro w hSw;clear hSw;go_simp;(try simp only [ByteArray.size_append,szL1,szL2,szL3]);omega);simp only [lsz,lss])
    (refine htk 57 135 ?_ rfl ?_ ?_;rotate_left;(intro w hSw;clear hSw;go_simp);(try with_reducible rfl);simp only [lsz,lss])
    (refine htk 58 136 (.string ((((pa ++ ⟨#[32,42,32]⟩) ++ pb) ++ ⟨#[32,43,32]⟩) ++ pc)) rfl ?_ ?_;(intro w hSw;clear hSw;go_simp;(try simp only [ByteArray.size_append,szL1,szL2,szL3]);omega);simp only [lsz,lss])
    (refine htk 59 137 ?_ rfl ?_ ?_;rotate_left;(intro w hSw;clear hSw;go_simp);(try with_reducible rfl);simp only [lsz,lss])
    (refine htk 60 138 (.int .i64 1) rfl ?_ ?_;(intro w hSw;clear hSw;first | rfl | go_simp);simp only [lsz,lss])
    (refine htk 61 139 (.agg #[.int .i64 x.kind,.int .i64 x.fn,.int .i64 x.op,.int .i64 x.num,.string x.metric,.slice pm1 x.mats.length cm1,.int .i64 x.span,.slice pn1 x.names.length cn1,.slice pk1 x.kids.length ck1]) rfl ?_ ?_;(intro w hSw;have b := B1.out.keep hSw;have p0 := b.cell 0 _ rfl;have p1 := b.cell 1 _ rfl;have p2 := b.cell 2 _ rfl;have p3 := b.cell 3 _ rfl;have p4 := b.cell 4 _ rfl;have p5 := b.cell 5 _ rfl;have p6 := b.cell 6 _ rfl;have p7 := b.cell 7 _ rfl;have p8 := b.cell 8 _ rfl;go_simp);simp only [lsz,lss])
    (refine htk 62 140 (.agg #[.int .i64 y.kind,.int .i64 y.fn,.int .i64 y.op,.int .i64 y.num,.string y.metric,.slice pm2 y.mats.length cm2,.int .i64 y.span,.slice pn2 y.names.length cn2,.slice pk2 y.kids.length ck2]) rfl ?_ ?_;(intro w hSw;have b := B2.out.keep hSw;have p0 := b.cell 0 _ rfl;have p1 := b.cell 1 _ rfl;have p2 := b.cell 2 _ rfl;have p3 := b.cell 3 _ rfl;have p4 := b.cell 4 _ rfl;have p5 := b.cell 5 _ rfl;have p6 := b.cell 6 _ rfl;have p7 := b.cell 7 _ rfl;have p8 := b.cell 8 _ rfl;go_simp);simp only [lsz,lss])
    (refine htk 64 142 (.agg #[.int .i64 z.kind,.int .i64 z.fn,.int .i64 z.op,.int .i64 z.num,.string z.metric,.slice pm3 z.mats.length cm3,.int .i64 z.span,.slice pn3 z.names.length cn3,.slice pk3 z.kids.length ck3]) rfl ?_ ?_;(intro w hSw;have b := B3.out.keep hSw;have p0 := b.cell 0 _ rfl;have p1 := b.cell 1 _ rfl;have p2 := b.cell 2 _ rfl;have p3 := b.cell 3 _ rfl;have p4 := b.cell 4 _ rfl;have p5 := b.cell 5 _ rfl;have p6 := b.cell 6 _ rfl;have p7 := b.cell 7 _ rfl;have p8 := b.cell 8 _ rfl;go_simp);simp only [lsz,lss])
    refine hrd 63 rfl (fun K hK => ?_);rw [if_pos (by kernel_rfl)]
    go_simp
    refine (xTwo 3 x y _ _ _ _ (Nat.le_refl _) X1.out X2.out).mono ?_;rintro e' v13 ⟨g13,rfl,hx,hb⟩;have HD := Lib.hid (HD.out.trans (hb.mono HD.out.size));have X1 := Lib.hid (X1.out.mono hb hb.size);have X2 := Lib.hid (X2.out.mono hb hb.size);have X3 := Lib.hid (X3.out.mono hb hb.size);have HB := Lib.hid (HB.out.trans (hb.mono HB.out.size));clear hb
    dsimp only
    refine hK.out _ _ HD.out (fun hHeld => ?_);clear hK K
    (try simp only [Act.put,lsa,lsz,lss])
    have R6 := Lib.hid hx;clear hx;refine hrd 65 rfl (fun K hK => ?_);rw [if_pos (by kernel_rfl)]
    go_simp
    refine (xTwo 1 (twoX 3 x y) z _ _ _ _ (Nat.le_refl _) R6.out X3.out).mono ?_;rintro e' v14 ⟨g14,rfl,hx,hb⟩;have HD := Lib.hid (HD.out.trans (hb.mono HD.out.size));have X1 := Lib.hid (X1.out.mono hb hb.size);have X2 := Lib.hid (X2.out.mono hb hb.size);have X3 := Lib.hid (X3.out.mono hb hb.size);have R6 := Lib.hid (R6.out.mono hb hb.size);have HB := Lib.hid (HB.out.trans (hb.mono HB.out.size));clear hb
    dsimp only
    refine hK.out _ _ HD.out (fun hHeld => ?_);clear hK K
    (try simp only [Act.put,lsa,lsz,lss])
    have R7 := Lib.hid hx;clear hx;refine hrd 66 rfl (fun K hK => ?_);rw [if_pos (by kernel_rfl)]
    go_simp
    refine (xComes _ (twoX 1 (twoX 3 x y) z) _ _ _ (Nat.le_refl _) R7.out (by simp only [twoX_size];have := S1.out;have := S2.out;have := S3.out;omega) (ans_mul I1.out I2.out I3.out (Or.inl ⟨rfl,rfl⟩) (by simp only [sl_app,EA.out,EB.out,EC.out,show sl ⟨#[32,43,32]⟩ 0 = [32,43,32] from rfl,show sl ⟨#[32,42,32]⟩ 0 = [32,42,32] from rfl];simp) (by simp only [ByteArray.size_append,szL3];omega))).mono ?_;rintro e' v15 ⟨rfl,hb⟩;have HD := Lib.hid (HD.out.trans (hb.mono HD.out.size));have X1 := Lib.hid (X1.out.mono hb hb.size);have X2 := Lib.hid (X2.out.mono hb hb.size);have X3 := Lib.hid (X3.out.mono hb hb.size);have R7 := Lib.hid (R7.out.mono hb hb.size);have HB := Lib.hid (HB.out.trans (hb.mono HB.out.size));clear hb
    dsimp only
    refine hK.out _ _ HD.out (fun hHeld => ?_);clear hK K
    (try simp only [Act.put,lsa,lsz,lss])
    (refine htk 67 145 ?_ rfl ?_ ?_;rotate_left;(intro w hSw;clear hSw;go_simp);(try with_reducible rfl);simp only [lsz,lss])
    (refine htk 68 8 ?_ rfl ?_ ?_;rotate_left;(intro w hSw;clear hSw;go_simp);(try with_reducible rfl);simp only [lsz,lss])
    refine wpAnyH_done (by kernel_rfl) ?_ _;go_wp2;go_ret;exact ⟨rfl,HB.out⟩
  · skip
    go_upto_region 13 with fail
    obtain ⟨y4,hW⟩ : ∃ zz,y3.alloc (.cells #[.string ⟨#[32,43,32]⟩,.string ⟨#[32,45,32]⟩] 9) = zz := ⟨_,rfl⟩;have kb : Below y3.heap.size y3 y4 := by rw [← hW];exact (Below.refl _ _).alloc (Nat.le_refl _) _
    rw [hW];clear hW;have X1 := Lib.hid (X1.out.mono kb kb.size);have B1 := Lib.hid (B1.out.keep kb);have X2 := Lib.hid (X2.out.mono kb kb.size);have B2 := Lib.hid (B2.out.keep kb);have X3 := Lib.hid (X3.out.mono kb kb.size);have B3 := Lib.hid (B3.out.keep kb);have HB := Lib.hid (HB.out.trans (kb.mono HB.out.size));clear kb;have EA : sl (⟨#[40]⟩ ++ a ++ ⟨#[10,41]⟩) 0 = 40 :: (sl a 0 ++ [10,41]) := by rw [sl_app,sl_app,show sl ⟨#[40]⟩ 0 = [40] from rfl,show sl ⟨#[10,41]⟩ 0 = [10,41] from rfl];rfl
    have ZA : (⟨#[40]⟩ ++ a ++ ⟨#[10,41]⟩ : ByteArray).size ≤ 2003 := by simp only [ByteArray.size_append,szL1,szL2];omega
    generalize (⟨#[40]⟩ ++ a ++ ⟨#[10,41]⟩ : ByteArray) = pa at EA ZA ⊢;have EA := Lib.hid EA;have EB : sl (⟨#[40]⟩ ++ b ++ ⟨#[10,41]⟩) 0 = 40 :: (sl b 0 ++ [10,41]) := by rw [sl_app,sl_app,show sl ⟨#[40]⟩ 0 = [40] from rfl,show sl ⟨#[10,41]⟩ 0 = [10,41] from rfl];rfl
    have ZB : (⟨#[40]⟩ ++ b ++ ⟨#[10,41]⟩ : ByteArray).size ≤ 2003 := by simp only [ByteArray.size_append,szL1,szL2];omega
    generalize (⟨#[40]⟩ ++ b ++ ⟨#[10,41]⟩ : ByteArray) = pb at EB ZB ⊢;have EB := Lib.hid EB;have EC : sl (⟨#[40]⟩ ++ c ++ ⟨#[10,41]⟩) 0 = 40 :: (sl c 0 ++ [10,41]) := by rw [sl_app,sl_app,show sl ⟨#[40]⟩ 0 = [40] from rfl,show sl ⟨#[10,41]⟩ 0 = [10,41] from rfl];rfl
    have ZC : (⟨#[40]⟩ ++ c ++ ⟨#[10,41]⟩ : ByteArray).size ≤ 2003 := by simp only [ByteArray.size_append,szL1,szL2];omega
    generalize (⟨#[40]⟩ ++ c ++ ⟨#[10,41]⟩ : ByteArray) = pc at EC ZC ⊢;have EC := Lib.hid EC;refine wp_region_held_drew (S := fun X => Below y4.heap.size y4 X) (by kernel_rfl) (Below.drew (Below.refl _ _)) (fun hHeld => ?_);have hd : Below y4.heap.size y4 y4.drew := Below.drew (Below.refl _ _);have X1 := Lib.hid (X1.out.mono hd hd.size);have X2 := Lib.hid (X2.out.mono hd hd.size);have X3 := Lib.hid (X3.out.mono hd hd.size);have HB := Lib.hid (HB.out.trans (hd.mono HB.out.size));have HD := Lib.hid hd;clear hd
    (refine htk 0 78 ?_ rfl ?_ ?_;rotate_left;(intro w hSw;clear hSw;go_simp);(try with_reducible rfl);simp only [lsz,lss])
    (refine htk 1 79 ?_ rfl ?_ ?_;rotate_left;(intro w hSw;clear hSw;go_simp);(try with_reducible rfl);simp only [lsz,lss])
    (refine htk 2 80 (.string (pa ++ ⟨#[32,45,32]⟩)) rfl ?_ ?_;(intro w hSw;clear hSw;go_simp;(try simp only [ByteArray.size_append,szL1,szL2,szL3]);omega);simp only [lsz,lss])
    (refine htk 3 81 ?_ rfl ?_ ?_;rotate_left;(intro w hSw;clear hSw;go_simp);(try with_reducible rfl);simp only [lsz,lss])
    (refine htk 4 82 (.string ((pa ++ ⟨#[32,45,32]⟩) ++ pb)) rfl ?_ ?_;(intro w hSw;clear hSw;go_simp;(try simp only [ByteArray.size_append,szL1,szL2,szL3]);omega);simp only [lsz,lss])
    (refine htk 5 83 ?_ rfl ?_ ?_;rotate_left;(intro w hSw;clear hSw;go_simp);(try with_reducible rfl);simp only [lsz,lss])
    (refine htk 6 84 (.int .i64 2) rfl ?_ ?_;(intro w hSw;clear hSw;first | rfl | go_simp);simp only [lsz,lss])
    (refine htk 7 85 (.agg #[.int .i64 x.kind,.int .i64 x.fn,.int .i64 x.op,.int .i64 x.num,.string x.metric,.slice pm1 x.mats.length cm1,.int .i64 x.span,.slice pn1 x.names.length cn1,.slice pk1 x.kids.length ck1]) rfl ?_ ?_;(intro w hSw;have b := B1.out.keep hSw;have p0 := b.cell 0 _ rfl;have p1 := b.cell 1 _ rfl;have p2 := b.cell 2 _ rfl;have p3 := b.cell 3 _ rfl;have p4 := b.cell 4 _ rfl;have p5 := b.cell 5 _ rfl;have p6 := b.cell 6 _ rfl;have p7 := b.cell 7 _ rfl;have p8 := b.cell 8 _ rfl;go_simp);simp only [lsz,lss])
    (refine htk 8 86 (.agg #[.int .i64 y.kind,.int .i64 y.fn,.int .i64 y.op,.int .i64 y.num,.string y.metric,.slice pm2 y.mats.length cm2,.int .i64 y.span,.slice pn2 y.names.length cn2,.slice pk2 y.kids.length ck2]) rfl ?_ ?_;(intro w hSw;have b := B2.out.keep hSw;have p0 := b.cell 0 _ rfl;have p1 := b.cell 1 _ rfl;have p2 := b.cell 2 _ rfl;have p3 := b.cell 3 _ rfl;have p4 := b.cell 4 _ rfl;have p5 := b.cell 5 _ rfl;have p6 := b.cell 6 _ rfl;have p7 := b.cell 7 _ rfl;have p8 := b.cell 8 _ rfl;go_simp);simp only [lsz,lss])
    refine hrd 9 rfl (fun K hK => ?_);rw [if_pos (by kernel_rfl)]
    go_simp
    refine (xTwo 2 x y _ _ _ _ (Nat.le_refl _) X1.out X2.out).mono ?_;rintro e' v5 ⟨g5,rfl,hx,hb⟩;have HD := Lib.hid (HD.out.trans (hb.mono HD.out.size));have X1 := Lib.hid (X1.out.mono hb hb.size);have X2 := Lib.hid (X2.out.mono hb hb.size);have X3 := Lib.hid (X3.out.mono hb hb.size);have HB := Lib.hid (HB.out.trans (hb.mono HB.out.size));clear hb
    dsimp only
    refine hK.out _ _ HD.out (fun hHeld => ?_);clear hK K
    (try simp only [Act.put,lsa,lsz,lss])
    have R1 := Lib.hid hx;clear hx;refine hrd 10 rfl (fun K hK => ?_);rw [if_pos (by kernel_rfl)]
    go_simp
    refine (xComes _ (twoX 2 x y) _ _ _ (Nat.le_refl _) R1.out (by simp only [twoX_size];have := S1.out;have := S2.out;have := S3.out;omega) (ans_two I1.out I2.out (Or.inr ⟨rfl,rfl⟩) (by simp only [sl_app,EA.out,EB.out,EC.out,show sl ⟨#[32,45,32]⟩ 0 = [32,45,32] from rfl,show sl ⟨#[32,42,32]⟩ 0 = [32,42,32] from rfl];simp) (by simp only [ByteArray.size_append,szL3];omega))).mono ?_;rintro e' v6 ⟨rfl,hb⟩;have HD := Lib.hid (HD.out.trans (hb.mono HD.out.size));have X1 := Lib.hid (X1.out.mono hb hb.size);have X2 := Lib.hid (X2.out.mono hb hb.size);have X3 := Lib.hid (X3.out.mono hb hb.size);have R1 := Lib.hid (R1.out.mono hb hb.size);have HB := Lib.hid (HB.out.trans (hb.mono HB.out.size));clear hb
    dsimp only
    refine hK.out _ _ HD.out (fun hHeld => ?_);clear hK K
    (try simp only [Act.put,lsa,lsz,lss])
    (refine htk 11 89 ?_ rfl ?_ ?_;rotate_left;(intro w hSw;clear hSw;go_simp);(try with_reducible rfl);simp only [lsz,lss])
    (refine htk 12 90 ?_ rfl ?_ ?_;rotate_left;(intro w hSw;clear hSw;go_simp);(try with_reducible rfl);simp only [lsz,lss])
    (refine htk 13 91 ?_ rfl ?_ ?_;rotate_left;(intro w hSw;clear hSw;go_simp);(try with_reducible rfl);simp only [lsz,lss])
    (refine htk 14 92 (.string (pa ++ ⟨#[32,45,32]⟩)) rfl ?_ ?_;(intro w hSw;clear hSw;go_simp;(try simp only [ByteArray.size_append,szL1,szL2,szL3]);omega);simp only [lsz,lss])
    (refine htk 15 93 ?_ rfl ?_ ?_;rotate_left;(intro w hSw;clear hSw;go_simp);(try with_reducible rfl);simp only [lsz,lss])
    (refine htk 16 94 (.string ((pa ++ ⟨#[32,45,32]⟩) ++ pb)) rfl ?_ ?_;(intro w hSw;clear hSw;go_simp;(try simp only [ByteArray.size_append,szL1,szL2,szL3]);omega);simp only [lsz,lss])
    (refine htk 17 95 (.string (((pa ++ ⟨#[32,45,32]⟩) ++ pb) ++ ⟨#[32,42,32]⟩)) rfl ?_ ?_;(intro w hSw;clear hSw;go_simp;(try simp only [ByteArray.size_append,szL1,szL2,szL3]);omega);simp only [lsz,lss])
    (refine htk 18 96 ?_ rfl ?_ ?_;rotate_left;(intro w hSw;clear hSw;go_simp);(try with_reducible rfl);simp only [lsz,lss])
    (refine htk 19 97 (.string ((((pa ++ ⟨#[32,45,32]⟩) ++ pb) ++ ⟨#[32,42,32]⟩) ++ pc)) rfl ?_ ?_;(intro w hSw;clear hSw;go_simp;(try simp only [ByteArray.size_append,szL1,szL2,szL3]);omega);simp only [lsz,lss])
    (refine htk 20 98 ?_ rfl ?_ ?_;rotate_left;(intro w hSw;clear hSw;go_simp);(try with_reducible rfl);simp only [lsz,lss])
    (refine htk 21 99 (.int .i64 2) rfl ?_ ?_;(intro w hSw;clear hSw;first | rfl | go_simp);simp only [lsz,lss])
    (refine htk 22 100 (.agg #[.int .i64 x.kind,.int .i64 x.fn,.int .i64 x.op,.int .i64 x.num,.string x.metric,.slice pm1 x.mats.length cm1,.int .i64 x.span,.slice pn1 x.names.length cn1,.slice pk1 x.kids.length ck1]) rfl ?_ ?_;(intro w hSw;have b := B1.out.keep hSw;have p0 := b.cell 0 _ rfl;have p1 := b.cell 1 _ rfl;have p2 := b.cell 2 _ rfl;have p3 := b.cell 3 _ rfl;have p4 := b.cell 4 _ rfl;have p5 := b.cell 5 _ rfl;have p6 := b.cell 6 _ rfl;have p7 := b.cell 7 _ rfl;have p8 := b.cell 8 _ rfl;go_simp);simp only [lsz,lss])
    (refine htk 23 101 (.agg #[.int .i64 y.kind,.int .i64 y.fn,.int .i64 y.op,.int .i64 y.num,.string y.metric,.slice pm2 y.mats.length cm2,.int .i64 y.span,.slice pn2 y.names.length cn2,.slice pk2 y.kids.length ck2]) rfl ?_ ?_;(intro w hSw;have b := B2.out.keep hSw;have p0 := b.cell 0 _ rfl;have p1 := b.cell 1 _ rfl;have p2 := b.cell 2 _ rfl;have p3 := b.cell 3 _ rfl;have p4 := b.cell 4 _ rfl;have p5 := b.cell 5 _ rfl;have p6 := b.cell 6 _ rfl;have p7 := b.cell 7 _ rfl;have p8 := b.cell 8 _ rfl;go_simp);simp only [lsz,lss])
    (refine htk 24 102 (.agg #[.int .i64 z.kind,.int .i64 z.fn,.int .i64 z.op,.int .i64 z.num,.string z.metric,.slice pm3 z.mats.length cm3,.int .i64 z.span,.slice pn3 z.names.length cn3,.slice pk3 z.kids.length ck3]) rfl ?_ ?_;(intro w hSw;have b := B3.out.keep hSw;have p0 := b.cell 0 _ rfl;have p1 := b.cell 1 _ rfl;have p2 := b.cell 2 _ rfl;have p3 := b.cell 3 _ rfl;have p4 := b.cell 4 _ rfl;have p5 := b.cell 5 _ rfl;have p6 := b.cell 6 _ rfl;have p7 := b.cell 7 _ rfl;have p8 := b.cell 8 _ rfl;go_simp);simp only [lsz,lss])
    refine hrd 25 rfl (fun K hK => ?_);rw [if_pos (by kernel_rfl)]
    go_simp
    refine (xTwo 3 y z _ _ _ _ (Nat.le_refl _) X2.out X3.out).mono ?_;rintro e' v7 ⟨g7,rfl,hx,hb⟩;have HD := Lib.hid (HD.out.trans (hb.mono HD.out.size));have X1 := Lib.hid (X1.out.mono hb hb.size);have X2 := Lib.hid (X2.out.mono hb hb.size);have X3 := Lib.hid (X3.out.mono hb hb.size);have HB := Lib.hid (HB.out.trans (hb.mono HB.out.size));clear hb
    dsimp only
    refine hK.out _ _ HD.out (fun hHeld => ?_);clear hK K
    (try simp only [Act.put,lsa,lsz,lss])
    have R2 := Lib.hid hx;clear hx;refine hrd 26 rfl (fun K hK => ?_);rw [if_pos (by kernel_rfl)]
    go_simp
    refine (xTwo 2 x (twoX 3 y z) _ _ _ _ (Nat.le_refl _) X1.out R2.out).mono ?_;rintro e' v8 ⟨g8,rfl,hx,hb⟩;have HD := Lib.hid (HD.out.trans (hb.mono HD.out.size));have X1 := Lib.hid (X1.out.mono hb hb.size);have X2 := Lib.hid (X2.out.mono hb hb.size);have X3 := Lib.hid (X3.out.mono hb hb.size);have R2 := Lib.hid (R2.out.mono hb hb.size);have HB := Lib.hid (HB.out.trans (hb.mono HB.out.size));clear hb
    dsimp only
    refine hK.out _ _ HD.out (fun hHeld => ?_);clear hK K
    (try simp only [Act.put,lsa,lsz,lss])
    have R3 := Lib.hid hx;clear hx;refine hrd 27 rfl (fun K hK => ?_);rw [if_pos (by kernel_rfl)]
    go_simp
    refine (xComes _ (twoX 2 x (twoX 3 y z)) _ _ _ (Nat.le_refl _) R3.out (by simp only [twoX_size];have := S1.out;have := S2.out;have := S3.out;omega) (ans_right I1.out I2.out I3.out (Or.inr ⟨rfl,rfl⟩) (by simp only [sl_app,EA.out,EB.out,EC.out,show sl ⟨#[32,45,32]⟩ 0 = [32,45,32] from rfl,show sl ⟨#[32,42,32]⟩ 0 = [32,42,32] from rfl];simp) (by simp only [ByteArray.size_append,szL3];omega))).mono ?_;rintro e' v9 ⟨rfl,hb⟩;have HD := Lib.hid (HD.out.trans (hb.mono HD.out.size));have X1 := Lib.hid (X1.out.mono hb hb.size);have X2 := Lib.hid (X2.out.mono hb hb.size);have X3 := Lib.hid (X3.out.mono hb hb.size);have R3 := Lib.hid (R3.out.mono hb hb.size);have HB := Lib.hid (HB.out.trans (hb.mono HB.out.size));clear hb
    dsimp only
    refine hK.out _ _ HD.out (fun hHeld => ?_);clear hK K
    (try simp only [Act.put,lsa,lsz,lss])
    (refine htk 28 106 ?_ rfl ?_ ?_;rotate_left;(intro w hSw;clear hSw;go_simp);(try with_reducible rfl);simp only [lsz,lss])
    (refine htk 29 107 ?_ rfl ?_ ?_;rotate_left;(intro w hSw;clear hSw;go_simp);(try with_reducible rfl);simp only [lsz,lss])
    (refine htk 30 108 ?_ rfl ?_ ?_;rotate_left;(intro w hSw;clear hSw;go_simp);(try with_reducible rfl);simp only [lsz,lss])
    (refine htk 31 109 ?_ rfl ?_ ?_;rotate_left;(intro w hSw;clear hSw;go_simp);(try with_reducible rfl);simp only [lsz,lss])
    (refine htk 32 110 (.string (pa ++ ⟨#[32,45,32]⟩)) rfl ?_ ?_;(intro w hSw;clear hSw;go_simp;(try simp only [ByteArray.size_append,szL1,szL2,szL3]);omega);simp only [lsz,lss])
    (refine htk 33 111 ?_ rfl ?_ ?_;rotate_left;(intro w hSw;clear hSw;go_simp);(try with_reducible rfl);simp only [lsz,lss])
    (refine htk 34 112 (.string ((pa ++ ⟨#[32,45,32]⟩) ++ pb)) rfl ?_ ?_;(intro w hSw;clear hSw;go_simp;(try simp only [ByteArray.size_append,szL1,szL2,szL3]);omega);simp only [lsz,lss])
    (refine htk 35 113 ?_ rfl ?_ ?_;rotate_left;(intro w hSw;clear hSw;go_simp);(try with_reducible rfl);simp only [lsz,lss])
    (refine htk 36 114 (.string (((pa ++ ⟨#[32,45,32]⟩) ++ pb) ++ ⟨#[32,45,32]⟩)) rfl ?_ ?_;(intro w hSw;clear hSw;go_simp;(try simp only [ByteArray.size_append,szL1,szL2,szL3]);omega);simp only [lsz,lss])
    (refine htk 37 115 ?_ rfl ?_ ?_;rotate_left;(intro w hSw;clear hSw;go_simp);(try with_reducible rfl);simp only [lsz,lss])
    (refine htk 38 116 (.string ((((pa ++ ⟨#[32,45,32]⟩) ++ pb) ++ ⟨#[32,45,32]⟩) ++ pc)) rfl ?_ ?_;(intro w hSw;clear hSw;go_simp;(try simp only [ByteArray.size_append,szL1,szL2,szL3]);omega);simp only [lsz,lss])
    (refine htk 39 117 ?_ rfl ?_ ?_;rotate_left;(intro w hSw;clear hSw;go_simp);(try with_reducible rfl);simp only [lsz,lss])
    (refine htk 40 118 (.int .i64 2) rfl ?_ ?_;(intro w hSw;clear hSw;first | rfl | go_simp);simp only [lsz,lss])
    (refine htk 41 119 ?_ rfl ?_ ?_;rotate_left;(intro w hSw;clear hSw;go_simp);(try with_reducible rfl);simp only [lsz,lss])
    (refine htk 42 120 (.int .i64 2) rfl ?_ ?_;(intro w hSw;clear hSw;first | rfl | go_simp);simp only [lsz,lss])
    (refine htk 43 121 (.agg #[.int .i64 x.kind,.int .i64 x.fn,.int .i64 x.op,.int .i64 x.num,.string x.metric,.slice pm1 x.mats.length cm1,.int .i64 x.span,.slice pn1 x.names.length cn1,.slice pk1 x.kids.length ck1]) rfl ?_ ?_;(intro w hSw;have b := B1.out.keep hSw;have p0 := b.cell 0 _ rfl;have p1 := b.cell 1 _ rfl;have p2 := b.cell 2 _ rfl;have p3 := b.cell 3 _ rfl;have p4 := b.cell 4 _ rfl;have p5 := b.cell 5 _ rfl;have p6 := b.cell 6 _ rfl;have p7 := b.cell 7 _ rfl;have p8 := b.cell 8 _ rfl;go_simp);simp only [lsz,lss])
    (refine htk 44 122 (.agg #[.int .i64 y.kind,.int .i64 y.fn,.int .i64 y.op,.int .i64 y.num,.string y.metric,.slice pm2 y.mats.length cm2,.int .i64 y.span,.slice pn2 y.names.length cn2,.slice pk2 y.kids.length ck2]) rfl ?_ ?_;(intro w hSw;have b := B2.out.keep hSw;have p0 := b.cell 0 _ rfl;have p1 := b.cell 1 _ rfl;have p2 := b.cell 2 _ rfl;have p3 := b.cell 3 _ rfl;have p4 := b.cell 4 _ rfl;have p5 := b.cell 5 _ rfl;have p6 := b.cell 6 _ rfl;have p7 := b.cell 7 _ rfl;have p8 := b.cell 8 _ rfl;go_simp);simp only [lsz,lss])
    (refine htk 46 124 (.agg #[.int .i64 z.kind,.int .i64 z.fn,.int .i64 z.op,.int .i64 z.num,.string z.metric,.slice pm3 z.mats.length cm3,.int .i64 z.span,.slice pn3 z.names.length cn3,.slice pk3 z.kids.length ck3]) rfl ?_ ?_;(intro w hSw;have b := B3.out.keep hSw;have p0 := b.cell 0 _ rfl;have p1 := b.cell 1 _ rfl;have p2 := b.cell 2 _ rfl;have p3 := b.cell 3 _ rfl;have p4 := b.cell 4 _ rfl;have p5 := b.cell 5 _ rfl;have p6 := b.cell 6 _ rfl;have p7 := b.cell 7 _ rfl;have p8 := b.cell 8 _ rfl;go_simp);simp only [lsz,lss])
    refine hrd 45 rfl (fun K hK => ?_);rw [if_pos (by kernel_rfl)]
    go_simp
    refine (xTwo 2 x y _ _ _ _ (Nat.le_refl _) X1.out X2.out).mono ?_;rintro e' v10 ⟨g10,rfl,hx,hb⟩;have HD := Lib.hid (HD.out.trans (hb.mono HD.out.size));have X1 := Lib.hid (X1.out.mono hb hb.size);have X2 := Lib.hid (X2.out.mono hb hb.size);have X3 := Lib.hid (X3.out.mono hb hb.size);have HB := Lib.hid (HB.out.trans (hb.mono HB.out.size));clear hb
    dsimp only
    refine hK.out _ _ HD.out (fun hHeld => ?_);clear hK K
    (try simp only [Act.put,lsa,lsz,lss])
    have R4 := Lib.hid hx;clear hx;refine hrd 47 rfl (fun K hK => ?_);rw [if_pos (by kernel_rfl)]
    go_simp
    refine (xTwo 2 (twoX 2 x y) z _ _ _ _ (Nat.le_refl _) R4.out X3.out).mono ?_;rintro e' v11 ⟨g11,rfl,hx,hb⟩;have HD := Lib.hid (HD.out.trans (hb.mono HD.out.size));have X1 := Lib.hid (X1.out.mono hb hb.size);have X2 := Lib.hid (X2.out.mono hb hb.size);have X3 := Lib.hid (X3.out.mono hb hb.size);have R4 := Lib.hid (R4.out.mono hb hb.size);have HB := Lib.hid (HB.out.trans (hb.mono HB.out.size));clear hb
    dsimp only
    refine hK.out _ _ HD.out (fun hHeld => ?_);clear hK K
    (try simp only [Act.put,lsa,lsz,lss])
    have R5 := Lib.hid hx;clear hx;refine hrd 48 rfl (fun K hK => ?_);rw [if_pos (by kernel_rfl)]
    go_simp
    refine (xComes _ (twoX 2 (twoX 2 x y) z) _ _ _ (Nat.le_refl _) R5.out (by simp only [twoX_size];have := S1.out;have := S2.out;have := S3.out;omega) (ans_left I1.out I2.out I3.out (Or.inr ⟨rfl,rfl⟩) (by simp only [sl_app,EA.out,EB.out,EC.out,show sl ⟨#[32,45,32]⟩ 0 = [32,45,32] from rfl,show sl ⟨#[32,42,32]⟩ 0 = [32,42,32] from rfl];simp) (by simp only [ByteArray.size_append,szL3];omega))).mono ?_;rintro e' v12 ⟨rfl,hb⟩;have HD := Lib.hid (HD.out.trans (hb.mono HD.out.size));have X1 := Lib.hid (X1.out.mono hb hb.size);have X2 := Lib.hid (X2.out.mono hb hb.size);have X3 := Lib.hid (X3.out.mono hb hb.size);have R5 := Lib.hid (R5.out.mono hb hb.size);have HB := Lib.hid (HB.out.trans (hb.mono HB.out.size));clear hb
    dsimp only
    refine hK.out _ _ HD.out (fun hHeld => ?_);clear hK K
    (try simp only [Act.put,lsa,lsz,lss])
    (refine htk 49 127 ?_ rfl ?_ ?_;rotate_left;(intro w hSw;clear hSw;go_simp);(try with_reducible rfl);simp only [lsz,lss])
    (refine htk 50 128 ?_ rfl ?_ ?_;rotate_left;(intro w hSw;clear hSw;go_simp);(try with_reducible rfl);simp only [lsz,lss])
    (refine htk 51 129 ?_ rfl ?_ ?_;rotate_left;(intro w hSw;clear hSw;go_simp);(try with_reducible rfl);simp only [lsz,lss])
    (refine htk 52 130 (.string (pa ++ ⟨#[32,42,32]⟩)) rfl ?_ ?_;(intro w hSw;clear hSw;go_simp;(try simp only [ByteArray.size_append,szL1,szL2,szL3]);omega);simp only [lsz,lss])
    (refine htk 53 131 ?_ rfl ?_ ?_;rotate_left;(intro w hSw;clear hSw;go_simp);(try with_reducible rfl);simp only [lsz,lss])
    (refine htk 54 132 (.string ((pa ++ ⟨#[32,42,32]⟩) ++ pb)) rfl ?_ ?_;(intro w hSw;clear hSw;go_simp;(try simp only [ByteArray.size_append,szL1,szL2,szL3]);omega);simp only [lsz,lss])
    (refine htk 55 133 ?_ rfl ?_ ?_;rotate_left;(intro w hSw;clear hSw;go_simp);(try with_reducible rfl);simp only [lsz,lss])
    (refine htk 56 134 (.string (((pa ++ ⟨#[32,42,32]⟩) ++ pb) ++ ⟨#[32,45,32]⟩)) rfl ?_ ?_;(intro w hSw;clear hSw;go_simp;(try simp only [ByteArray.size_append,szL1,szL2,szL3]);omega);simp only [lsz,lss])
    (refine htk 57 135 ?_ rfl ?_ ?_;rotate_left;(intro w hSw;clear hSw;go_simp);(try with_reducible rfl);simp only [lsz,lss])
    (refine htk 58 136 (.string ((((pa ++ ⟨#[32,42,32]⟩) ++ pb) ++ ⟨#[32,45,32]⟩) ++ pc)) rfl ?_ ?_;(intro w hSw;clear hSw;go_simp;(try simp only [ByteArray.size_append,szL1,szL2,szL3]);omega);simp only [lsz,lss])
    (refine htk 59 137 ?_ rfl ?_ ?_;rotate_left;(intro w hSw;clear hSw;go_simp);(try with_reducible rfl);simp only [lsz,lss])
    (refine htk 60 138 (.int .i64 2) rfl ?_ ?_;(intro w hSw;clear hSw;first | rfl | go_simp);simp only [lsz,lss])
    (refine htk 61 139 (.agg #[.int .i64 x.kind,.int .i64 x.fn,.int .i64 x.op,.int .i64 x.num,.string x.metric,.slice pm1 x.mats.length cm1,.int .i64 x.span,.slice pn1 x.names.length cn1,.slice pk1 x.kids.length ck1]) rfl ?_ ?_;(intro w hSw;have b := B1.out.keep hSw;have p0 := b.cell 0 _ rfl;have p1 := b.cell 1 _ rfl;have p2 := b.cell 2 _ rfl;have p3 := b.cell 3 _ rfl;have p4 := b.cell 4 _ rfl;have p5 := b.cell 5 _ rfl;have p6 := b.cell 6 _ rfl;have p7 := b.cell 7 _ rfl;have p8 := b.cell 8 _ rfl;go_simp);simp only [lsz,lss])
    (refine htk 62 140 (.agg #[.int .i64 y.kind,.int .i64 y.fn,.int .i64 y.op,.int .i64 y.num,.string y.metric,.slice pm2 y.mats.length cm2,.int .i64 y.span,.slice pn2 y.names.length cn2,.slice pk2 y.kids.length ck2]) rfl ?_ ?_;(intro w hSw;have b := B2.out.keep hSw;have p0 := b.cell 0 _ rfl;have p1 := b.cell 1 _ rfl;have p2 := b.cell 2 _ rfl;have p3 := b.cell 3 _ rfl;have p4 := b.cell 4 _ rfl;have p5 := b.cell 5 _ rfl;have p6 := b.cell 6 _ rfl;have p7 := b.cell 7 _ rfl;have p8 := b.cell 8 _ rfl;go_simp);simp only [lsz,lss])
    (refine htk 64 142 (.agg #[.int .i64 z.kind,.int .i64 z.fn,.int .i64 z.op,.int .i64 z.num,.string z.metric,.slice pm3 z.mats.length cm3,.int .i64 z.span,.slice pn3 z.names.length cn3,.slice pk3 z.kids.length ck3]) rfl ?_ ?_;(intro w hSw;have b := B3.out.keep hSw;have p0 := b.cell 0 _ rfl;have p1 := b.cell 1 _ rfl;have p2 := b.cell 2 _ rfl;have p3 := b.cell 3 _ rfl;have p4 := b.cell 4 _ rfl;have p5 := b.cell 5 _ rfl;have p6 := b.cell 6 _ rfl;have p7 := b.cell 7 _ rfl;have p8 := b.cell 8 _ rfl;go_simp);simp only [lsz,lss])
    refine hrd 63 rfl (fun K hK => ?_);rw [if_pos (by kernel_rfl)]
    go_simp
    refine (xTwo 3 x y _ _ _ _ (Nat.le_refl _) X1.out X2.out).mono ?_;rintro e' v13 ⟨g13,rfl,hx,hb⟩;have HD := Lib.hid (HD.out.trans (hb.mono HD.out.size));have X1 := Lib.hid (X1.out.mono hb hb.size);have X2 := Lib.hid (X2.out.mono hb hb.size);have X3 := Lib.hid (X3.out.mono hb hb.size);have HB := Lib.hid (HB.out.trans (hb.mono HB.out.size));clear hb
    dsimp only
    refine hK.out _ _ HD.out (fun hHeld => ?_);clear hK K
    (try simp only [Act.put,lsa,lsz,lss])
    have R6 := Lib.hid hx;clear hx;refine hrd 65 rfl (fun K hK => ?_);rw [if_pos (by kernel_rfl)]
    go_simp
    refine (xTwo 2 (twoX 3 x y) z _ _ _ _ (Nat.le_refl _) R6.out X3.out).mono ?_;rintro e' v14 ⟨g14,rfl,hx,hb⟩;have HD := Lib.hid (HD.out.trans (hb.mono HD.out.size));have X1 := Lib.hid (X1.out.mono hb hb.size);have X2 := Lib.hid (X2.out.mono hb hb.size);have X3 := Lib.hid (X3.out.mono hb hb.size);have R6 := Lib.hid (R6.out.mono hb hb.size);have HB := Lib.hid (HB.out.trans (hb.mono HB.out.size));clear hb
    dsimp only
    refine hK.out _ _ HD.out (fun hHeld => ?_);clear hK K
    (try simp only [Act.put,lsa,lsz,lss])
    have R7 := Lib.hid hx;clear hx;refine hrd 66 rfl (fun K hK => ?_);rw [if_pos (by kernel_rfl)]
    go_simp
    refine (xComes _ (twoX 2 (twoX 3 x y) z) _ _ _ (Nat.le_refl _) R7.out (by simp only [twoX_size];have := S1.out;have := S2.out;have := S3.out;omega) (ans_mul I1.out I2.out I3.out (Or.inr ⟨rfl,rfl⟩) (by simp only [sl_app,EA.out,EB.out,EC.out,show sl ⟨#[32,45,32]⟩ 0 = [32,45,32] from rfl,show sl ⟨#[32,42,32]⟩ 0 = [32,42,32] from rfl];simp) (by simp only [ByteArray.size_append,szL3];omega))).mono ?_;rintro e' v15 ⟨rfl,hb⟩;have HD := Lib.hid (HD.out.trans (hb.mono HD.out.size));have X1 := Lib.hid (X1.out.mono hb hb.size);have X2 := Lib.hid (X2.out.mono hb hb.size);have X3 := Lib.hid (X3.out.mono hb hb.size);have R7 := Lib.hid (R7.out.mono hb hb.size);have HB := Lib.hid (HB.out.trans (hb.mono HB.out.size));clear hb
    dsimp only
    refine hK.out _ _ HD.out (fun hHeld => ?_);clear hK K
    (try simp only [Act.put,lsa,lsz,lss])
    (refine htk 67 145 ?_ rfl ?_ ?_;rotate_left;(intro w hSw;clear hSw;go_simp);(try with_reducible rfl);simp only [lsz,lss])
    (refine htk 68 8 ?_ rfl ?_ ?_;rotate_left;(intro w hSw;clear hSw;go_simp);(try with_reducible rfl);simp only [lsz,lss])
    refine wpAnyH_done (by kernel_rfl) ?_ _;go_wp2;go_ret;exact ⟨rfl,HB.out⟩
end Go.Proofs.YtpmbamfpmmdhcaaGreat
