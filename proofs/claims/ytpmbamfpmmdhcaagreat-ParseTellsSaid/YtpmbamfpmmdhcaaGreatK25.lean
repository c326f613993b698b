/- The program's parser: compares, expr. (PRINTED by gen_qexpr.py.) -/
import Derived.Test.YtpmbamfpmmdhcaaGreatK46
set_option maxRecDepth 100000
set_option maxHeartbeats 16000000
namespace Go.Proofs.YtpmbamfpmmdhcaaGreat
open Go.RowKit
set_option linter.unusedSimpArgs false
set_option linter.unusedVariables false
theorem qCompares (w : World) : Calls Tryz.prog 57 #[] w fun e' w' => e' = .returned (.agg #[.string ⟨#[60]⟩,.string ⟨#[60,61]⟩,.string ⟨#[62]⟩,.string ⟨#[62,61]⟩,.string ⟨#[61,61]⟩,.string ⟨#[33,61]⟩]) ∧ Below w.heap.size w w' := by
  go_enter Tryz.func57,Tryz.ntmps57;(try simp only [List.append_eq,List.cons_append,List.nil_append])
  go_wp2_with fail
  have hB := Blk.new w [.string ⟨#[60]⟩,.string ⟨#[60,61]⟩,.string ⟨#[62]⟩,.string ⟨#[62,61]⟩,.string ⟨#[61,61]⟩,.string ⟨#[33,61]⟩] 95
  exact bodyPost_agg (d := _) rfl rfl hB Tryz.underlying95 rfl (by kernel_rfl) rfl ⟨rfl,(Below.refl _ _).alloc (Nat.le_refl _) _⟩
theorem index6_0 (wx : World) : (Instr.index 95 (.agg #[.string ⟨#[60]⟩,.string ⟨#[60,61]⟩,.string ⟨#[62]⟩,.string ⟨#[62,61]⟩,.string ⟨#[61,61]⟩,.string ⟨#[33,61]⟩]) (.int .i64 0)).run Tryz.prog wx = .ok (.string ⟨#[60]⟩) wx := by kernel_rfl
theorem index6_1 (wx : World) : (Instr.index 95 (.agg #[.string ⟨#[60]⟩,.string ⟨#[60,61]⟩,.string ⟨#[62]⟩,.string ⟨#[62,61]⟩,.string ⟨#[61,61]⟩,.string ⟨#[33,61]⟩]) (.int .i64 1)).run Tryz.prog wx = .ok (.string ⟨#[60,61]⟩) wx := by kernel_rfl
theorem index6_2 (wx : World) : (Instr.index 95 (.agg #[.string ⟨#[60]⟩,.string ⟨#[60,61]⟩,.string ⟨#[62]⟩,.string ⟨#[62,61]⟩,.string ⟨#[61,61]⟩,.string ⟨#[33,61]⟩]) (.int .i64 2)).run Tryz.prog wx = .ok (.string ⟨#[62]⟩) wx := by kernel_rfl
theorem index6_3 (wx : World) : (Instr.index 95 (.agg #[.string ⟨#[60]⟩,.string ⟨#[60,61]⟩,.string ⟨#[62]⟩,.string ⟨#[62,61]⟩,.string ⟨#[61,61]⟩,.string ⟨#[33,61]⟩]) (.int .i64 3)).run Tryz.prog wx = .ok (.string ⟨#[62,61]⟩) wx := by kernel_rfl
theorem index6_4 (wx : World) : (Instr.index 95 (.agg #[.string ⟨#[60]⟩,.string ⟨#[60,61]⟩,.string ⟨#[62]⟩,.string ⟨#[62,61]⟩,.string ⟨#[61,61]⟩,.string ⟨#[33,61]⟩]) (.int .i64 4)).run Tryz.prog wx = .ok (.string ⟨#[61,61]⟩) wx := by kernel_rfl
theorem index6_5 (wx : World) : (Instr.index 95 (.agg #[.string ⟨#[60]⟩,.string ⟨#[60,61]⟩,.string ⟨#[62]⟩,.string ⟨#[62,61]⟩,.string ⟨#[61,61]⟩,.string ⟨#[33,61]⟩]) (.int .i64 5)).run Tryz.prog wx = .ok (.string ⟨#[33,61]⟩) wx := by kernel_rfl
theorem index6 {k : Nat} (hk : k < 6) (wx : World) : (Instr.index 95 (.agg #[.string ⟨#[60]⟩,.string ⟨#[60,61]⟩,.string ⟨#[62]⟩,.string ⟨#[62,61]⟩,.string ⟨#[61,61]⟩,.string ⟨#[33,61]⟩]) (.int .i64 (k : Int))).run Tryz.prog wx = .ok (.string (signs6[k]'hk)) wx := by
  have : k = 0 ∨ k = 1 ∨ k = 2 ∨ k = 3 ∨ k = 4 ∨ k = 5 := by omega
  rcases this with rfl | rfl | rfl | rfl | rfl | rfl
  · exact index6_0 wx
  · exact index6_1 wx
  · exact index6_2 wx
  · exact index6_3 wx
  · exact index6_4 wx
  · exact index6_5 wx
theorem signs6_sign {k : Nat} (hk : k < 6) : ∃ c r,(signs6[k]'hk).data.toList = c :: r ∧ letC c = false ∧ (signs6[k]'hk).data.toList ≠ [40] ∧ (signs6[k]'hk).data.toList ≠ [41] := by
  have : k = 0 ∨ k = 1 ∨ k = 2 ∨ k = 3 ∨ k = 4 ∨ k = 5 := by omega
  rcases this with rfl | rfl | rfl | rfl | rfl | rfl <;> exact ⟨_,_,rfl,by decide,by decide +revert,by decide +revert⟩
theorem qSignB (g : Nat) (pt : Option Addr) (cap : Nat) (L : List Tok) (p : PS) (w : World) (h : QA g pt cap L p w) (hw : QW L p) {k : Nat} (hk : k < 6) :
    Calls Tryz.prog 58 #[.pointer (some ⟨g,0,none⟩),.string (signs6[k]'hk)] w fun e' w' => e' = .returned (.bool (p.take L (signs6[k]'hk).data.toList).1) ∧ QA g pt cap L (p.take L (signs6[k]'hk).data.toList).2 w' ∧ QW L (p.take L (signs6[k]'hk).data.toList).2 ∧ Off g w w' := by
  obtain ⟨c,r,h1,h2,h3,h4⟩ := signs6_sign hk
  have := qSign g pt cap L p w h hw (signs6[k]'hk).data.toList c r h1 h2 h3 h4
  rwa [ba_same] at this
theorem qExprC (g : Nat) (pt : Option Addr) (cap : Nat) (L : List Tok) (f : Nat) (hA : SumQ g pt cap L f) : ExprQ g pt cap L (f + 1) := by
  intro p e p' hr hw w h
  have hst : St (p) p' := (sts L (f + 1)).expr _ _ _ hr
  rw [pExpr] at hr
  cases ha : pSum L f p with
  | none => rw [ha] at hr;cases hr
  | some a =>
  obtain ⟨x,q0⟩ := a
  rw [ha] at hr
  have HA := Lib.hid (fun (X : World) (hX : QA g pt cap L p X) => hA _ _ _ ha hw X hX)
  have Hw0 : Hid (q0.err = 0 → QW L q0) := Lib.hid (fun h0 => ⟨((keeps L f).sum _ _ _ ha hw.pw).1,hw.tw,h0⟩)
  obtain ⟨o,ho'⟩ : ∃ o,pCmp L cmpSigns 4 q0 = o := ⟨_,rfl⟩
  simp only [ho'] at hr
  have HR := Lib.hid hr
  have HC := Lib.hid ho'
  have Hst0 : Hid (St q0 p') := Lib.hid (by
    have h1 := St.cmp L cmpSigns 4 q0;rw [ho'] at h1;obtain ⟨o1,o2⟩ := o;cases o1 with
    | none =>
      simp only [Option.some.injEq,Prod.mk.injEq] at hr;obtain ⟨-,rfl⟩ := hr;exact h1
    | some op =>
      simp only [Option.some.injEq,Prod.mk.injEq] at hr;obtain ⟨-,rfl⟩ := hr;exact h1.trans (.token _ _ _))
  have hg := h.1.lt
  have Hgw := Lib.hid hg
  clear hr ha hA ho' hst
  go_enter Tryz.func26,Tryz.ntmps26;(try simp only [List.append_eq,List.cons_append,List.nil_append])
  go_wp2_with fail
  have hZ := Blk.new w ZX 28
  refine (HA.out _ (qa_alloc h _)).mono ?_
  rintro e' w1 ⟨hok,hbad,ho1⟩
  have hZ1 := ho1.blkX hZ (Nat.ne_of_gt hg)
  have ho1 := (off_alloc (Off.refl g w) (.cells ZX.toArray 28)).trans ho1
  by_cases hx : q0.err ≠ 0
  · obtain rfl := hbad hx
    exact ⟨rfl,ExQ.bad hx Hst0.out ho1⟩
  have hx0 : q0.err = 0 := Decidable.not_not.1 hx
  obtain ⟨cs,rfl,hx1,hP1⟩ := hok hx0
  have hw0 := Hw0.out hx0
  obtain ⟨pm,cm,pn,cn,pk,ck,rfl,-⟩ := IsEx.cellsE hx1
  clear hok hbad hx hx0 Hw0 Hst0
  go_wp2_with fail
  have hlt1 := hZ1.lt
  have hg1 := hP1.1.lt
  have hbl : Below w1.heap.size w1 (w1.alloc (.cells ([.int .i64 x.kind,.int .i64 x.fn,.int .i64 x.op,.int .i64 x.num,.string x.metric,.slice pm x.mats.length cm,.int .i64 x.span,.slice pn x.names.length cn,.slice pk x.kids.length ck] : List Value).toArray 28)) := (Below.refl _ _).alloc (Nat.le_refl _) _
  have hB := Blk.new w1 [.int .i64 x.kind,.int .i64 x.fn,.int .i64 x.op,.int .i64 x.num,.string x.metric,.slice pm x.mats.length cm,.int .i64 x.span,.slice pn x.names.length cn,.slice pk x.kids.length ck] 28
  have hG : GathQ g pt cap L w w1.heap.size x q0 (w1.alloc (.cells ([.int .i64 x.kind,.int .i64 x.fn,.int .i64 x.op,.int .i64 x.num,.string x.metric,.slice pm x.mats.length cm,.int .i64 x.span,.slice pn x.names.length cn,.slice pk x.kids.length ck] : List Value).toArray 28)) :=
    ⟨_,hB,(hx1.go (S' := fun k => w.heap.size < k ∧ k ≠ w1.heap.size) (Nat.le_refl _) (fun k hk h => by have h : (w.alloc (.cells ZX.toArray 28)).heap.size ≤ k := h;rw [World.size_alloc] at h;show w.heap.size < k ∧ k ≠ w1.heap.size;omega) (fun _ _ _ => rfl)).below hbl,hP1.keep hbl,hw0,ho1.trans (Off.of (g := g) hbl),by omega,hZ1.keep hbl⟩
  generalize w1.alloc (.cells ([.int .i64 x.kind,.int .i64 x.fn,.int .i64 x.op,.int .i64 x.num,.string x.metric,.slice pm x.mats.length cm,.int .i64 x.span,.slice pn x.names.length cn,.slice pk x.kids.length ck] : List Value).toArray 28) = X at hG hB hbl
  obtain ⟨b,hb⟩ : ∃ b,w1.heap.size = b := ⟨_,rfl⟩
  rw [hb] at hG hlt1 hg1 ⊢
  clear hB hbl hb hx1 hP1 ho1 hZ1 hZ hw0
  refine (qCompares X).mono ?_
  rintro e' w2 ⟨rfl,hb2⟩
  obtain ⟨cs,k1,k2,k3,k4,k5,k6,k7⟩ := hG
  have HG : Hid (GathQ g pt cap L w b x q0 w2) := Lib.hid ⟨cs,k1.keep hb2,k2.below hb2,k3.keep hb2,k4,k5.trans (Off.of hb2),k6,k7.keep hb2⟩
  clear k1 k2 k3 k4 k5 k6 k7 hb2
  go_wp2_with fail
  go_loopw [9] (fun i wr => ∃ (k : Nat) (p1 : PS),k ≤ 6 ∧ i = .int .i64 k ∧ GathQ g pt cap L w b x p1 wr ∧ Hid (pCmp L (cmpSigns.drop k) (4 + k) p1 = o)) (fun i _ => 6 - (intOf i).toNat)
  case atStart => exact ⟨0,q0,Nat.zero_le _,rfl,HG.out,HC⟩
  case round =>
    obtain ⟨k,p1,hk,rfl,⟨cs,hB,hx,hP,hW,ho,hwb,hZ⟩,Hcmp⟩ := hrel;have hcmp := Hcmp.out;clear HG HC Hcmp;have hgw : g < w.heap.size := hg;obtain ⟨pm,cm,pn,cn,pk,ck,rfl,-⟩ := IsEx.cellsE hx
    by_cases hlt : k < 6
    · rw [cmp_drop hlt] at hcmp
      unfold pCmp at hcmp;have HT := Lib.hid (qSignB g pt cap L p1 wr hP hW hlt);have hix := fun wx => index6 hlt wx
      obtain ⟨c,hc⟩ : ∃ c,(p1.take L (signs6[k]).data.toList).1 = c := ⟨_,rfl⟩;obtain ⟨q,hq⟩ : ∃ q,(p1.take L (signs6[k]).data.toList).2 = q := ⟨_,rfl⟩;rw [hc,hq] at hcmp HT;clear hc hq;cases c with
      | true =>
        rw [if_pos rfl] at hcmp;subst hcmp;have hr := HR.out;simp only [Option.some.injEq,Prod.mk.injEq] at hr;obtain ⟨rfl,rfl⟩ := hr;clear HR
        go_wp2_with fail
        refine HT.out.mono ?_;rintro e' w3 ⟨rfl,hP3,hW3,ho3⟩;have HK := Lib.hid (fun (X : World) (hX : QA g pt cap L q X) => qAny g pt cap L q X hX hW3 2);clear hix;go_wp2;have hbd : Below w3.heap.size w3 w3.drew := (Below.refl _ _).drew;have hB3 := (ho3.blkX hB (show b ≠ g by omega)).keep hbd;have hZ3 := (ho3.blkX hZ (show w.heap.size ≠ g by omega)).keep hbd;have hx3 := (hx.off ho3 (show ¬ (w.heap.size < g ∧ g ≠ b) by omega)).below hbd;have hP3 := hP3.keep hbd;have ho3 := (ho.trans ho3).trans (Off.of (g := g) hbd);have hb3 := hB3.lt;have hz3 := hZ3.lt;obtain ⟨tk,htk⟩ : ∃ t,(q.token L 2).1 = t := ⟨_,rfl⟩;obtain ⟨q2,hq2⟩ : ∃ t,(q.token L 2).2 = t := ⟨_,rfl⟩;rw [htk,hq2] at HK;have Hq2 := Lib.hid hq2;have Htk := Lib.hid htk;unfold Tok.val at HK;have hft2 := fun wx => fieldTokC tk.kind tk.num tk.pos ⟨tk.text.toArray⟩ wx
        clear htk hq2 hB hZ hx ho hP hW hW3 HT;refine wp_region_held_drew (S := fun W => Blk W b 28 [.int .i64 x.kind,.int .i64 x.fn,.int .i64 x.op,.int .i64 x.num,.string x.metric,.slice pm x.mats.length cm,.int .i64 x.span,.slice pn x.names.length cn,.slice pk x.kids.length ck]) (by kernel_rfl) (by first | exact hB3 | exact hB3.drew) (fun hHeld => ?_);generalize w3.drew = wd at hB3 hZ3 hx3 hP3 ho3 hb3 hz3 hHeld hbd;clear hbd
        (refine htk 0 16 ?_ rfl ?_ ?_;rotate_left;(intro w hSw;clear hSw;go_simp);(try with_reducible rfl);simp only [lsz,lss])
        (refine htk 1 17 (.int .i64 (4 + (k : Int))) rfl ?_ ?_;(intro w hSw;clear hSw;go_simp;try first | exact IntWalk.i64_in _ (by omega) | omega);simp only [lsz,lss])
        (refine htk 2 18 ?_ rfl ?_ ?_;rotate_left;(intro w hSw;clear hSw;go_simp);(try with_reducible rfl);simp only [lsz,lss])
        (refine htk 5 21 (.agg ([.int .i64 x.kind,.int .i64 x.fn,.int .i64 x.op,.int .i64 x.num,.string x.metric,.slice pm x.mats.length cm,.int .i64 x.span,.slice pn x.names.length cn,.slice pk x.kids.length ck] : List Value).toArray) rfl ?_ ?_;(intro w hSw;have q0 := hSw.cell 0 _ rfl;have q1 := hSw.cell 1 _ rfl;have q2 := hSw.cell 2 _ rfl;have q3 := hSw.cell 3 _ rfl;have q4 := hSw.cell 4 _ rfl;have q5 := hSw.cell 5 _ rfl;have q6 := hSw.cell 6 _ rfl;have q7 := hSw.cell 7 _ rfl;have q8 := hSw.cell 8 _ rfl;go_simp);simp only [lsz,lss])
        refine wpAnyH_ready (rs := [3,6]) (by kernel_rfl) (by simp) (.cons rfl (fun K hK => ?_) (.cons rfl (fun K hK => ?_) .nil))
        · rw [if_pos (by kernel_rfl)]
          go_simp
          refine (HK.out _ hP3).mono ?_;rintro e' w4 ⟨hok,hbad,ho4⟩
          by_cases hx : q2.err ≠ 0
          · obtain rfl := hbad hx
            dsimp only
            exact ⟨rfl,ExQ.bad hx (by rw [Hq2.out];exact .refl _) (ho3.trans ho4)⟩
          have H0 : Hid (q2.err = 0) := Lib.hid (Decidable.not_not.1 hx);obtain ⟨rfl,hP4⟩ := hok H0.out
          dsimp only
          have hB4 := ho4.blkX hB3 (show b ≠ g by omega);refine hK.out _ _ hB4 (fun hHeld => ?_);clear hK K hok hbad hx
          (try simp only [Act.put,lsa,lsz,lss])
          (refine htk 4 20 ?_ rfl ?_ ?_;rotate_left;(intro w hSw;clear hSw;go_simp);(try with_reducible rfl);simp only [lsz,lss])
          refine hrd 6 rfl (fun K hK => ?_);rw [if_pos (by kernel_rfl)]
          go_simp
          have hZ4 := ho4.blkX hZ3 (show w.heap.size ≠ g by omega);have hx4 := hx3.off ho4 (show ¬ (w.heap.size < g ∧ g ≠ b) by omega);have hl4 := hB4.lt;have hbl4 : Below w4.heap.size w4 (w4.alloc (.cells ([.int .i64 x.kind,.int .i64 x.fn,.int .i64 x.op,.int .i64 x.num,.string x.metric,.slice pm x.mats.length cm,.int .i64 x.span,.slice pn x.names.length cn,.slice pk x.kids.length ck] : List Value).toArray 28)) := (Below.refl _ _).alloc (Nat.le_refl _) _;have hBf := hB4.keep hbl4;have hZf := hZ4.keep hbl4;have hxf := hx4.below hbl4;have hPf := hP4.keep hbl4;have hof := (ho3.trans ho4).trans (Off.of (g := g) hbl4);have hKf := Blk.new w4 [.int .i64 x.kind,.int .i64 x.fn,.int .i64 x.op,.int .i64 x.num,.string x.metric,.slice pm x.mats.length cm,.int .i64 x.span,.slice pn x.names.length cn,.slice pk x.kids.length ck] 28;refine hK.out _ _ hBf (fun hHeld => ?_);clear hK K
          (try simp only [Act.put,lsa,lsz,lss])
          (refine htk 7 23 ?_ rfl ?_ ?_;rotate_left;(intro w hSw;clear hSw;go_simp);(try with_reducible rfl);simp only [lsz,lss])
          refine held_store 8 rfl (by kernel_rfl) (by kernel_rfl) rfl 28 _ _ rfl w.heap.size [.int .i64 5,.int .i64 0,.int .i64 (4 + (k : Int)),.int .i64 tk.num,.string ⟨#[]⟩,.slice none 0 0,.int .i64 0,.slice none 0 0,.slice (some ⟨w4.heap.size,0,none⟩) 1 1] ZX 28 rfl rfl hZf (by kernel_rfl) rfl (by kernel_rfl) ((setRow_far _ _ _ (show b ≠ w.heap.size by omega)).trans hBf) (fun hHeld => ?_);refine wpAnyH_done (by kernel_rfl) ?_ _;go_wp2;rw [Htk.out,Hq2.out];exact bodyPost_agg (d := _) rfl rfl (setRow_at hZf _) Tryz.underlying28 rfl (by kernel_rfl) rfl (exQ_close (S := fun k => w.heap.size < k) H0.out (exS_node (by decide) (noMatsS _ _) (noStrsS _ _) (exsS1 hKf (show w.heap.size < w4.heap.size by omega) (hxf.go (Nat.le_refl _) (fun k _ h => h.1) (fun _ _ _ => rfl)))) hPf hof (Nat.le_refl _) Hgw.out (show ¬ w.heap.size < w.heap.size by omega) (fun k _ h => by have h : w.heap.size < k := h;show w.heap.size ≤ k;omega))
        · rw [if_pos (by kernel_rfl)]
          go_simp
          have hbl4 : Below wd.heap.size wd (wd.alloc (.cells ([.int .i64 x.kind,.int .i64 x.fn,.int .i64 x.op,.int .i64 x.num,.string x.metric,.slice pm x.mats.length cm,.int .i64 x.span,.slice pn x.names.length cn,.slice pk x.kids.length ck] : List Value).toArray 28)) := (Below.refl _ _).alloc (Nat.le_refl _) _;have hBa := hB3.keep hbl4;have hZa := hZ3.keep hbl4;have hxa := hx3.below hbl4;have hPa := hP3.keep hbl4;have hoa := ho3.trans (Off.of (g := g) hbl4);have hKa := Blk.new wd [.int .i64 x.kind,.int .i64 x.fn,.int .i64 x.op,.int .i64 x.num,.string x.metric,.slice pm x.mats.length cm,.int .i64 x.span,.slice pn x.names.length cn,.slice pk x.kids.length ck] 28;refine hK.out _ _ hBa (fun hHeld => ?_);clear hK K
          (try simp only [Act.put,lsa,lsz,lss])
          refine hrd 3 rfl (fun K hK => ?_);rw [if_pos (by kernel_rfl)]
          go_simp
          refine (HK.out _ hPa).mono ?_;rintro e' w4 ⟨hok,hbad,ho4⟩
          by_cases hx : q2.err ≠ 0
          · obtain rfl := hbad hx
            dsimp only
            exact ⟨rfl,ExQ.bad hx (by rw [Hq2.out];exact .refl _) (hoa.trans ho4)⟩
          have H0 : Hid (q2.err = 0) := Lib.hid (Decidable.not_not.1 hx);obtain ⟨rfl,hPf⟩ := hok H0.out
          dsimp only
          have hBf := ho4.blkX hBa (show b ≠ g by omega);have hZf := ho4.blkX hZa (show w.heap.size ≠ g by omega);have hxf := hxa.off ho4 (show ¬ (w.heap.size < g ∧ g ≠ b) by omega);have hKf := ho4.blkX hKa (show wd.heap.size ≠ g by omega);have hof := hoa.trans ho4;refine hK.out _ _ hBf (fun hHeld => ?_);clear hK K hok hbad hx
          (try simp only [Act.put,lsa,lsz,lss])
          (refine htk 4 20 ?_ rfl ?_ ?_;rotate_left;(intro w hSw;clear hSw;go_simp);(try with_reducible rfl);simp only [lsz,lss])
          (refine htk 7 23 ?_ rfl ?_ ?_;rotate_left;(intro w hSw;clear hSw;go_simp);(try with_reducible rfl);simp only [lsz,lss])
          refine held_store 8 rfl (by kernel_rfl) (by kernel_rfl) rfl 28 _ _ rfl w.heap.size [.int .i64 5,.int .i64 0,.int .i64 (4 + (k : Int)),.int .i64 tk.num,.string ⟨#[]⟩,.slice none 0 0,.int .i64 0,.slice none 0 0,.slice (some ⟨wd.heap.size,0,none⟩) 1 1] ZX 28 rfl rfl hZf (by kernel_rfl) rfl (by kernel_rfl) ((setRow_far _ _ _ (show b ≠ w.heap.size by omega)).trans hBf) (fun hHeld => ?_);refine wpAnyH_done (by kernel_rfl) ?_ _;go_wp2;rw [Htk.out,Hq2.out];exact bodyPost_agg (d := _) rfl rfl (setRow_at hZf _) Tryz.underlying28 rfl (by kernel_rfl) rfl (exQ_close (S := fun k => w.heap.size < k) H0.out (exS_node (by decide) (noMatsS _ _) (noStrsS _ _) (exsS1 hKf (show w.heap.size < wd.heap.size by omega) (hxf.go (Nat.le_refl _) (fun k _ h => h.1) (fun _ _ _ => rfl)))) hPf hof (Nat.le_refl _) Hgw.out (show ¬ w.heap.size < w.heap.size by omega) (fun k _ h => by have h : w.heap.size < k := h;show w.heap.size ≤ k;omega))
      | false =>
        rw [if_neg (by simp)] at hcmp
        go_wp2_with fail
        refine HT.out.mono ?_;rintro e' w3 ⟨rfl,hP3,hW3,ho3⟩;have hI : ∃ (k' : Nat) (p1 : PS),k' ≤ 6 ∧ Value.int .i64 ((k : Int) + 1) = .int .i64 k' ∧ GathQ g pt cap L w b x p1 w3 ∧ Hid (pCmp L (cmpSigns.drop k') (4 + k') p1 = o) := ⟨k + 1,q,by omega,by go_num,⟨_,ho3.blkX hB (show b ≠ g by omega),hx.off ho3 (show ¬ (w.heap.size < g ∧ g ≠ b) by omega),hP3,hW3,ho.trans ho3,hwb,ho3.blkX hZ (show w.heap.size ≠ g by omega)⟩,Lib.hid (by rw [← hcmp];congr 1 <;> omega)⟩;have HI := Lib.hid hI;clear hI;go_wp2;refine ⟨?_,by simp [intOf];omega⟩
        first | exact HI.out | ((repeat apply Exists.intro);exact ⟨HI.out,rfl⟩)
    · obtain rfl : k = 6 := by omega
      clear hlt hk;have hcmp : (none,p1) = o := hcmp;subst hcmp;have hr := HR.out;simp only [Option.some.injEq,Prod.mk.injEq] at hr;obtain ⟨rfl,rfl⟩ := hr;clear HR;have H0 := Lib.hid hW.e0;have HZ3 := Lib.hid hZ;have HX3 := Lib.hid hx;have HO3 := Lib.hid ho;have HP3 := Lib.hid hP;have d0 := hB.cell 0 _ rfl;have d1 := hB.cell 1 _ rfl;have d2 := hB.cell 2 _ rfl;have d3 := hB.cell 3 _ rfl;have d4 := hB.cell 4 _ rfl;have d5 := hB.cell 5 _ rfl;have d6 := hB.cell 6 _ rfl;have d7 := hB.cell 7 _ rfl;have d8 := hB.cell 8 _ rfl;clear hB hZ hx ho hP hW
      go_wp2_with (refine wpList_store_row rfl 28 _ _ rfl w.heap.size ([.int .i64 x.kind,.int .i64 x.fn,.int .i64 x.op,.int .i64 x.num,.string x.metric,.slice pm x.mats.length cm,.int .i64 x.span,.slice pn x.names.length cn,.slice pk x.kids.length ck] : List Value).toArray rfl rfl 28 _ HZ3.out (by kernel_rfl) rfl (by kernel_rfl) ?_)
      exact bodyPost_agg (d := _) rfl rfl (setRow_at HZ3.out _) Tryz.underlying28 rfl (by kernel_rfl) rfl (exQ_close H0.out HX3.out HP3.out HO3.out (Nat.le_refl _) hgw (show ¬ (w.heap.size < w.heap.size ∧ _) by omega) (fun k _ h => by have h : w.heap.size < k ∧ k ≠ b := h;show w.heap.size ≤ k;omega))
end Go.Proofs.YtpmbamfpmmdhcaaGreat
