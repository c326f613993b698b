/- The program's parser: step, behind a sign another expression. (PRINTED by gen_qstep.py.) -/
import Derived.Test.YtpmbamfpmmdhcaaGreatK45
set_option maxRecDepth 100000
set_option maxHeartbeats 16000000
namespace Go.Proofs.YtpmbamfpmmdhcaaGreat
open Go.RowKit
set_option linter.unusedSimpArgs false
set_option linter.unusedVariables false
theorem qStep_join (g : Nat) (pt : Option Addr) (cap : Nat) (L : List Tok) (f : Nat) (op : Int) (x : Ex) (F : Nat) (hF : F = 89 ∨ F = 107) (p : PS) (hk : (p.tok L).kind ≠ 2) (ns : List (List UInt8)) (q : PS) (y : Ex) (p' : PS)
    (hns : (if (p.take L [111,110]).1 then pNames L f (p.take L [111,110]).2 else some ([],(p.take L [111,110]).2)) = some (ns,q)) (hC : q.err = 0 → ∀ X,QA g pt cap L q X → Calls Tryz.prog F #[.pointer (some ⟨g,0,none⟩)] X (ExQ g pt cap L (fun k => X.heap.size ≤ k) X y p')) (hst : St q p')
    (hw : QW L p) (S : Nat → Prop) (cs : List Value) (w : World) (hSg : ¬ S g) (h : QA g pt cap L p w) (hx : ExS S w x cs) :
    Calls Tryz.prog 90 #[.pointer (some ⟨g,0,none⟩),.agg cs.toArray,.int .i64 op,.func (.func F) #[.pointer (some ⟨g,0,none⟩)] #[]] w (ExQ g pt cap L (fun k => S k ∨ w.heap.size ≤ k) w (.mk 3 0 op 0 ⟨#[]⟩ [] 0 (ns.map baOf) [x,y]) p') := by
  have hi := hw.pw.at'
  have hlen := hw.pw.len
  obtain ⟨pm,cm,pn,cn,pk,ck,rfl,-⟩ := IsEx.cellsE hx
  have hg := h.1.lt
  have Hgw := Lib.hid hg
  have Hx := Lib.hid (hx.go (S' := fun k => S k ∧ k < w.heap.size) (Nat.le_refl _) (fun b hb h => ⟨h,hb⟩) (fun _ _ _ => rfl));clear hx
  have HSg : Hid (¬ (S g ∧ g < w.heap.size)) := Lib.hid (fun h => hSg h.1)
  have HOn := Lib.hid (fun (X : World) (hX : QA g pt cap L p X) => qOn g pt cap L f p ns q hns X hX hw)
  have HNow := Lib.hid (fun (X : World) (hX : QA g pt cap L p X) => qNow g pt cap L p X hX hi hlen)
  unfold Tok.val at HNow
  have Hnx : Hid (∀ x ∈ ns,x.length ≤ 100000) := Lib.hid (by
    split at hns
    · exact (pNames_keep hns (hw.pw.take _)).2.1
    · simp only [Option.some.injEq,Prod.mk.injEq] at hns
      rw [← hns.1];simp)
  have Hqp : Hid ((p.take L [111,110]).1 = false → q = p) := Lib.hid (fun hb => by
    have hT : p.isT L [111,110] = false := by
      cases hT : p.isT L [111,110] with
      | false => rfl
      | true => unfold PS.take at hb;rw [hT,if_pos rfl,if_neg (by decide),if_neg (by decide)] at hb;cases hb
    rw [isT_take hT] at hns;simp only [Bool.false_eq_true,if_false,Option.some.injEq,Prod.mk.injEq] at hns;exact hns.2.symm)
  have HC0 := Lib.hid hC;have Hst := Lib.hid hst
  have hkb : ((p.tok L).kind == 2) = false := by simpa using hk
  have hfA := fun wx => fieldTokA (p.tok L).kind (p.tok L).num (p.tok L).pos ⟨(p.tok L).text.toArray⟩ wx
  clear hns hC hst hw hk
  generalize p.tok L = t at HNow hkb hfA
  obtain ⟨b,hb⟩ : ∃ b,(p.take L [111,110]).1 = b := ⟨_,rfl⟩
  rw [hb] at HOn Hqp
  clear hb
  rcases hF with rfl | rfl
  all_goals
    go_enter Tryz.func90,Tryz.ntmps90;(try simp only [List.append_eq,List.cons_append,List.nil_append])
    go_wp2_with fail
    have hXb := two_at w [.int .i64 x.kind,.int .i64 x.fn,.int .i64 x.op,.int .i64 x.num,.string x.metric,.slice pm x.mats.length cm,.int .i64 x.span,.slice pn x.names.length cn,.slice pk x.kids.length ck] ZX 28 28;have hRb := two_at' w (.cells ([.int .i64 x.kind,.int .i64 x.fn,.int .i64 x.op,.int .i64 x.num,.string x.metric,.slice pm x.mats.length cm,.int .i64 x.span,.slice pn x.names.length cn,.slice pk x.kids.length ck] : List Value).toArray 28) ZX 28;have hbl := two_below w (.cells ([.int .i64 x.kind,.int .i64 x.fn,.int .i64 x.op,.int .i64 x.num,.string x.metric,.slice pm x.mats.length cm,.int .i64 x.span,.slice pn x.names.length cn,.slice pk x.kids.length ck] : List Value).toArray 28) (.cells ZX.toArray 28);have hPY := h.keep hbl;have hxY := Hx.out.below hbl;have hoY := Off.of (g := g) hbl;clear hbl Hx;generalize ((w.alloc (.cells ([.int .i64 x.kind,.int .i64 x.fn,.int .i64 x.op,.int .i64 x.num,.string x.metric,.slice pm x.mats.length cm,.int .i64 x.span,.slice pn x.names.length cn,.slice pk x.kids.length ck] : List Value).toArray 28)).alloc (.cells ZX.toArray 28)) = Y at hXb hRb hPY hxY hoY;refine (HOn.out _ hPY).mono ?_;rintro e' w1 ⟨hok,hbad,ho1⟩;have hX1 := ho1.blkX hXb (Nat.ne_of_gt hg);have hR1 := ho1.blkX hRb (show w.heap.size + 1 ≠ g by have := Hgw.out;omega);have hx1 := hxY.off ho1 HSg.out;have hszY : w.heap.size + 1 < Y.heap.size := hRb.lt;have ho1 := hoY.trans ho1
    by_cases hq0 : q.err ≠ 0
    · obtain rfl := hbad hq0
      exact ⟨rfl,ExQ.bad hq0 Hst.out ho1⟩
    have Q0 : Hid (q.err = 0) := Lib.hid (Decidable.not_not.1 hq0);obtain ⟨v,rfl,hown,hP1⟩ := hok Q0.out;obtain ⟨A,mc,rfl⟩ := ownN_slice hown;have hms1 := hown.strsS Hnx.out;have HSn : Hid (¬ Y.heap.size ≤ g) := Lib.hid (by have := Hgw.out;omega);have HC := Lib.hid (HC0.out Q0.out);have Hszy := Lib.hid hszY;clear hok hbad hXb hRb hPY hxY hoY hown hq0;cases b with
    | true =>
      have hX2 := hX1;have hR2 := hR1;have hx2 := hx1;have hP2 := hP1;have ho2 := ho1;have hms2 := hms1;have hlx := hX2.lt;have hlr := hR2.lt;obtain ⟨w2,hw2⟩ : ∃ w2,w1 = w2 := ⟨_,rfl⟩;subst hw2;clear hX1 hR1 hx1 hP1 ho1 hms1;go_wp2;refine wp_region_held_drew (S := fun W => Blk W w.heap.size 28 [.int .i64 x.kind,.int .i64 x.fn,.int .i64 x.op,.int .i64 x.num,.string x.metric,.slice pm x.mats.length cm,.int .i64 x.span,.slice pn x.names.length cn,.slice pk x.kids.length ck]) (by kernel_rfl) (by first | exact hX2 | exact hX2.drew) (fun hHeld => ?_);have hbd : Below w1.heap.size w1 w1.drew := (Below.refl _ _).drew;have hX3 := hX2.keep hbd;have hR3 := hR2.keep hbd;have hx3 := hx2.below hbd;have hP3 := hP2.keep hbd;have ho3 := ho2.trans (Off.of (g := g) hbd);have hms3 := hms2.below hbd;generalize w1.drew = wd at hms3 hX3 hR3 hx3 hP3 ho3 hHeld hbd;have hlw : w.heap.size + 1 < wd.heap.size := hR3.lt;clear hX2 hR2 hx2 hP2 ho2 hbd hms2
      (refine htk 0 31 ?_ rfl ?_ ?_;rotate_left;(intro w hSw;clear hSw;go_simp);(try with_reducible rfl);simp only [lsz,lss])
      (refine htk 1 32 ?_ rfl ?_ ?_;rotate_left;(intro w hSw;clear hSw;go_simp);(try with_reducible rfl);simp only [lsz,lss])
      (refine htk 2 33 (.agg ([.int .i64 x.kind,.int .i64 x.fn,.int .i64 x.op,.int .i64 x.num,.string x.metric,.slice pm x.mats.length cm,.int .i64 x.span,.slice pn x.names.length cn,.slice pk x.kids.length ck] : List Value).toArray) rfl ?_ ?_;(intro w hSw;have q0 := hSw.cell 0 _ rfl;have q1 := hSw.cell 1 _ rfl;have q2 := hSw.cell 2 _ rfl;have q3 := hSw.cell 3 _ rfl;have q4 := hSw.cell 4 _ rfl;have q5 := hSw.cell 5 _ rfl;have q6 := hSw.cell 6 _ rfl;have q7 := hSw.cell 7 _ rfl;have q8 := hSw.cell 8 _ rfl;go_simp);simp only [lsz,lss])
      (refine htk 3 34 ?_ rfl ?_ ?_;rotate_left;(intro w hSw;clear hSw;go_simp);(try with_reducible rfl);simp only [lsz,lss])
      refine hrd 4 rfl (fun K hK => ?_);rw [if_pos (by kernel_rfl)]
      go_simp
      refine (HC.out _ hP3).mono ?_;rintro e' w4 ⟨hok,hbad,ho4⟩
      by_cases hx : p'.err ≠ 0
      · obtain rfl := hbad hx
        dsimp only
        exact ⟨rfl,ExQ.bad hx (.refl _) (ho3.trans ho4)⟩
      have H0 : Hid (p'.err = 0) := Lib.hid (Decidable.not_not.1 hx);obtain ⟨cs,rfl,hy4,hP4⟩ := hok H0.out;obtain ⟨qm,dm,qn,dn,qk,dk,rfl,-⟩ := IsEx.cellsE hy4
      dsimp only
      have hX4 := ho4.blkX hX3 (Nat.ne_of_gt Hgw.out);refine hK.out _ _ hX4 (fun hHeld => ?_);clear hK K hok hbad hx
      (try simp only [Act.put,lsa,lsz,lss])
      refine hrd 5 rfl (fun K hK => ?_);rw [if_pos (by kernel_rfl)]
      go_simp
      have hR4 := ho4.blkX hR3 (show w.heap.size + 1 ≠ g by have := Hgw.out;omega);have hx4 := hx3.off ho4 HSg.out;have hms4 := hms3.off ho4 HSn.out;have hl4 := hR4.lt;have hszd := ho4.size;have hbl4 : Below w4.heap.size w4 (w4.alloc (.cells ([.int .i64 x.kind,.int .i64 x.fn,.int .i64 x.op,.int .i64 x.num,.string x.metric,.slice pm x.mats.length cm,.int .i64 x.span,.slice pn x.names.length cn,.slice pk x.kids.length ck,.int .i64 y.kind,.int .i64 y.fn,.int .i64 y.op,.int .i64 y.num,.string y.metric,.slice qm y.mats.length dm,.int .i64 y.span,.slice qn y.names.length dn,.slice qk y.kids.length dk] : List Value).toArray 28)) := (Below.refl _ _).alloc (Nat.le_refl _) _;have hXf := hX4.keep hbl4;have hRf := hR4.keep hbl4;have hxf := hx4.below hbl4;have hyf := hy4.below hbl4;have hmsf := hms4.below hbl4;have hPf := hP4.keep hbl4;have hof := (ho3.trans ho4).trans (Off.of (g := g) hbl4);have hKf := Blk.new w4 ([.int .i64 x.kind,.int .i64 x.fn,.int .i64 x.op,.int .i64 x.num,.string x.metric,.slice pm x.mats.length cm,.int .i64 x.span,.slice pn x.names.length cn,.slice pk x.kids.length ck] ++ [.int .i64 y.kind,.int .i64 y.fn,.int .i64 y.op,.int .i64 y.num,.string y.metric,.slice qm y.mats.length dm,.int .i64 y.span,.slice qn y.names.length dn,.slice qk y.kids.length dk]) 28;refine hK.out _ _ hXf (fun hHeld => ?_);clear hK K
      (try simp only [Act.put,lsa,lsz,lss])
      (refine htk 6 37 ?_ rfl ?_ ?_;rotate_left;(intro w hSw;clear hSw;go_simp);(try with_reducible rfl);simp only [lsz,lss])
      refine held_store 7 rfl (by kernel_rfl) (by kernel_rfl) rfl 28 _ _ rfl (w.heap.size + 1) [.int .i64 3,.int .i64 0,.int .i64 op,.int .i64 0,.string ⟨#[]⟩,.slice none 0 0,.int .i64 0,.slice A ns.length mc,.slice (some ⟨w4.heap.size,0,none⟩) 2 2] ZX 28 rfl rfl hRf (by kernel_rfl) rfl (by kernel_rfl) ((setRow_far _ _ _ (show w.heap.size ≠ w.heap.size + 1 by omega)).trans hXf) (fun hHeld => ?_);refine wpAnyH_done (by kernel_rfl) ?_ _;go_wp2;exact bodyPost_agg (d := _) rfl rfl (setRow_at hRf _) Tryz.underlying28 rfl (by kernel_rfl) rfl (exQ_close (S := fun k => (S k ∧ k < w.heap.size) ∨ w.heap.size + 1 < k) H0.out (exS_node (by decide) (noMatsS _ _) (hmsf.go (Nat.le_refl _) (fun k _ h => Or.inr (by have h : Y.heap.size ≤ k := h;omega)) (fun _ _ _ => rfl)) (exsS2 hKf (Or.inr (show w.heap.size + 1 < w4.heap.size by omega)) (hxf.go (Nat.le_refl _) (fun k _ h => Or.inl h) (fun _ _ _ => rfl)) (hyf.go (Nat.le_refl _) (fun k _ h => Or.inr (by have h : wd.heap.size ≤ k := h;omega)) (fun _ _ _ => rfl)))) hPf hof (show w.heap.size ≤ w.heap.size + 1 by omega) (show g < w.heap.size + 1 by have := Hgw.out;omega) (fun h => by rcases h with ⟨-,h⟩ | h <;> omega) (fun k _ h => by
        rcases h with ⟨h,-⟩ | h
        · exact Or.inl h
        · exact Or.inr (by omega)))
    | false =>
      obtain rfl := Hqp.out rfl
      go_wp2_with fail
      refine (HNow.out _ hP1).mono ?_;rintro e' w2 ⟨rfl,hb2⟩;have hX2 := hX1.keep hb2;have hR2 := hR1.keep hb2;have hx2 := hx1.below hb2;have hP2 := hP1.keep hb2;have ho2 := ho1.trans (Off.of hb2);have hlx := hX2.lt;have hlr := hR2.lt;have hms2 := hms1.below hb2;clear hX1 hR1 hx1 hP1 ho1 hb2 hms1;go_wp2;refine wp_region_held_drew (S := fun W => Blk W w.heap.size 28 [.int .i64 x.kind,.int .i64 x.fn,.int .i64 x.op,.int .i64 x.num,.string x.metric,.slice pm x.mats.length cm,.int .i64 x.span,.slice pn x.names.length cn,.slice pk x.kids.length ck]) (by kernel_rfl) (by first | exact hX2 | exact hX2.drew) (fun hHeld => ?_);have hbd : Below w2.heap.size w2 w2.drew := (Below.refl _ _).drew;have hX3 := hX2.keep hbd;have hR3 := hR2.keep hbd;have hx3 := hx2.below hbd;have hP3 := hP2.keep hbd;have ho3 := ho2.trans (Off.of (g := g) hbd);have hms3 := hms2.below hbd;generalize w2.drew = wd at hms3 hX3 hR3 hx3 hP3 ho3 hHeld hbd;have hlw : w.heap.size + 1 < wd.heap.size := hR3.lt;clear hX2 hR2 hx2 hP2 ho2 hbd hms2
      (refine htk 0 31 ?_ rfl ?_ ?_;rotate_left;(intro w hSw;clear hSw;go_simp);(try with_reducible rfl);simp only [lsz,lss])
      (refine htk 1 32 ?_ rfl ?_ ?_;rotate_left;(intro w hSw;clear hSw;go_simp);(try with_reducible rfl);simp only [lsz,lss])
      (refine htk 2 33 (.agg ([.int .i64 x.kind,.int .i64 x.fn,.int .i64 x.op,.int .i64 x.num,.string x.metric,.slice pm x.mats.length cm,.int .i64 x.span,.slice pn x.names.length cn,.slice pk x.kids.length ck] : List Value).toArray) rfl ?_ ?_;(intro w hSw;have q0 := hSw.cell 0 _ rfl;have q1 := hSw.cell 1 _ rfl;have q2 := hSw.cell 2 _ rfl;have q3 := hSw.cell 3 _ rfl;have q4 := hSw.cell 4 _ rfl;have q5 := hSw.cell 5 _ rfl;have q6 := hSw.cell 6 _ rfl;have q7 := hSw.cell 7 _ rfl;have q8 := hSw.cell 8 _ rfl;go_simp);simp only [lsz,lss])
      (refine htk 3 34 ?_ rfl ?_ ?_;rotate_left;(intro w hSw;clear hSw;go_simp);(try with_reducible rfl);simp only [lsz,lss])
      refine hrd 4 rfl (fun K hK => ?_);rw [if_pos (by kernel_rfl)]
      go_simp
      refine (HC.out _ hP3).mono ?_;rintro e' w4 ⟨hok,hbad,ho4⟩
      by_cases hx : p'.err ≠ 0
      · obtain rfl := hbad hx
        dsimp only
        exact ⟨rfl,ExQ.bad hx (.refl _) (ho3.trans ho4)⟩
      have H0 : Hid (p'.err = 0) := Lib.hid (Decidable.not_not.1 hx);obtain ⟨cs,rfl,hy4,hP4⟩ := hok H0.out;obtain ⟨qm,dm,qn,dn,qk,dk,rfl,-⟩ := IsEx.cellsE hy4
      dsimp only
      have hX4 := ho4.blkX hX3 (Nat.ne_of_gt Hgw.out);refine hK.out _ _ hX4 (fun hHeld => ?_);clear hK K hok hbad hx
      (try simp only [Act.put,lsa,lsz,lss])
      refine hrd 5 rfl (fun K hK => ?_);rw [if_pos (by kernel_rfl)]
      go_simp
      have hR4 := ho4.blkX hR3 (show w.heap.size + 1 ≠ g by have := Hgw.out;omega);have hx4 := hx3.off ho4 HSg.out;have hms4 := hms3.off ho4 HSn.out;have hl4 := hR4.lt;have hszd := ho4.size;have hbl4 : Below w4.heap.size w4 (w4.alloc (.cells ([.int .i64 x.kind,.int .i64 x.fn,.int .i64 x.op,.int .i64 x.num,.string x.metric,.slice pm x.mats.length cm,.int .i64 x.span,.slice pn x.names.length cn,.slice pk x.kids.length ck,.int .i64 y.kind,.int .i64 y.fn,.int .i64 y.op,.int .i64 y.num,.string y.metric,.slice qm y.mats.length dm,.int .i64 y.span,.slice qn y.names.length dn,.slice qk y.kids.length dk] : List Value).toArray 28)) := (Below.refl _ _).alloc (Nat.le_refl _) _;have hXf := hX4.keep hbl4;have hRf := hR4.keep hbl4;have hxf := hx4.below hbl4;have hyf := hy4.below hbl4;have hmsf := hms4.below hbl4;have hPf := hP4.keep hbl4;have hof := (ho3.trans ho4).trans (Off.of (g := g) hbl4);have hKf := Blk.new w4 ([.int .i64 x.kind,.int .i64 x.fn,.int .i64 x.op,.int .i64 x.num,.string x.metric,.slice pm x.mats.length cm,.int .i64 x.span,.slice pn x.names.length cn,.slice pk x.kids.length ck] ++ [.int .i64 y.kind,.int .i64 y.fn,.int .i64 y.op,.int .i64 y.num,.string y.metric,.slice qm y.mats.length dm,.int .i64 y.span,.slice qn y.names.length dn,.slice qk y.kids.length dk]) 28;refine hK.out _ _ hXf (fun hHeld => ?_);clear hK K
      (try simp only [Act.put,lsa,lsz,lss])
      (refine htk 6 37 ?_ rfl ?_ ?_;rotate_left;(intro w hSw;clear hSw;go_simp);(try with_reducible rfl);simp only [lsz,lss])
      refine held_store 7 rfl (by kernel_rfl) (by kernel_rfl) rfl 28 _ _ rfl (w.heap.size + 1) [.int .i64 3,.int .i64 0,.int .i64 op,.int .i64 0,.string ⟨#[]⟩,.slice none 0 0,.int .i64 0,.slice A ns.length mc,.slice (some ⟨w4.heap.size,0,none⟩) 2 2] ZX 28 rfl rfl hRf (by kernel_rfl) rfl (by kernel_rfl) ((setRow_far _ _ _ (show w.heap.size ≠ w.heap.size + 1 by omega)).trans hXf) (fun hHeld => ?_);refine wpAnyH_done (by kernel_rfl) ?_ _;go_wp2;exact bodyPost_agg (d := _) rfl rfl (setRow_at hRf _) Tryz.underlying28 rfl (by kernel_rfl) rfl (exQ_close (S := fun k => (S k ∧ k < w.heap.size) ∨ w.heap.size + 1 < k) H0.out (exS_node (by decide) (noMatsS _ _) (hmsf.go (Nat.le_refl _) (fun k _ h => Or.inr (by have h : Y.heap.size ≤ k := h;omega)) (fun _ _ _ => rfl)) (exsS2 hKf (Or.inr (show w.heap.size + 1 < w4.heap.size by omega)) (hxf.go (Nat.le_refl _) (fun k _ h => Or.inl h) (fun _ _ _ => rfl)) (hyf.go (Nat.le_refl _) (fun k _ h => Or.inr (by have h : wd.heap.size ≤ k := h;omega)) (fun _ _ _ => rfl)))) hPf hof (show w.heap.size ≤ w.heap.size + 1 by omega) (show g < w.heap.size + 1 by have := Hgw.out;omega) (fun h => by rcases h with ⟨-,h⟩ | h <;> omega) (fun k _ h => by
        rcases h with ⟨h,-⟩ | h
        · exact Or.inl h
        · exact Or.inr (by omega)))
end Go.Proofs.YtpmbamfpmmdhcaaGreat
