/- The program's parser: step, behind a sign a number. (PRINTED by gen_qstep.py.) -/
import Derived.Test.YtpmbamfpmmdhcaaGreatK23
set_option maxRecDepth 100000
set_option maxHeartbeats 16000000
namespace Go.Proofs.YtpmbamfpmmdhcaaGreat
open Go.RowKit
set_option linter.unusedSimpArgs false
set_option linter.unusedVariables false
theorem qStep_num (g : Nat) (pt : Option Addr) (cap : Nat) (L : List Tok) (op : Int) (x : Ex) (fv : Value) (p : PS) (hk : (p.tok L).kind = 2) (hw : QW L p) (S : Nat → Prop) (cs : List Value) (w : World) (hSg : ¬ S g) (h : QA g pt cap L p w) (hx : ExS S w x cs) :
    Calls Tryz.prog 90 #[.pointer (some ⟨g,0,none⟩),.agg cs.toArray,.int .i64 op,fv] w (ExQ g pt cap L (fun k => S k ∨ w.heap.size ≤ k) w (.mk 4 0 op (p.tok L).num ⟨#[]⟩ [] 0 [] [x]) { p with i := p.i + 1 }) := by
  have hi := hw.pw.at'
  have hlen := hw.pw.len
  obtain ⟨pm,cm,pn,cn,pk,ck,rfl,-⟩ := IsEx.cellsE hx
  have hg := h.1.lt
  have Hgw := Lib.hid hg
  have Hx := Lib.hid (hx.go (S' := fun k => S k ∧ k < w.heap.size) (Nat.le_refl _) (fun b hb h => ⟨h,hb⟩) (fun _ _ _ => rfl));clear hx
  have HSg : Hid (¬ (S g ∧ g < w.heap.size)) := Lib.hid (fun h => hSg h.1)
  have hTo : p.isT L [111,110] = false := by
    rw [isT_word hw (s := [111,110]) (c := 111) (r := [110]) rfl (by decide)];unfold isK;rw [hk];rfl
  have hon := fun (X : World) (hX : QA g pt cap L p X) => qOn g pt cap L 0 p [] p (by rw [isT_take hTo];rfl) X hX hw
  rw [isT_take hTo] at hon
  have HOn := Lib.hid hon
  have HNow := Lib.hid (fun (X : World) (hX : QA g pt cap L p X) => qNow g pt cap L p X hX hi hlen)
  unfold Tok.val at HNow
  have htk : p.token L 2 = (p.tok L,{ p with i := p.i + 1 }) := by unfold PS.token;rw [if_pos ⟨hw.e0,hk⟩]
  have hK := fun (X : World) (hX : QA g pt cap L p X) => qAny g pt cap L p X hX hw 2
  rw [htk] at hK
  have HK := Lib.hid hK
  unfold Tok.val at HK
  have H0 := Lib.hid hw.e0
  clear hon hTo htk hK hw
  obtain ⟨t,ht⟩ : ∃ t,p.tok L = t := ⟨_,rfl⟩
  rw [ht] at hk HNow HK ⊢
  clear ht
  have hfA := fun wx => fieldTokA t.kind t.num t.pos ⟨t.text.toArray⟩ wx
  have hfC := fun wx => fieldTokC t.kind t.num t.pos ⟨t.text.toArray⟩ wx
  rw [hk] at hfA hfC HNow HK
  clear hk
  go_enter Tryz.func90,Tryz.ntmps90;(try simp only [List.append_eq,List.cons_append,List.nil_append])
  go_wp2_with fail
  have hXb := two_at w [.int .i64 x.kind,.int .i64 x.fn,.int .i64 x.op,.int .i64 x.num,.string x.metric,.slice pm x.mats.length cm,.int .i64 x.span,.slice pn x.names.length cn,.slice pk x.kids.length ck] ZX 28 28
  have hRb := two_at' w (.cells ([.int .i64 x.kind,.int .i64 x.fn,.int .i64 x.op,.int .i64 x.num,.string x.metric,.slice pm x.mats.length cm,.int .i64 x.span,.slice pn x.names.length cn,.slice pk x.kids.length ck] : List Value).toArray 28) ZX 28
  have hbl := two_below w (.cells ([.int .i64 x.kind,.int .i64 x.fn,.int .i64 x.op,.int .i64 x.num,.string x.metric,.slice pm x.mats.length cm,.int .i64 x.span,.slice pn x.names.length cn,.slice pk x.kids.length ck] : List Value).toArray 28) (.cells ZX.toArray 28)
  have hPY := h.keep hbl
  have hxY := Hx.out.below hbl
  have hoY := Off.of (g := g) hbl
  clear hbl Hx
  generalize ((w.alloc (.cells ([.int .i64 x.kind,.int .i64 x.fn,.int .i64 x.op,.int .i64 x.num,.string x.metric,.slice pm x.mats.length cm,.int .i64 x.span,.slice pn x.names.length cn,.slice pk x.kids.length ck] : List Value).toArray 28)).alloc (.cells ZX.toArray 28)) = Y at hXb hRb hPY hxY hoY
  refine (HOn.out _ hPY).mono ?_
  rintro e' w1 ⟨hok,hbad,ho1⟩
  have hX1 := ho1.blkX hXb (Nat.ne_of_gt hg)
  have hR1 := ho1.blkX hRb (show w.heap.size + 1 ≠ g by have := Hgw.out;omega)
  have hx1 := hxY.off ho1 HSg.out
  have hszY : w.heap.size + 1 < Y.heap.size := hRb.lt
  have ho1 := hoY.trans ho1
  obtain ⟨v,rfl,-,hP1⟩ := hok H0.out
  clear hok hbad hXb hRb hPY hxY hoY
  go_wp2_with fail
  refine (HNow.out _ hP1).mono ?_
  rintro e' w2 ⟨rfl,hb2⟩
  have hX2 := hX1.keep hb2
  have hR2 := hR1.keep hb2
  have hx2 := hx1.below hb2
  have hP2 := hP1.keep hb2
  have ho2 := ho1.trans (Off.of hb2)
  have hlx := hX2.lt
  have hlr := hR2.lt
  clear hX1 hR1 hx1 hP1 ho1 hb2
  go_wp2
  refine wp_region_held_drew (S := fun W => Blk W w.heap.size 28 [.int .i64 x.kind,.int .i64 x.fn,.int .i64 x.op,.int .i64 x.num,.string x.metric,.slice pm x.mats.length cm,.int .i64 x.span,.slice pn x.names.length cn,.slice pk x.kids.length ck]) (by kernel_rfl) (by first | exact hX2 | exact hX2.drew) (fun hHeld => ?_)
  have hbd : Below w2.heap.size w2 w2.drew := (Below.refl _ _).drew
  have hX3 := hX2.keep hbd
  have hR3 := hR2.keep hbd
  have hx3 := hx2.below hbd
  have hP3 := hP2.keep hbd
  have ho3 := ho2.trans (Off.of (g := g) hbd)
  generalize w2.drew = wd at hX3 hR3 hx3 hP3 ho3 hHeld hbd
  have hlw : w.heap.size + 1 < wd.heap.size := hR3.lt
  clear hX2 hR2 hx2 hP2 ho2 hbd
  (refine htk 0 24 ?_ rfl ?_ ?_;rotate_left;(intro w hSw;clear hSw;go_simp);(try with_reducible rfl);simp only [lsz,lss])
  (refine htk 1 25 ?_ rfl ?_ ?_;rotate_left;(intro w hSw;clear hSw;go_simp);(try with_reducible rfl);simp only [lsz,lss])
  (refine htk 4 28 (.agg ([.int .i64 x.kind,.int .i64 x.fn,.int .i64 x.op,.int .i64 x.num,.string x.metric,.slice pm x.mats.length cm,.int .i64 x.span,.slice pn x.names.length cn,.slice pk x.kids.length ck] : List Value).toArray) rfl ?_ ?_;(intro w hSw;have q0 := hSw.cell 0 _ rfl;have q1 := hSw.cell 1 _ rfl;have q2 := hSw.cell 2 _ rfl;have q3 := hSw.cell 3 _ rfl;have q4 := hSw.cell 4 _ rfl;have q5 := hSw.cell 5 _ rfl;have q6 := hSw.cell 6 _ rfl;have q7 := hSw.cell 7 _ rfl;have q8 := hSw.cell 8 _ rfl;go_simp);simp only [lsz,lss])
  refine wpAnyH_ready (rs := [2,5]) (by kernel_rfl) (by simp) (.cons rfl (fun K hK => ?_) (.cons rfl (fun K hK => ?_) .nil))
  · rw [if_pos (by kernel_rfl)]
    go_simp
    refine (HK.out _ hP3).mono ?_;rintro e' w4 ⟨hok,-,ho4⟩;obtain ⟨rfl,hP4⟩ := hok H0.out
    dsimp only
    have hX4 := ho4.blkX hX3 (Nat.ne_of_gt Hgw.out);refine hK.out _ _ hX4 (fun hHeld => ?_);clear hK K hok
    (try simp only [Act.put,lsa,lsz,lss])
    (refine htk 3 27 ?_ rfl ?_ ?_;rotate_left;(intro w hSw;clear hSw;go_simp);(try with_reducible rfl);simp only [lsz,lss])
    refine hrd 5 rfl (fun K hK => ?_);rw [if_pos (by kernel_rfl)]
    go_simp
    have hR4 := ho4.blkX hR3 (show w.heap.size + 1 ≠ g by have := Hgw.out;omega);have hx4 := hx3.off ho4 HSg.out;have hl4 := hR4.lt;have hbl4 : Below w4.heap.size w4 (w4.alloc (.cells ([.int .i64 x.kind,.int .i64 x.fn,.int .i64 x.op,.int .i64 x.num,.string x.metric,.slice pm x.mats.length cm,.int .i64 x.span,.slice pn x.names.length cn,.slice pk x.kids.length ck] : List Value).toArray 28)) := (Below.refl _ _).alloc (Nat.le_refl _) _;have hXf := hX4.keep hbl4;have hRf := hR4.keep hbl4;have hxf := hx4.below hbl4;have hPf := hP4.keep hbl4;have hof := (ho3.trans ho4).trans (Off.of (g := g) hbl4);have hKf := Blk.new w4 [.int .i64 x.kind,.int .i64 x.fn,.int .i64 x.op,.int .i64 x.num,.string x.metric,.slice pm x.mats.length cm,.int .i64 x.span,.slice pn x.names.length cn,.slice pk x.kids.length ck] 28;refine hK.out _ _ hXf (fun hHeld => ?_);clear hK K
    (try simp only [Act.put,lsa,lsz,lss])
    (refine htk 6 30 ?_ rfl ?_ ?_;rotate_left;(intro w hSw;clear hSw;go_simp);(try with_reducible rfl);simp only [lsz,lss])
    refine held_store 7 rfl (by kernel_rfl) (by kernel_rfl) rfl 28 _ _ rfl (w.heap.size + 1) [.int .i64 4,.int .i64 0,.int .i64 op,.int .i64 t.num,.string ⟨#[]⟩,.slice none 0 0,.int .i64 0,.slice none 0 0,.slice (some ⟨w4.heap.size,0,none⟩) 1 1] ZX 28 rfl rfl hRf (by kernel_rfl) rfl (by kernel_rfl) ((setRow_far _ _ _ (show w.heap.size ≠ w.heap.size + 1 by omega)).trans hXf) (fun hHeld => ?_);refine wpAnyH_done (by kernel_rfl) ?_ _;go_wp2;exact bodyPost_agg (d := _) rfl rfl (setRow_at hRf _) Tryz.underlying28 rfl (by kernel_rfl) rfl (exQ_close (S := fun k => (S k ∧ k < w.heap.size) ∨ w.heap.size + 1 < k) H0.out (exS_node (by decide) (noMatsS _ _) (noStrsS _ _) (exsS1 hKf (Or.inr (show w.heap.size + 1 < w4.heap.size by omega)) (hxf.go (Nat.le_refl _) (fun k _ h => Or.inl h) (fun _ _ _ => rfl)))) hPf hof (show w.heap.size ≤ w.heap.size + 1 by omega) (show g < w.heap.size + 1 by have := Hgw.out;omega) (fun h => by rcases h with ⟨-,h⟩ | h <;> omega) (fun k _ h => by
      rcases h with ⟨h,-⟩ | h
      · exact Or.inl h
      · exact Or.inr (by omega)))
  · rw [if_pos (by kernel_rfl)]
    go_simp
    have hbl4 : Below wd.heap.size wd (wd.alloc (.cells ([.int .i64 x.kind,.int .i64 x.fn,.int .i64 x.op,.int .i64 x.num,.string x.metric,.slice pm x.mats.length cm,.int .i64 x.span,.slice pn x.names.length cn,.slice pk x.kids.length ck] : List Value).toArray 28)) := (Below.refl _ _).alloc (Nat.le_refl _) _;have hXa := hX3.keep hbl4;have hRa := hR3.keep hbl4;have hxa := hx3.below hbl4;have hPa := hP3.keep hbl4;have hoa := ho3.trans (Off.of (g := g) hbl4);have hKa := Blk.new wd [.int .i64 x.kind,.int .i64 x.fn,.int .i64 x.op,.int .i64 x.num,.string x.metric,.slice pm x.mats.length cm,.int .i64 x.span,.slice pn x.names.length cn,.slice pk x.kids.length ck] 28;refine hK.out _ _ hXa (fun hHeld => ?_);clear hK K
    (try simp only [Act.put,lsa,lsz,lss])
    refine hrd 2 rfl (fun K hK => ?_);rw [if_pos (by kernel_rfl)]
    go_simp
    refine (HK.out _ hPa).mono ?_;rintro e' w4 ⟨hok,-,ho4⟩;obtain ⟨rfl,hPf⟩ := hok H0.out
    dsimp only
    have hXf := ho4.blkX hXa (Nat.ne_of_gt Hgw.out);have hRf := ho4.blkX hRa (show w.heap.size + 1 ≠ g by have := Hgw.out;omega);have hxf := hxa.off ho4 HSg.out;have hKf := ho4.blkX hKa (show wd.heap.size ≠ g by have := Hgw.out;omega);have hof := hoa.trans ho4;refine hK.out _ _ hXf (fun hHeld => ?_);clear hK K hok
    (try simp only [Act.put,lsa,lsz,lss])
    (refine htk 3 27 ?_ rfl ?_ ?_;rotate_left;(intro w hSw;clear hSw;go_simp);(try with_reducible rfl);simp only [lsz,lss])
    (refine htk 6 30 ?_ rfl ?_ ?_;rotate_left;(intro w hSw;clear hSw;go_simp);(try with_reducible rfl);simp only [lsz,lss])
    refine held_store 7 rfl (by kernel_rfl) (by kernel_rfl) rfl 28 _ _ rfl (w.heap.size + 1) [.int .i64 4,.int .i64 0,.int .i64 op,.int .i64 t.num,.string ⟨#[]⟩,.slice none 0 0,.int .i64 0,.slice none 0 0,.slice (some ⟨wd.heap.size,0,none⟩) 1 1] ZX 28 rfl rfl hRf (by kernel_rfl) rfl (by kernel_rfl) ((setRow_far _ _ _ (show w.heap.size ≠ w.heap.size + 1 by omega)).trans hXf) (fun hHeld => ?_);refine wpAnyH_done (by kernel_rfl) ?_ _;go_wp2;exact bodyPost_agg (d := _) rfl rfl (setRow_at hRf _) Tryz.underlying28 rfl (by kernel_rfl) rfl (exQ_close (S := fun k => (S k ∧ k < w.heap.size) ∨ w.heap.size + 1 < k) H0.out (exS_node (by decide) (noMatsS _ _) (noStrsS _ _) (exsS1 hKf (Or.inr (show w.heap.size + 1 < wd.heap.size by omega)) (hxf.go (Nat.le_refl _) (fun k _ h => Or.inl h) (fun _ _ _ => rfl)))) hPf hof (show w.heap.size ≤ w.heap.size + 1 by omega) (show g < w.heap.size + 1 by have := Hgw.out;omega) (fun h => by rcases h with ⟨-,h⟩ | h <;> omega) (fun k _ h => by
      rcases h with ⟨h,-⟩ | h
      · exact Or.inl h
      · exact Or.inr (by omega)))
end Go.Proofs.YtpmbamfpmmdhcaaGreat
