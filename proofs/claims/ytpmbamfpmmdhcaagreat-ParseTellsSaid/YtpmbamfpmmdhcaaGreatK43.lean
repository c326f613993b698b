/- The program's parser: matcher. -/
import Derived.Test.YtpmbamfpmmdhcaaGreatK21
set_option maxRecDepth 100000
set_option maxHeartbeats 16000000
namespace Go.Proofs.YtpmbamfpmmdhcaaGreat
open Go.RowKit
set_option linter.unusedSimpArgs false
set_option linter.unusedVariables false
theorem isT_2 {L : List Tok} {p : PS} {s s' : List UInt8} (h : p.isT L s = true) (hn : s ≠ s') : p.isT L s' = false := by
  unfold PS.isT at h ⊢
  simp only [Bool.and_eq_true,beq_iff_eq] at h
  simp [h.2,hn]
theorem one_sign {L : List Tok} {n : PS} (hn : QW L n) :
    (n.isT L [61] = true → (n.take L [33,61]) = (false,n)) ∧ (n.isT L [61] = false → ((n.take L [33,61]).1 = true ∧ (n.need L [33,61]) = (n.take L [33,61]).2 ∧ (n.take L [33,61]).2.err = 0) ∨ (n.take L [33,61] = (false,n) ∧ n.need L [61] = n.need L [33,61] ∧ (n.need L [61]).err ≠ 0)) := by
  refine ⟨fun h => ?_,fun h => ?_⟩
  · have := isT_2 h (show ([61] : List UInt8) ≠ [33,61] by decide)
    unfold PS.take;rw [this];rfl
  · cases h2 : n.isT L [33,61] with
    | true =>
      left
      have e : n.take L [33,61] = (true,{ n with i := n.i + 1 }) := by unfold PS.take;rw [h2,if_pos rfl,if_neg (by decide),if_neg (by decide)]
      refine ⟨by rw [e],?_,by rw [e];exact hn.e0⟩;rw [e,need_of h2 (by decide) (by decide)]
    | false =>
      right
      refine ⟨by unfold PS.take;rw [h2];rfl,by rw [need_of_not h,need_of_not h2],?_⟩;rw [need_of_not h];unfold PS.fail;rw [if_pos hn.e0];show (14 : Int) ≠ 0;decide
abbrev ZM : List Value := [.int .i64 0,.string ⟨#[]⟩,.string ⟨#[]⟩]
theorem qa_alloc {g : Nat} {pt : Option Addr} {cap : Nat} {L : List Tok} {p : PS} {w : World} (h : QA g pt cap L p w) (o : Obj) : QA g pt cap L p (w.alloc o) := h.keep ((Below.refl _ _).alloc (Nat.le_refl _) _)
theorem off_alloc {g : Nat} {w0 w : World} (h : Off g w0 w) (o : Obj) : Off g w0 (w.alloc o) := h.trans (Off.of ((Below.refl _ _).alloc (Nat.le_refl _) _))
theorem QA.setFar {g : Nat} {pt : Option Addr} {cap : Nat} {L : List Tok} {p : PS} {w : World} (h : QA g pt cap L p w) {k : Nat} (hk : g < k) (i : Nat) (u : Value) : QA g pt cap L p (w.setCell ⟨k,i,none⟩ u) :=
  ⟨h.1.far (show g ≠ k by omega) u,h.2.mono ((Below.refl g w).setCell (show g ≤ k by omega) u) (Nat.le_refl _)⟩
theorem qMatcher (g : Nat) (pt : Option Addr) (cap : Nat) (L : List Tok) (p : PS) (w : World) (h : QA g pt cap L p w) (hw : QW L p) :
    Calls Tryz.prog 83 #[.pointer (some ⟨g,0,none⟩)] w (StepQ g pt cap L w (.agg (pOne L p).1.cells.toArray) (pOne L p).2) := by
  have hg := h.1.lt
  have Hgw := Lib.hid hg
  have HK := Lib.hid (fun (X : World) (hX : QA g pt cap L p X) => qAny g pt cap L p X hX hw 1)
  have HQ := Lib.hid (hw.token 1 (by decide))
  unfold pOne
  simp only
  obtain ⟨tk,htk⟩ : ∃ tk,(p.token L 1).1 = tk := ⟨_,rfl⟩
  obtain ⟨n,hn⟩ : ∃ n,(p.token L 1).2 = n := ⟨_,rfl⟩
  rw [htk,hn] at HK
  rw [hn] at HQ
  rw [htk,hn]
  clear htk hn
  unfold Tok.val at HK
  have hfB := fun wx => fieldTokB tk.kind tk.num tk.pos ⟨tk.text.toArray⟩ wx
  by_cases h0 : n.err = 0
  · have H0 := Lib.hid h0;clear h0
    have hQn := HQ.out H0.out;obtain ⟨hs1,hs2⟩ := one_sign hQn;have hT := isT_sign hQn (s := [61]) (c := 61) (r := []) rfl (by decide);have HS := Lib.hid (fun (X : World) (hX : QA g pt cap L n X) => qSignR g pt cap L n X hX hQn.pw.at' hQn.pw.len [61]);cases hk : isK (n.tok L) 4 [61] with
    | true =>
      rw [hk] at hT HS;have e1 := hs1 hT;have e2 := need_of hT (by decide) (by decide);rw [e1];simp only [Bool.false_eq_true,if_false];rw [e2];have hQ2 : QW L { n with i := n.i + 1 } := by rw [← e2];exact hQn.need [61] (by rw [e2];exact H0.out)
      have HK2 := Lib.hid (fun (X : World) (hX : QA g pt cap L { n with i := n.i + 1 } X) => qAny g pt cap L _ X hX hQ2 3);clear e1 e2 hs1 hs2 hT hQ2 hQn hk;obtain ⟨t3,ht3⟩ : ∃ tk,(PS.token L { n with i := n.i + 1 } 3).1 = tk := ⟨_,rfl⟩;obtain ⟨q,hq⟩ : ∃ n',(PS.token L { n with i := n.i + 1 } 3).2 = n' := ⟨_,rfl⟩;rw [ht3,hq] at HK2;rw [ht3,hq];clear ht3 hq;unfold Tok.val at HK2;have hfB3 := fun wx => fieldTokB t3.kind t3.num t3.pos ⟨t3.text.toArray⟩ wx
      go_enter Tryz.func83,Tryz.ntmps83;(try simp only [List.append_eq,List.cons_append,List.nil_append])
      go_wp2_with fail
      have hZ := Blk.new w ZM 90;refine (HK.out _ (qa_alloc h _)).mono ?_;rintro e' w1 ⟨hok,-,ho1⟩;obtain ⟨rfl,hP1⟩ := hok H0.out;have hZ1 := ho1.blkX hZ (Nat.ne_of_gt hg);have ho1 := (off_alloc (Off.refl g w) (.cells ZM.toArray 90)).trans ho1;clear hok hZ
      go_wp2_with fail
      have hlt1 := hZ1.lt;have hg1 := hP1.1.lt;have hM := Blk.new w1 [.int .i64 1,.string ⟨tk.text.toArray⟩,.string ⟨#[]⟩] 90;refine (HS.out _ (qa_alloc hP1 _)).mono ?_;rintro e' w2 ⟨rfl,hP2,ho2⟩
      replace hP2 : QA g pt cap L { n with i := n.i + 1 } w2 := hP2
      have hM2 := ho2.blkX hM (Nat.ne_of_gt hg1);have hZ2 := ho2.blkX (hZ1.alloc _) (Nat.ne_of_gt hg);have ho2 := (off_alloc ho1 _).trans ho2;clear hM hZ1 ho1 hP1
      by_cases h3 : q.err = 0
      · have H3 := Lib.hid h3;clear h3
        go_wp2_with fail
        refine (HK2.out _ hP2).mono ?_;rintro e' w3 ⟨hok,-,ho3⟩;obtain ⟨rfl,hP3⟩ := hok H3.out;have hM3 := ho3.blkX hM2 (Nat.ne_of_gt hg1);have HZ3 := Lib.hid (ho3.blkX hZ2 (Nat.ne_of_gt hg));have HO3 := Lib.hid (ho2.trans ho3);have HP3 := Lib.hid hP3;have hl3 := hM3.lt;have m0 := hM3.cell 0 _ rfl;have m1 := hM3.cell 1 _ rfl;have m2 := hM3.cell 2 _ rfl;have fm := hM3.free 2;have HM3 := Lib.hid hM3;clear hok hM2 hZ2 ho2 hP2 hP3 ho3 hM3;have HZf := Lib.hid (HZ3.out.far (p := ⟨w1.heap.size,2,none⟩) (Nat.ne_of_lt hlt1) (.string ⟨t3.text.toArray⟩))
        go_wp2_with (refine wpList_store_row rfl 90 _ _ rfl w.heap.size #[.int .i64 1,.string ⟨tk.text.toArray⟩,.string ⟨t3.text.toArray⟩] rfl rfl 90 _ HZf.out (by kernel_rfl) rfl (by kernel_rfl) ?_)
        exact bodyPost_agg (d := _) rfl rfl (setRow_at HZf.out _) Tryz.underlying90 rfl (by kernel_rfl) rfl (StepQ.ok H3.out ((HP3.out.setFar hg1 2 _).row hg _) ((HO3.out.setNew (Nat.le_of_lt hlt1) 2 _).rowNew (Nat.le_refl _) _))
      · have H3 := Lib.hid h3;clear h3
        go_wp2_with fail
        refine (HK2.out _ hP2).mono ?_;rintro e' w3 ⟨-,hbad,ho3⟩;obtain rfl := hbad H3.out;exact ⟨rfl,StepQ.bad H3.out rfl rfl (ho2.trans ho3)⟩
    | false =>
      rw [hk] at hT HS;have HW := Lib.hid (fun (X : World) (hX : QA g pt cap L n X) => qWant g pt cap L n X hX hQn [33,61] 33 [61] rfl (by decide));rcases hs2 hT with ⟨c1,c2,c3⟩ | ⟨c1,c2,c3⟩
      · rw [c1]
        simp only [if_true];have hQ2 : QW L (n.take L [33,61]).2 := hQn.take _ c3;rw [c2] at HW;generalize (n.take L [33,61]).2 = n2 at hQ2 HW c3 ⊢;have C3 := Lib.hid c3;have HK2 := Lib.hid (fun (X : World) (hX : QA g pt cap L n2 X) => qAny g pt cap L _ X hX hQ2 3);clear c1 c2 c3 hs1 hs2 hT hQ2 hQn hk;obtain ⟨t3,ht3⟩ : ∃ tk,(PS.token L n2 3).1 = tk := ⟨_,rfl⟩;obtain ⟨q,hq⟩ : ∃ n',(PS.token L n2 3).2 = n' := ⟨_,rfl⟩;rw [ht3,hq] at HK2;rw [ht3,hq];clear ht3 hq;unfold Tok.val at HK2;have hfB3 := fun wx => fieldTokB t3.kind t3.num t3.pos ⟨t3.text.toArray⟩ wx
        go_enter Tryz.func83,Tryz.ntmps83;(try simp only [List.append_eq,List.cons_append,List.nil_append])
        go_wp2_with fail
        have hZ := Blk.new w ZM 90;refine (HK.out _ (qa_alloc h _)).mono ?_;rintro e' w1 ⟨hok,-,ho1⟩;obtain ⟨rfl,hP1⟩ := hok H0.out;have hZ1 := ho1.blkX hZ (Nat.ne_of_gt hg);have ho1 := (off_alloc (Off.refl g w) (.cells ZM.toArray 90)).trans ho1;clear hok hZ
        go_wp2_with fail
        have hlt1 := hZ1.lt;have hg1 := hP1.1.lt;have hM := Blk.new w1 [.int .i64 1,.string ⟨tk.text.toArray⟩,.string ⟨#[]⟩] 90;refine (HS.out _ (qa_alloc hP1 _)).mono ?_;rintro e' w2 ⟨rfl,hP2,ho2⟩
        replace hP2 : QA g pt cap L n w2 := hP2
        have hM2 := ho2.blkX hM (Nat.ne_of_gt hg1);have hZ2 := ho2.blkX (hZ1.alloc _) (Nat.ne_of_gt hg);have ho2 := (off_alloc ho1 _).trans ho2;clear hM hZ1 ho1 hP1
        go_wp2_with fail
        refine (HW.out _ hP2).mono ?_;rintro e' w3 ⟨hok,-,ho3⟩;obtain ⟨rfl,hP3⟩ := hok C3.out;have hM3 := ho3.blkX hM2 (Nat.ne_of_gt hg1);have hZ3 := ho3.blkX hZ2 (Nat.ne_of_gt hg);have hO3 := ho2.trans ho3;have hl3 := hM3.lt;have m0 := hM3.cell 0 _ rfl;have fm := hM3.free 0;have HM3 := Lib.hid hM3;have HZ3 := Lib.hid hZ3;have HO3 := Lib.hid hO3;have HP3 := Lib.hid hP3;clear hok hM2 hZ2 ho2 hP2 hP3 ho3 hM3 hZ3 hO3
        by_cases h3 : q.err = 0
        · have H3 := Lib.hid h3;clear h3
          go_wp2_with fail
          refine (HK2.out _ (HP3.out.setFar hg1 0 _)).mono ?_;rintro e' w4 ⟨hok,-,ho4⟩;obtain ⟨rfl,hP4⟩ := hok H3.out;have hM4 := ho4.blkX (HM3.out.set_ 0 (.int .i64 2)) (Nat.ne_of_gt hg1);have HZ4 := Lib.hid (ho4.blkX (HZ3.out.far (p := ⟨w1.heap.size,0,none⟩) (Nat.ne_of_lt hlt1) (.int .i64 2)) (Nat.ne_of_gt hg));have HO4 := Lib.hid ((HO3.out.setNew (Nat.le_of_lt hlt1) 0 (.int .i64 2)).trans ho4);have HP4 := Lib.hid hP4;have hl4 := hM4.lt;clear m0 fm;have m0 := hM4.cell 0 _ rfl;have m1 := hM4.cell 1 _ rfl;have m2 := hM4.cell 2 _ rfl;have fm := hM4.free 2;have HM4 := Lib.hid hM4;clear hok hP4 ho4 hM4;have HZf := Lib.hid (HZ4.out.far (p := ⟨w1.heap.size,2,none⟩) (Nat.ne_of_lt hlt1) (.string ⟨t3.text.toArray⟩))
          go_wp2_with (refine wpList_store_row rfl 90 _ _ rfl w.heap.size #[.int .i64 2,.string ⟨tk.text.toArray⟩,.string ⟨t3.text.toArray⟩] rfl rfl 90 _ HZf.out (by kernel_rfl) rfl (by kernel_rfl) ?_)
          exact bodyPost_agg (d := _) rfl rfl (setRow_at HZf.out _) Tryz.underlying90 rfl (by kernel_rfl) rfl (StepQ.ok H3.out ((HP4.out.setFar hg1 2 _).row hg _) ((HO4.out.setNew (Nat.le_of_lt hlt1) 2 _).rowNew (Nat.le_refl _) _))
        · have H3 := Lib.hid h3;clear h3
          go_wp2_with fail
          refine (HK2.out _ (HP3.out.setFar hg1 0 _)).mono ?_;rintro e' w4 ⟨-,hbad,ho4⟩;obtain rfl := hbad H3.out;exact ⟨rfl,StepQ.bad H3.out rfl rfl ((HO3.out.setNew (Nat.le_of_lt hlt1) 0 (.int .i64 2)).trans ho4)⟩
      · rw [c1]
        simp only [Bool.false_eq_true,if_false];rw [c2];rw [c2] at c3;have hst := St.token L (n.need L [33,61]) 3;generalize n.need L [33,61] = n2 at HW c3 hst ⊢;have C3 := Lib.hid c3;have Hst := Lib.hid hst;clear c1 c2 c3 hs1 hs2 hT hQn hk hst
        go_enter Tryz.func83,Tryz.ntmps83;(try simp only [List.append_eq,List.cons_append,List.nil_append])
        go_wp2_with fail
        have hZ := Blk.new w ZM 90;refine (HK.out _ (qa_alloc h _)).mono ?_;rintro e' w1 ⟨hok,-,ho1⟩;obtain ⟨rfl,hP1⟩ := hok H0.out;have ho1 := (off_alloc (Off.refl g w) (.cells ZM.toArray 90)).trans ho1;clear hok hZ
        go_wp2_with fail
        refine (HS.out _ (qa_alloc hP1 _)).mono ?_;rintro e' w2 ⟨rfl,hP2,ho2⟩
        replace hP2 : QA g pt cap L n w2 := hP2
        have ho2 := (off_alloc ho1 _).trans ho2;clear ho1 hP1
        go_wp2_with fail
        refine (HW.out _ hP2).mono ?_;rintro e' w3 ⟨-,hbad,ho3⟩;obtain rfl := hbad C3.out;obtain ⟨a,b⟩ := Hst.out C3.out;exact ⟨rfl,StepQ.bad C3.out a b (ho2.trans ho3)⟩
  · have H0 := Lib.hid h0;clear h0
    have Hst : Hid (St n (PS.token L (if (n.take L [33,61]).1 then (n.take L [33,61]).2 else (n.take L [33,61]).2.need L [61]) 3).2) := Lib.hid (by
      split
      · exact (St.take L _ _).trans (.token _ _ _)
      · exact ((St.take L _ _).trans (.need _ _ _)).trans (.token _ _ _))
    generalize (PS.token L (if (n.take L [33,61]).1 then (n.take L [33,61]).2 else (n.take L [33,61]).2.need L [61]) 3) = n2 at Hst ⊢;generalize Value.agg (Mat.cells _).toArray = vv
    go_enter Tryz.func83,Tryz.ntmps83;(try simp only [List.append_eq,List.cons_append,List.nil_append])
    go_wp2_with fail
    refine (HK.out _ (qa_alloc h _)).mono ?_;rintro e' w1 ⟨-,hbad,ho1⟩;obtain rfl := hbad H0.out;obtain ⟨a,b⟩ := Hst.out H0.out;exact ⟨rfl,StepQ.bad H0.out a b ((off_alloc (Off.refl g w) _).trans ho1)⟩
def contM (L : List Tok) (f : Nat) (q : PS) (out : List Mat) : Option (List Mat × PS) := if (q.take L [44]).1 then matsF L f (q.take L [44]).2 out else some (out,(q.take L [44]).2)
theorem matsF_cont {L : List Tok} {f : Nat} {p : PS} {out : List Mat} (h0 : p.err = 0) : matsF L (f + 1) p out = contM L f (pOne L p).2 (out ++ [(pOne L p).1]) := by
  rw [matsF,if_pos h0];rfl
theorem contM_st {L : List Tok} {f : Nat} {q : PS} {out r : List Mat} {p' : PS} (h : (contM L f q out).map (fun x => (x.1,x.2.need L [125])) = some (r,p')) : St q p' := by
  obtain ⟨⟨r0,p0⟩,h0,h1⟩ := Option.map_eq_some_iff.1 h
  simp only [Prod.mk.injEq] at h1
  obtain ⟨-,rfl⟩ := h1
  unfold contM at h0
  refine St.trans ?_ (.need _ _ _)
  split at h0
  · exact (St.take L q [44]).trans (St.matsF L f _ _ _ _ h0)
  · simp only [Option.some.injEq,Prod.mk.injEq] at h0
    obtain ⟨-,rfl⟩ := h0;exact .take _ _ _
def MatchQ (g : Nat) (pt : Option Addr) (cap : Nat) (L : List Tok) (w : World) (r : List Mat) (p' : PS) (e' : Ending) (w' : World) : Prop :=
  (p'.err = 0 → ∃ v,e' = .returned v ∧ OwnMt w.heap.size w' v r ∧ QA g pt cap L p' w') ∧ (p'.err ≠ 0 → e' = .panicked (flt p'.err p'.at')) ∧ Off g w w'
theorem MatchQ.ok {g : Nat} {pt : Option Addr} {cap : Nat} {L : List Tok} {w : World} {r : List Mat} {p' : PS} {v : Value} {w' : World} (h0 : p'.err = 0) (hv : OwnMt w.heap.size w' v r) (h : QA g pt cap L p' w') (ho : Off g w w') : MatchQ g pt cap L w r p' (.returned v) w' := ⟨fun _ => ⟨v,rfl,hv,h⟩,fun hn => absurd h0 hn,ho⟩
theorem MatchQ.bad {g : Nat} {pt : Option Addr} {cap : Nat} {L : List Tok} {w : World} {r : List Mat} {p' q : PS} {w' : World} (h0 : q.err ≠ 0) (hs : St q p') (ho : Off g w w') : MatchQ g pt cap L w r p' (.panicked (flt q.err q.at')) w' := by
  obtain ⟨a,b⟩ := hs h0
  refine ⟨fun hn => absurd (a.symm.trans hn) h0,fun _ => by rw [a,b],ho⟩
theorem mats_none {L : List Tok} {f : Nat} {q : PS} (hq : QW L q) (hk : (q.tok L).kind ≠ 1) {r : List Mat} {p' : PS}
    (h : (if (q.take L [125]).1 then some ([],(q.take L [125]).2) else (matsF L f (q.take L [125]).2 []).map fun x => (x.1,x.2.need L [125])) = some (r,p')) :
    ((q.need L [125]).err = 0 → r = [] ∧ p' = q.need L [125]) ∧ ((q.need L [125]).err ≠ 0 → (q.need L [125]).err = p'.err ∧ (q.need L [125]).at' = p'.at') := by
  cases ht : q.isT L [125] with
  | true =>
    have hn := need_of ht (by decide) (by decide);have h1 : q.take L [125] = (true,q.need L [125]) := by
      rw [hn];unfold PS.take;rw [ht,if_pos rfl,if_neg (by decide),if_neg (by decide)]
    rw [h1] at h;simp only [if_true,Option.some.injEq,Prod.mk.injEq] at h;obtain ⟨rfl,rfl⟩ := h;exact ⟨fun _ => ⟨rfl,rfl⟩,fun _ => ⟨rfl,rfl⟩⟩
  | false =>
    have hn := need_of_not ht;have h1 : q.take L [125] = (false,q) := by unfold PS.take;rw [ht];rfl
    rw [h1] at h;simp only [Bool.false_eq_true,if_false] at h;have hf : q.fail 14 (q.tok L).pos = { q with err := 14,at' := (q.tok L).pos } := by unfold PS.fail;rw [if_pos hq.e0]
    cases f with
    | zero => simp [matsF] at h
    | succ f =>
      rw [matsF_cont hq.e0] at h;have hs := contM_st h;have htk : (q.token L 1).2 = q.fail 14 (q.tok L).pos := by unfold PS.token;rw [if_neg (fun h => hk h.2)]
      have hs2 : St (q.token L 1).2 (pOne L q).2 := by
        unfold pOne;simp only
        split
        · exact (St.take L _ _).trans (.token _ _ _)
        · exact ((St.take L _ _).trans (.need _ _ _)).trans (.token _ _ _)
      rw [htk] at hs2;rw [hn];obtain ⟨a,b⟩ := (hs2.trans hs) (by rw [hf];show (14 : Int) ≠ 0;decide);exact ⟨fun h0 => absurd h0 (by rw [hf];show (14 : Int) ≠ 0;decide),fun _ => ⟨a.symm,b.symm⟩⟩
theorem tok_word2 {L : List Tok} {q : PS} (hq : QW L q) (hk : (q.tok L).kind = 1) : q.take L [125] = (false,q) := by
  have : q.isT L [125] = false := by
    rw [isT_sign hq (s := [125]) (c := 125) (r := []) rfl (by decide)];unfold isK;rw [hk];rfl
  unfold PS.take;rw [this];rfl
theorem one_mat {w : World} {m : Mat} : Src (w.alloc (.cells m.cells.toArray 90)) (.slice (some ⟨w.heap.size,0,none⟩) 1 1) 3 1 m.cells :=
  src_blk (Blk.new w m.cells 90) rfl
theorem ones_mat (m : Mat) : ∀ u ∈ m.cells,u.oneCell' = true := by
  intro u hu;simp [Mat.cells] at hu;rcases hu with rfl | rfl | rfl <;> rfl
theorem QW.one {L : List Tok} {p : PS} (h : QW L p) (h0 : (pOne L p).2.err = 0) : QW L (pOne L p).2 := ⟨(pOne_keep h.pw).1,h.tw,h0⟩
theorem qMatch (g : Nat) (pt : Option Addr) (cap : Nat) (L : List Tok) (f : Nat) (p : PS) (r : List Mat) (p' : PS) (hr : pMatch L f p = some (r,p')) (hT : p.isT L [123] = true) (w : World) (h : QA g pt cap L p w) (hw : QW L p) :
    Calls Tryz.prog 46 #[.pointer (some ⟨g,0,none⟩)] w (MatchQ g pt cap L w r p') := by
  have HW := Lib.hid (qWant g pt cap L p w h hw [123] 123 [] rfl (by decide))
  have hg := h.1.lt
  have Hgw := Lib.hid hg
  have e1 := need_of hT (by decide) (by decide)
  have e2 : p.take L [123] = (true,{ p with i := p.i + 1 }) := by unfold PS.take;rw [hT,if_pos rfl,if_neg (by decide),if_neg (by decide)]
  have hq := hw.need [123]
  unfold pMatch at hr
  simp only at hr
  rw [e2] at hr
  simp only [if_true] at hr
  rw [e1] at HW hq
  have H0 : Hid (({ p with i := p.i + 1 } : PS).err = 0) := Lib.hid hw.e0
  obtain ⟨q,hqq⟩ : ∃ q : PS,({ p with i := p.i + 1 } : PS) = q := ⟨_,rfl⟩
  rw [hqq] at hq hr HW H0
  have HR := Lib.hid hr
  clear h hqq hr e1 e2 hT hw
  have HQ := Lib.hid (hq H0.out);clear hq
  have hi := HQ.out.pw.at'
  have hlen := HQ.out.pw.len
  have HN := Lib.hid (fun (X : World) (hX : QA g pt cap L q X) => qNow g pt cap L q X hX hi hlen)
  unfold Tok.val at HN
  have hfA := fun wx => fieldTokA (q.tok L).kind (q.tok L).num (q.tok L).pos ⟨(q.tok L).text.toArray⟩ wx
  by_cases hk : (q.tok L).kind = 1
  · have ht1 := tok_word2 HQ.out hk
    have hr := HR.out;rw [ht1] at hr;simp only [Bool.false_eq_true,if_false] at hr;have HK := Lib.hid (fun (X : World) (hX : QA g pt cap L q X) => qMatcher g pt cap L q X hX HQ.out);obtain ⟨f0,hf0⟩ : ∃ f0,(contM L f0 (pOne L q).2 [(pOne L q).1]).map (fun x => (x.1,x.2.need L [125])) = some (r,p') := by
      cases f with
      | zero => simp [matsF] at hr
      | succ f =>
        rw [matsF_cont H0.out] at hr;exact ⟨f,hr⟩
    have HF0 := Lib.hid hf0;clear hf0 hr ht1 HR;have HQ1 := Lib.hid (fun h0 => HQ.out.one h0);obtain ⟨-,hi1,hsm⟩ := pOne_keep HQ.out.pw;have hlt1 : 1 ≤ (pOne L q).2.i ∨ (pOne L q).2.err ≠ 0 := by
      by_cases h0 : (pOne L q).2.err = 0
      · left
        have ht := (tok_word HQ.out hk).2;have hi2 : q.i + 1 ≤ (pOne L q).2.i := by
          have hx : (q.token L 1).2 = { q with i := q.i + 1 } := by rw [ht]
          unfold pOne;simp only [hx];refine Nat.le_trans ?_ (PS.token_i L _ 3)
          split
          · exact (PS.take_i L ({ q with i := q.i + 1 } : PS) [33,61]).1
          · exact Nat.le_trans (PS.take_i L ({ q with i := q.i + 1 } : PS) [33,61]).1 (PS.need_i L _ [61])
        omega
      · exact .inr h0
    obtain ⟨m1,hm1⟩ : ∃ m,(pOne L q).1 = m := ⟨_,rfl⟩;obtain ⟨q0,hq0⟩ : ∃ q0,(pOne L q).2 = q0 := ⟨_,rfl⟩;rw [hm1,hq0] at HK HF0;rw [hq0] at HQ1 hlt1;rw [hm1] at hsm;unfold Mat.cells at HK;have Hsm := Lib.hid hsm;have Hlt1 := Lib.hid hlt1;clear hm1 hq0 hsm hlt1 hi1;have hkb : ((q.tok L).kind == 1) = true := by simp [hk]
    generalize q.tok L = t at HN hfA hk hkb
    go_enter Tryz.func46,Tryz.ntmps46;(try simp only [List.append_eq,List.cons_append,List.nil_append])
    go_wp2_with fail
    refine HW.out.mono ?_;rintro e' w1 ⟨hok,-,ho1⟩;obtain ⟨rfl,hP1⟩ := hok H0.out;clear hok
    go_wp2_with fail
    refine (HN.out w1 hP1).mono ?_;rintro e' w2 ⟨rfl,hb2⟩;have hP2 := hP1.keep hb2;have ho2 := ho1.trans (Off.of hb2);clear hP1 ho1 hb2;rw [hk] at hfA
    by_cases h0 : q0.err = 0
    · have H00 := Lib.hid h0;clear h0
      go_wp2_with fail
      refine (HK.out w2 hP2).mono ?_;rintro e' w3 ⟨hok,-,ho3⟩;obtain ⟨rfl,hP3⟩ := hok H00.out;have HP3 := Lib.hid hP3;have HO3 := Lib.hid (ho2.trans ho3);have hz3 := (ho2.trans ho3).size;clear hok hP2 ho2 ho3 hP3;have HQ1' := Lib.hid (HQ1.out H00.out)
      go_wp2_with (at_builtin;refine appL_mt _ rfl _ _ rfl w.heap.size (.slice none 0 0) 0 [] rfl (World.ownsRow_nil _ _ _ _) _ 1 m1.cells rfl (one_mat (w := w3) (m := m1)) (ones_mat m1) (by omega) (by rw [World.size_alloc];omega) ?_;intro v4 w4 hown4 hgr4 _)
      have HOwn : Hid (OwnMt w.heap.size w4 v4 [m1]) := Lib.hid (by unfold OwnMt;simpa using hown4);have hbl4 : Below w.heap.size w3 w4 := below_app ((Below.refl w.heap.size w3).alloc hz3 _) (World.ownsRow_nil _ w.heap.size 90 3) hgr4 (Nat.le_refl _) (by rw [World.size_alloc];omega);have HP4 := Lib.hid (HP3.out.keepB hbl4 Hgw.out);have HO4 := Lib.hid (HO3.out.upB hbl4 (Nat.le_refl _));have hlt1 : 1 ≤ q0.i := by rcases Hlt1.out with h | h;exact h;exact absurd H00.out h
      clear hown4 hgr4 HP3 HO3 hz3 hbl4;clear hfA HN HK HW HQ1
      go_loopw [3] (fun v wr => ∃ (l : List Mat) (q1 : PS) (f1 : Nat),OwnMt w.heap.size wr v l ∧ QA g pt cap L q1 wr ∧ QW L q1 ∧ Off g w wr ∧ l.length ≤ q1.i ∧ Hid ((contM L f1 q1 l).map (fun x => (x.1,x.2.need L [125])) = some (r,p'))) (fun _ wr => L.length - muP g wr)
      case atStart => exact ⟨[m1],_,f0,HOwn.out,HP4.out,HQ1'.out,HO4.out,by simpa using hlt1,HF0⟩
      case round =>
        obtain ⟨l,q1,f1,hown,hP,hQ1,ho,hlen1,HF⟩ := hrel;have Hown := Lib.hid hown;clear hown;have HQ1' := Lib.hid hQ1;clear hQ1;have Hlen := Lib.hid hlen1;clear hlen1;have Hmu := Lib.hid hP.tmu;have HS := Lib.hid (qSign g pt cap L q1 wr hP HQ1'.out [44] 44 [] rfl (by decide) (by decide) (by decide));have Hti := Lib.hid (PS.take_i L q1 [44]);have Ho := Lib.hid ho;clear ho hP;have hi1 := HQ1'.out.pw.at';have hl1 := HQ1'.out.pw.len;have hf := HF.out;unfold contM at hf;obtain ⟨c,hc⟩ : ∃ c,(q1.take L [44]).1 = c := ⟨_,rfl⟩;obtain ⟨q2,hq2⟩ : ∃ q2,(q1.take L [44]).2 = q2 := ⟨_,rfl⟩;rw [hc,hq2] at hf HS Hti;clear hc hq2 HF;cases c with
        | true =>
          rw [if_pos rfl] at hf;have Hf := Lib.hid hf;clear hf
          go_wp2_with fail
          refine HS.out.mono ?_;rintro e' w5 ⟨rfl,hP5,hQ2,ho5⟩;have HQ2 := Lib.hid hQ2;clear hQ2;have HK2 := Lib.hid (qMatcher g pt cap L q2 w5 hP5 HQ2.out);obtain ⟨-,hti2,hsm2⟩ := pOne_keep HQ2.out.pw;have Hti2 := Lib.hid hti2;have Hsm2 := Lib.hid hsm2;clear hti2 hsm2;obtain ⟨f2,hf2⟩ : ∃ f2,(contM L f2 (pOne L q2).2 (l ++ [(pOne L q2).1])).map (fun x => (x.1,x.2.need L [125])) = some (r,p') := by
            cases f1 with
            | zero => have := Hf.out;simp [matsF] at this
            | succ f1 =>
              have := Hf.out;rw [matsF_cont HQ2.out.e0] at this;exact ⟨f1,this⟩
          have HF2 := Lib.hid hf2;clear hf2 Hf;have HQ3 := Lib.hid (fun h0 => HQ2.out.one h0);obtain ⟨m2,hm2⟩ : ∃ m,(pOne L q2).1 = m := ⟨_,rfl⟩;obtain ⟨q3,hq3⟩ : ∃ q3,(pOne L q2).2 = q3 := ⟨_,rfl⟩;rw [hm2,hq3] at HF2 HK2;rw [hq3] at HQ3 Hti2;clear hm2 hq3;unfold Mat.cells at HK2;have Ho5 := Lib.hid (Ho.out.trans ho5);have Hown5 := Lib.hid (Hown.out.off ho5 Hgw.out);clear ho5 hP5
          by_cases h3 : q3.err = 0
          · have H3 := Lib.hid h3;clear h3
            go_wp2_with fail
            refine HK2.out.mono ?_;rintro e' w6 ⟨hok,-,ho6⟩;obtain ⟨rfl,hP6⟩ := hok H3.out;have HP6 := Lib.hid hP6;have Ho6 := Lib.hid (Ho5.out.trans ho6);have hz6 := (Ho5.out.trans ho6).size;have Hown6 := Lib.hid (Hown5.out.off ho6 Hgw.out);clear hok hP6 ho6;obtain ⟨A,cc,rfl⟩ := ownMt_slice Hown6.out;have hll : l.length ≤ 100000 := by have := Hlen.out;omega
            go_wp2_with (at_builtin;refine appL_mt _ rfl _ _ rfl w.heap.size (.slice A l.length cc) l.length (l.map Mat.cells).flatten rfl (ownsRow_keep Hown6.out ((Below.refl w6.heap.size w6).alloc (Nat.le_refl _) _)) _ 1 m2.cells rfl (one_mat (w := w6) (m := m2)) (ones_mat m2) (by omega) (by rw [World.size_alloc];omega) ?_;intro v7 w7 hown7 hgr7 _)
            have Hown7 : Hid (OwnMt w.heap.size w7 v7 (l ++ [m2])) := Lib.hid (ownMt_add hown7);have hbl7 : Below w.heap.size w6 w7 := below_app ((Below.refl w.heap.size w6).alloc hz6 _) (ownsRow_keep Hown6.out ((Below.refl w6.heap.size w6).alloc (Nat.le_refl _) _)) hgr7 (Nat.le_refl _) (by rw [World.size_alloc];omega);have HP7 := Lib.hid (HP6.out.keepB hbl7 Hgw.out);have HO7 := Lib.hid (Ho6.out.upB hbl7 (Nat.le_refl _));clear hown7 hgr7 hbl7;refine ⟨⟨l ++ [m2],q3,f2,Hown7.out,HP7.out,HQ3.out H3.out,HO7.out,?_,HF2⟩,?_⟩
            · have := Hti.out.2 (by first | rfl | trivial);have := Hti2.out;have := Hlen.out;simp only [List.length_append,List.length_cons,List.length_nil];omega
            · have := Hti.out.2 (by first | rfl | trivial);have := Hti2.out;rw [HP7.out.tmu,Hmu.out];have := (HQ3.out H3.out).pw.at';omega
          · have H3 := Lib.hid h3;clear h3
            go_wp2_with fail
            refine HK2.out.mono ?_;rintro e' w6 ⟨-,hbad,ho6⟩;obtain rfl := hbad H3.out;exact ⟨rfl,MatchQ.bad H3.out (contM_st HF2.out) (Ho5.out.trans ho6)⟩
        | false =>
          rw [if_neg (by simp)] at hf;simp only [Option.map_some,Option.some.injEq,Prod.mk.injEq] at hf;obtain ⟨hf1,hf2⟩ := hf;have Hf1 := Lib.hid hf1;clear hf1
          go_wp2_with fail
          refine HS.out.mono ?_;rintro e' w5 ⟨rfl,hP5,hQ2,ho5⟩;have HW5 := Lib.hid (qWant g pt cap L q2 w5 hP5 hQ2 [125] 125 [] rfl (by decide));rw [hf2] at HW5;have Ho5 := Lib.hid (Ho.out.trans ho5);have Hown5 := Lib.hid (Hown.out.off ho5 Hgw.out);clear ho5 hP5 hf2 hQ2 HS
          by_cases h3 : p'.err = 0
          · have H3 := Lib.hid h3;clear h3
            go_wp2_with fail
            refine HW5.out.mono ?_;rintro e' w6 ⟨hok,-,ho6⟩;obtain ⟨rfl,hP6⟩ := hok H3.out;have Ho6 := Lib.hid (Ho5.out.trans ho6);have hown6 := Hown5.out.off ho6 Hgw.out;rw [Hf1.out] at hown6;have Hown6 := Lib.hid hown6;clear hok ho6 hown6
            go_wp2_with fail
            go_ret;exact MatchQ.ok H3.out Hown6.out hP6 Ho6.out
          · have H3 := Lib.hid h3;clear h3
            go_wp2_with fail
            refine HW5.out.mono ?_;rintro e' w6 ⟨-,hbad,ho6⟩;obtain rfl := hbad H3.out;exact ⟨rfl,MatchQ.bad H3.out (.refl _) (Ho5.out.trans ho6)⟩
    · have H00 := Lib.hid h0;clear h0
      go_wp2_with fail
      refine (HK.out w2 hP2).mono ?_;rintro e' w6 ⟨-,hbad,ho6⟩;obtain rfl := hbad H00.out;exact ⟨rfl,MatchQ.bad H00.out (contM_st HF0.out) (ho2.trans ho6)⟩
  · obtain ⟨hn1,hn2⟩ := mats_none HQ.out hk HR.out
    have Hn1 := Lib.hid hn1;have Hn2 := Lib.hid hn2;clear hn1 hn2 HR;have HW2 := Lib.hid (fun (X : World) (hX : QA g pt cap L q X) => qWant g pt cap L q X hX HQ.out [125] 125 [] rfl (by decide));generalize q.need L [125] = q2 at HW2 Hn1 Hn2;have hkb : ((q.tok L).kind == 1) = false := by simpa using hk
    clear hk
    go_enter Tryz.func46,Tryz.ntmps46;(try simp only [List.append_eq,List.cons_append,List.nil_append])
    go_wp2_with fail
    refine HW.out.mono ?_;rintro e' w1 ⟨hok,-,ho1⟩;obtain ⟨rfl,hP1⟩ := hok H0.out;clear hok
    go_wp2_with fail
    refine (HN.out w1 hP1).mono ?_;rintro e' w2 ⟨rfl,hb2⟩;have hP2 := hP1.keep hb2;have ho2 := ho1.trans (Off.of hb2);clear hP1 ho1 hb2
    by_cases h3 : q2.err = 0
    · obtain ⟨rfl,rfl⟩ := Hn1.out h3
      have H3 := Lib.hid h3;clear h3
      go_wp2_with fail
      refine (HW2.out w2 hP2).mono ?_;rintro e' w6 ⟨hok,-,ho6⟩;obtain ⟨rfl,hP6⟩ := hok H3.out;have Ho6 := Lib.hid (ho2.trans ho6);clear hok ho6 ho2 hP2
      go_wp2_with fail
      go_ret;exact MatchQ.ok H3.out (World.ownsRow_nil _ _ _ _) hP6 Ho6.out
    · obtain ⟨a,b⟩ := Hn2.out h3
      have H3 := Lib.hid h3;clear h3;have Ha := Lib.hid a;have Hb := Lib.hid b;clear a b
      go_wp2_with fail
      refine (HW2.out w2 hP2).mono ?_;rintro e' w6 ⟨-,hbad,ho6⟩;obtain rfl := hbad H3.out;exact ⟨rfl,MatchQ.bad H3.out (fun _ => ⟨Ha.out.symm,Hb.out.symm⟩) (ho2.trans ho6)⟩
end Go.Proofs.YtpmbamfpmmdhcaaGreat
