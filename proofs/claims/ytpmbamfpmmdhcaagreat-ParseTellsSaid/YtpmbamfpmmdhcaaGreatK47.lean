/- The program's parser: all contracts of what calls itself; query. -/
import Derived.Test.YtpmbamfpmmdhcaaGreatK25
set_option maxRecDepth 100000
set_option maxHeartbeats 16000000
namespace Go.Proofs.YtpmbamfpmmdhcaaGreat
open Go.RowKit
set_option linter.unusedSimpArgs false
set_option linter.unusedVariables false
theorem atomRest_st {L : List Tok} {f : Nat} {p : PS} {ex : PS → Option (Ex × PS)} (hex : ∀ q e p',ex q = some (e,p') → St q p') {e : Ex} {p' : PS} (h : atomRest L f p ex = some (e,p')) : St p p' := by
  unfold atomRest at h
  split at h
  · simp only [Option.some.injEq,Prod.mk.injEq] at h
    obtain ⟨-,rfl⟩ := h;exact .fail _ _ _
  · split at h
    · exact (St.on _).trans (.window h)
    · cases hn : pNames L f (PS.need L { p with i := p.i + 1 } [98,121]) with
      | none => rw [hn] at h;cases h
      | some y =>
        obtain ⟨ns,q⟩ := y;rw [hn] at h;obtain ⟨⟨e0,q2⟩,h0,h1⟩ := Option.map_eq_some_iff.1 h;simp only [Prod.mk.injEq] at h1;obtain ⟨-,rfl⟩ := h1;exact ((((((St.on _)).trans (.need _ _ _)).trans (.names hn)).trans (.need _ _ _)).trans (hex _ _ _ h0)).trans (.need _ _ _)
theorem stpQ_of (g : Nat) (pt : Option Addr) (cap : Nat) (L : List Tok) (f : Nat) (hT : TermQ g pt cap L f) (hA : AtomQ g pt cap L f) : StpQ g pt cap L (f + 1) := by
  intro op x deep p e p' hr hw S cs w hSg h hx
  rw [pStep] at hr
  split at hr
  · rename_i hk
    simp only [Option.some.injEq,Prod.mk.injEq] at hr;obtain ⟨rfl,rfl⟩ := hr;exact qStep_num g pt cap L op x _ p hk.2 hw S cs w hSg h hx
  · rename_i hk
    have hk2 : (p.tok L).kind ≠ 2 := fun h => hk ⟨hw.e0,h⟩
    simp only at hr;cases hn : (if (p.take L [111,110]).1 then pNames L f (p.take L [111,110]).2 else some ([],(p.take L [111,110]).2)) with
    | none => rw [hn] at hr;cases hr
    | some y =>
      obtain ⟨ns,q⟩ := y;rw [hn] at hr;obtain ⟨⟨e0,q2⟩,h0,h1⟩ := Option.map_eq_some_iff.1 hr;simp only [Prod.mk.injEq] at h1;obtain ⟨rfl,rfl⟩ := h1;have hq : PW L q := by
        split at hn
        · exact (pNames_keep hn (hw.pw.take _)).1
        · simp only [Option.some.injEq,Prod.mk.injEq] at hn
          obtain ⟨-,rfl⟩ := hn;exact hw.pw.take _
      cases deep with
      | true =>
        have h0 : pTerm L f q = some (e0,q2) := by simpa using h0
        exact qStep_join g pt cap L f op x _ (.inl rfl) p hk2 ns q e0 q2 hn (fun he X hX => hT _ _ _ h0 ⟨hq,hw.tw,he⟩ X hX) ((sts L f).term _ _ _ h0) hw S cs w hSg h hx
      | false =>
        have h0 : pAtom L f q = some (e0,q2) := by simpa using h0
        exact qStep_join g pt cap L f op x _ (.inr rfl) p hk2 ns q e0 q2 hn (fun he X hX => hA _ _ _ h0 ⟨hq,hw.tw,he⟩ X hX) ((sts L f).atom _ _ _ h0) hw S cs w hSg h hx
theorem atomQ_of (g : Nat) (pt : Option Addr) (cap : Nat) (L : List Tok) (f : Nat) (hE : ExprQ g pt cap L f) : AtomQ g pt cap L (f + 1) := by
  intro p e p' hr hw w h
  rw [pAtom] at hr
  cases hc : (p.take L [40]).1 with
  | true =>
    rw [hc,if_pos rfl] at hr;exact qAtom_in g pt cap L f hE p e p' hc hr hw w h (fun e q h h0 => ⟨((keeps L f).expr _ _ _ h (hw.pw.take [40])).1,hw.tw,h0⟩)
  | false =>
    rw [hc,if_neg (by simp)] at hr;cases hT : p.isT L [40] with
    | true =>
      have ho : p.opn = 64 := by
        unfold PS.take at hc;rw [hT,if_pos rfl,if_pos rfl] at hc
        split at hc
        · assumption
        · cases hc
      have h2 : (p.take L [40]).2 = p.fail 3 (p.tok L).pos := by
        unfold PS.take;rw [hT,if_pos rfl,if_pos rfl,if_pos ho]
      rw [h2] at hr;exact qAtom_64 g pt cap L p e p' hT ho (atomRest_st (fun q e p' h => (sts L f).expr _ _ _ h) hr) hw w h
    | false =>
      rw [isT_take hT] at hr;unfold atomRest at hr
      split at hr
      · rename_i heq
        simp only [Option.some.injEq,Prod.mk.injEq] at hr;obtain ⟨rfl,rfl⟩ := hr;exact qAtom_bad g pt cap L p hT heq hw w h
      · rename_i k fn heq
        have hk1 : (p.tok L).kind = 1 := by
          cases Decidable.em ((p.tok L).kind = 1) with
          | inl h => exact h
          | inr h => rw [if_neg h] at heq;cases heq
        rw [if_pos hk1] at heq
        split at hr
        · rename_i hk
          subst hk;exact qAtom_win g pt cap L f fn p e p' hT hk1 heq hr hw w h
        · rename_i hk
          have hk2 : k = 2 := by
            unfold funcOf at heq
            revert heq
            repeat' split
            all_goals (intro heq;(simp only [Option.some.injEq,Prod.mk.injEq,reduceCtorEq] at heq) <;> omega)
          subst hk2;cases hn : pNames L f (PS.need L { p with i := p.i + 1 } [98,121]) with
          | none => rw [hn] at hr;cases hr
          | some y =>
            obtain ⟨ns,q3⟩ := y;rw [hn] at hr;obtain ⟨⟨e0,q5⟩,h0,h1⟩ := Option.map_eq_some_iff.1 hr;simp only [Prod.mk.injEq] at h1;obtain ⟨rfl,rfl⟩ := h1;have hw3 := (pNames_keep hn ((hw.pw.on (by omega)).need [98,121])).1;exact qAtom_grp g pt cap L f hE fn p ns q3 q5 e0 hT hk1 heq hn h0 (fun he => ⟨((keeps L f).expr _ _ _ h0 (hw3.need [40])).1,hw.tw,he⟩) hw w h
structure AllQs (g : Nat) (pt : Option Addr) (cap : Nat) (L : List Tok) (f : Nat) : Prop where
  atom : AtomQ g pt cap L f
  step : StpQ g pt cap L f
  term : TermQ g pt cap L f
  sum : SumQ g pt cap L f
  expr : ExprQ g pt cap L f
theorem allQs (g : Nat) (pt : Option Addr) (cap : Nat) (L : List Tok) : ∀ f,AllQs g pt cap L f := by
  intro f
  induction f using Nat.strongRecOn with
  | ind f ih =>
    cases f with
    | zero => exact ⟨fun p e p' h => by simp [pAtom] at h,fun op x d p e p' h => by simp [pStep] at h,fun p e p' h => by simp [pTerm] at h,fun p e p' h => by simp [pSum] at h,fun p e p' h => by simp [pExpr] at h⟩
    | succ f =>
      have h := ih f (by omega);have hS : ∀ f',f' < f → StpQ g pt cap L f' := fun f' hf => (ih f' (by omega)).step
      exact ⟨atomQ_of g pt cap L f h.expr,stpQ_of g pt cap L f h.term h.atom,qTermQ g pt cap L f h.atom hS,qSumQ g pt cap L f h.term hS,qExprC g pt cap L f h.sum⟩
def QryQ (g : Nat) (pt : Option Addr) (cap : Nat) (L : List Tok) (S : Nat → Prop) (w : World) (ev : Int) (e : Ex) (p' : PS) (e' : Ending) (w' : World) : Prop :=
  (p'.err = 0 → ∃ cs,e' = .returned (.agg (.int .i64 ev :: cs).toArray) ∧ ExS S w' e cs ∧ QA g pt cap L p' w') ∧ (p'.err ≠ 0 → e' = .panicked (flt p'.err p'.at')) ∧ Off g w w'
theorem QryQ.bad {g : Nat} {pt : Option Addr} {cap : Nat} {L : List Tok} {S : Nat → Prop} {w : World} {ev : Int} {e : Ex} {p' q : PS} {w' : World} (h0 : q.err ≠ 0) (hs : St q p') (ho : Off g w w') : QryQ g pt cap L S w ev e p' (.panicked (flt q.err q.at')) w' := by
  obtain ⟨a,b⟩ := hs h0
  refine ⟨fun hn => absurd (a.symm.trans hn) h0,fun _ => by rw [a,b],ho⟩
theorem nine_set {g : Nat} {pt : Option Addr} {cap : Nat} {L : List Tok} {p : PS} {w W : World} {a B t ta : Nat} {ZA : List Value} {S : Nat → Prop} {e : Ex} {v0 v1 v2 v3 v4 v5 v6 v7 v8 v9 : Value} (hP : QA g pt cap L p W) (hA : Blk W a ta ZA) (hX : ExS S W e [v1,v2,v3,v4,v5,v6,v7,v8,v9]) (hO : Off g w W) (hB : Blk W B t (v0 :: ZX)) (hg : g < B) (ha : a ≠ B) (hS : ¬ S B) (hw : w.heap.size ≤ B) :
    QA g pt cap L p (((((((((W.setCell ⟨B,1,none⟩ v1).setCell ⟨B,2,none⟩ v2).setCell ⟨B,3,none⟩ v3).setCell ⟨B,4,none⟩ v4).setCell ⟨B,5,none⟩ v5).setCell ⟨B,6,none⟩ v6).setCell ⟨B,7,none⟩ v7).setCell ⟨B,8,none⟩ v8).setCell ⟨B,9,none⟩ v9) ∧ Blk (((((((((W.setCell ⟨B,1,none⟩ v1).setCell ⟨B,2,none⟩ v2).setCell ⟨B,3,none⟩ v3).setCell ⟨B,4,none⟩ v4).setCell ⟨B,5,none⟩ v5).setCell ⟨B,6,none⟩ v6).setCell ⟨B,7,none⟩ v7).setCell ⟨B,8,none⟩ v8).setCell ⟨B,9,none⟩ v9) a ta ZA ∧ ExS S (((((((((W.setCell ⟨B,1,none⟩ v1).setCell ⟨B,2,none⟩ v2).setCell ⟨B,3,none⟩ v3).setCell ⟨B,4,none⟩ v4).setCell ⟨B,5,none⟩ v5).setCell ⟨B,6,none⟩ v6).setCell ⟨B,7,none⟩ v7).setCell ⟨B,8,none⟩ v8).setCell ⟨B,9,none⟩ v9) e [v1,v2,v3,v4,v5,v6,v7,v8,v9] ∧ Off g w (((((((((W.setCell ⟨B,1,none⟩ v1).setCell ⟨B,2,none⟩ v2).setCell ⟨B,3,none⟩ v3).setCell ⟨B,4,none⟩ v4).setCell ⟨B,5,none⟩ v5).setCell ⟨B,6,none⟩ v6).setCell ⟨B,7,none⟩ v7).setCell ⟨B,8,none⟩ v8).setCell ⟨B,9,none⟩ v9) ∧ Blk (((((((((W.setCell ⟨B,1,none⟩ v1).setCell ⟨B,2,none⟩ v2).setCell ⟨B,3,none⟩ v3).setCell ⟨B,4,none⟩ v4).setCell ⟨B,5,none⟩ v5).setCell ⟨B,6,none⟩ v6).setCell ⟨B,7,none⟩ v7).setCell ⟨B,8,none⟩ v8).setCell ⟨B,9,none⟩ v9) B t [v0,v1,v2,v3,v4,v5,v6,v7,v8,v9] := by
  refine ⟨(((((((((hP.setFar hg 1 v1).setFar hg 2 v2).setFar hg 3 v3).setFar hg 4 v4).setFar hg 5 v5).setFar hg 6 v6).setFar hg 7 v7).setFar hg 8 v8).setFar hg 9 v9),?_,(((((((((hX.set hS 1 v1).set hS 2 v2).set hS 3 v3).set hS 4 v4).set hS 5 v5).set hS 6 v6).set hS 7 v7).set hS 8 v8).set hS 9 v9),(((((((((hO.setNew hw 1 v1).setNew hw 2 v2).setNew hw 3 v3).setNew hw 4 v4).setNew hw 5 v5).setNew hw 6 v6).setNew hw 7 v7).setNew hw 8 v8).setNew hw 9 v9),(((((((((hB.set_  1 v1).set_  2 v2).set_  3 v3).set_  4 v4).set_  5 v5).set_  6 v6).set_  7 v7).set_  8 v8).set_  9 v9)⟩
  exact ((((((((hA.far (p := ⟨B,1,none⟩) ha v1).far (p := ⟨B,2,none⟩) ha v2).far (p := ⟨B,3,none⟩) ha v3).far (p := ⟨B,4,none⟩) ha v4).far (p := ⟨B,5,none⟩) ha v5).far (p := ⟨B,6,none⟩) ha v6).far (p := ⟨B,7,none⟩) ha v7).far (p := ⟨B,8,none⟩) ha v8).far (p := ⟨B,9,none⟩) ha v9
theorem qQuery (g : Nat) (pt : Option Addr) (cap : Nat) (L : List Tok) (f : Nat) (p : PS) (e : Ex) (p' : PS) (hr : pExpr L f (((p.need L [101,118,101,114,121]).token L 2).2.need L [58]) = some (e,p')) (hw : QW L p) (w : World) (h : QA g pt cap L p w) :
    Calls Tryz.prog 37 #[.pointer (some ⟨g,0,none⟩)] w (QryQ g pt cap L (fun k => w.heap.size ≤ k) w ((p.need L [101,118,101,114,121]).token L 2).1.num e p') := by
  have hg := h.1.lt
  have Hgw := Lib.hid hg
  have HN1 := Lib.hid (fun (X : World) (hX : QA g pt cap L p X) => qWord g pt cap L p X hX hw [101,118,101,114,121] 101 [118,101,114,121] rfl (by decide))
  have HQ1 := Lib.hid (hw.need [101,118,101,114,121])
  obtain ⟨q1,hq1⟩ : ∃ q1,p.need L [101,118,101,114,121] = q1 := ⟨_,rfl⟩
  rw [hq1] at HN1 HQ1 hr
  rw [hq1]
  have HK := Lib.hid (fun (hq : QW L q1) (X : World) (hX : QA g pt cap L q1 X) => qAny g pt cap L q1 X hX hq 2)
  have HQ2 := Lib.hid (fun (hq : QW L q1) => hq.token 2 (by decide))
  have s12 := St.token L q1 2
  obtain ⟨tk,htk⟩ : ∃ tk,(q1.token L 2).1 = tk := ⟨_,rfl⟩
  obtain ⟨q2,hq2⟩ : ∃ q2,(q1.token L 2).2 = q2 := ⟨_,rfl⟩
  rw [htk,hq2] at HK
  rw [hq2] at HQ2 hr s12
  rw [htk]
  unfold Tok.val at HK
  have hft := fun wx => fieldTokC tk.kind tk.num tk.pos ⟨tk.text.toArray⟩ wx
  have HN2 := Lib.hid (fun (hq : QW L q2) (X : World) (hX : QA g pt cap L q2 X) => qWant g pt cap L q2 X hX hq [58] 58 [] rfl (by decide))
  have HQ3 := Lib.hid (fun (hq : QW L q2) => hq.need [58])
  have s23 := St.need L q2 [58]
  obtain ⟨q3,hq3⟩ : ∃ q3,q2.need L [58] = q3 := ⟨_,rfl⟩
  rw [hq3] at HN2 HQ3 hr s23
  have HE := Lib.hid (fun (hq : QW L q3) (X : World) (hX : QA g pt cap L q3 X) => (allQs g pt cap L f).expr _ _ _ hr hq X hX)
  have S3 := Lib.hid ((sts L f).expr _ _ _ hr)
  have S2 := Lib.hid (s23.trans S3.out)
  have S1 := Lib.hid (s12.trans S2.out)
  clear hq1 htk hq2 hq3 hr hw s12 s23
  go_enter Tryz.func37,Tryz.ntmps37;(try simp only [List.append_eq,List.cons_append,List.nil_append])
  go_wp2_with fail
  have hA := Blk.new w (.int .i64 0 :: ZX) 42
  refine (HN1.out _ (qa_alloc h _)).mono ?_
  rintro e' w1 ⟨hok,hbad,ho1⟩
  have hA1 := ho1.blkX hA (Nat.ne_of_gt hg)
  have ho1 := (off_alloc (Off.refl g w) (.cells (.int .i64 0 :: ZX).toArray 42)).trans ho1
  by_cases hx : q1.err ≠ 0
  · obtain rfl := hbad hx
    exact ⟨rfl,QryQ.bad hx S1.out ho1⟩
  have Q1 := Lib.hid (HQ1.out (Decidable.not_not.1 hx))
  obtain ⟨rfl,hP1⟩ := hok Q1.out.e0
  clear hok hbad hx hA
  go_wp2_with fail
  refine (HK.out Q1.out _ hP1).mono ?_
  rintro e' w2 ⟨hok,hbad,ho2⟩
  have hA2 := ho2.blkX hA1 (Nat.ne_of_gt hg)
  have ho2 := ho1.trans ho2
  by_cases hx : q2.err ≠ 0
  · obtain rfl := hbad hx
    exact ⟨rfl,QryQ.bad hx S2.out ho2⟩
  have Q2 := Lib.hid (HQ2.out Q1.out (Decidable.not_not.1 hx))
  obtain ⟨rfl,hP2⟩ := hok Q2.out.e0
  clear hok hbad hx hA1 ho1 hP1
  go_wp2_with fail
  have hB := Blk.new w2 (.int .i64 tk.num :: ZX) 42
  have hbl : Below w2.heap.size w2 (w2.alloc (.cells (.int .i64 tk.num :: ZX).toArray 42)) := (Below.refl _ _).alloc (Nat.le_refl _) _
  have hPx := hP2.keep hbl
  have hAx := hA2.keep hbl
  have hox := ho2.trans (Off.of (g := g) hbl)
  have hlo := hA2.lt
  have hgs := hP2.1.lt
  generalize w2.alloc (.cells (.int .i64 tk.num :: ZX).toArray 42) = X at hB hbl hPx hAx hox
  obtain ⟨B,hBe⟩ : ∃ B,w2.heap.size = B := ⟨_,rfl⟩
  rw [hBe] at hB hlo hgs ⊢
  clear hBe hP2 hA2 ho2 hbl
  refine (HN2.out Q2.out _ hPx).mono ?_
  rintro e' w3 ⟨hok,hbad,ho3⟩
  have hA3 := ho3.blkX hAx (Nat.ne_of_gt hg)
  have hB3 := ho3.blkX hB (Nat.ne_of_gt hgs)
  have ho3 := hox.trans ho3
  by_cases hx : q3.err ≠ 0
  · obtain rfl := hbad hx
    exact ⟨rfl,QryQ.bad hx S3.out ho3⟩
  have Q3 := Lib.hid (HQ3.out Q2.out (Decidable.not_not.1 hx))
  obtain ⟨rfl,hP3⟩ := hok Q3.out.e0
  have hlt3 := hB3.lt
  clear hok hbad hx hAx hB hox hPx
  go_wp2_with fail
  refine (HE.out Q3.out _ hP3).mono ?_
  rintro e' w4 ⟨hok,hbad,ho4⟩
  have HA4 := Lib.hid (ho4.blkX hA3 (Nat.ne_of_gt hg))
  have hB4 := ho4.blkX hB3 (Nat.ne_of_gt hgs)
  have HO4 := Lib.hid (ho3.trans ho4)
  by_cases hx : p'.err ≠ 0
  · obtain rfl := hbad hx
    exact ⟨rfl,QryQ.bad hx (.refl _) HO4.out⟩
  have H4 : Hid (p'.err = 0) := Lib.hid (Decidable.not_not.1 hx)
  obtain ⟨cs,rfl,hx4,hP4⟩ := hok H4.out
  obtain ⟨pm,cm,pn,cn,pk,ck,rfl,-⟩ := IsEx.cellsE hx4
  have HX4 := Lib.hid hx4;have HP4 := Lib.hid hP4
  have hlt4 := hB4.lt
  have HB4 := Lib.hid hB4
  have d0 := hB4.cell 0 _ rfl;have d1 := hB4.cell 1 _ rfl;have d2 := hB4.cell 2 _ rfl;have d3 := hB4.cell 3 _ rfl;have d4 := hB4.cell 4 _ rfl;have d5 := hB4.cell 5 _ rfl;have d6 := hB4.cell 6 _ rfl;have d7 := hB4.cell 7 _ rfl;have d8 := hB4.cell 8 _ rfl;have d9 := hB4.cell 9 _ rfl
  have s1 := hB4.free 1;have s2 := hB4.free 2;have s3 := hB4.free 3;have s4 := hB4.free 4;have s5 := hB4.free 5;have s6 := hB4.free 6;have s7 := hB4.free 7;have s8 := hB4.free 8;have s9 := hB4.free 9
  clear hok hbad hx hA3 hB3 ho3 hP3 ho4 hP4 hx4 hB4
  go_upto_region 5 with fail
  have hN := nine_set HP4.out HA4.out HX4.out HO4.out HB4.out hgs (Nat.ne_of_lt hlo) (show ¬ w3.heap.size ≤ B by omega) (Nat.le_of_lt hlo)
  clear HP4 HA4 HX4 HO4 HB4 d0 d1 d2 d3 d4 d5 d6 d7 d8 d9 s1 s2 s3 s4 s5 s6 s7 s8 s9
  generalize (((((((((w4.setCell ⟨B,1,none⟩ (.int .i64 e.kind)).setCell ⟨B,2,none⟩ (.int .i64 e.fn)).setCell ⟨B,3,none⟩ (.int .i64 e.op)).setCell ⟨B,4,none⟩ (.int .i64 e.num)).setCell ⟨B,5,none⟩ (.string e.metric)).setCell ⟨B,6,none⟩ (.slice pm e.mats.length cm)).setCell ⟨B,7,none⟩ (.int .i64 e.span)).setCell ⟨B,8,none⟩ (.slice pn e.names.length cn)).setCell ⟨B,9,none⟩ (.slice pk e.kids.length ck)) = w5 at hN
  obtain ⟨hP5,hA5,hX5,hO5,hB5⟩ := hN
  have HP5 := Lib.hid hP5;have HA5 := Lib.hid hA5;have HX5 := Lib.hid hX5;have HO5 := Lib.hid hO5
  have hlt5 := hB5.lt
  have d0 := hB5.cell 0 _ rfl;have d1 := hB5.cell 1 _ rfl;have d2 := hB5.cell 2 _ rfl;have d3 := hB5.cell 3 _ rfl;have d4 := hB5.cell 4 _ rfl;have d5 := hB5.cell 5 _ rfl;have d6 := hB5.cell 6 _ rfl;have d7 := hB5.cell 7 _ rfl;have d8 := hB5.cell 8 _ rfl;have d9 := hB5.cell 9 _ rfl
  clear hP5 hA5 hX5 hO5 hB5
  go_wp2_with (refine wpList_store_row rfl 42 _ _ rfl w.heap.size #[.int .i64 tk.num,.int .i64 e.kind,.int .i64 e.fn,.int .i64 e.op,.int .i64 e.num,.string e.metric,.slice pm e.mats.length cm,.int .i64 e.span,.slice pn e.names.length cn,.slice pk e.kids.length ck] rfl rfl 42 _ HA5.out (by kernel_rfl) rfl (by kernel_rfl) ?_)
  exact bodyPost_agg (d := _) rfl rfl (setRow_at HA5.out _) Tryz.underlying42 rfl (by kernel_rfl) rfl ⟨fun _ => ⟨_,rfl,HX5.out.go (by rw [setRow_size];exact Nat.le_refl _) (fun k _ h => by have h : w3.heap.size ≤ k := h;show w.heap.size ≤ k;omega) (fun k _ h => setRow_far _ _ _ (by have h : w3.heap.size ≤ k := h;omega)),HP5.out.row hg _⟩,fun hn => absurd H4.out hn,HO5.out.rowNew (Nat.le_refl _) _⟩
end Go.Proofs.YtpmbamfpmmdhcaaGreat
