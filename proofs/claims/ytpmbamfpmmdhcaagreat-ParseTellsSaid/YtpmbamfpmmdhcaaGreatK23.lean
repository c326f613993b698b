/- The program's parser: an atom: a group. -/
import Derived.Test.YtpmbamfpmmdhcaaGreatK44
set_option maxRecDepth 100000
set_option maxHeartbeats 16000000
namespace Go.Proofs.YtpmbamfpmmdhcaaGreat
open Go.RowKit
set_option linter.unusedSimpArgs false
set_option linter.unusedVariables false
theorem qAtom_grp (g : Nat) (pt : Option Addr) (cap : Nat) (L : List Tok) (f : Nat) (hE : ExprQ g pt cap L f) (fn : Int) (p : PS) (ns : List (List UInt8)) (q3 q5 : PS) (k : Ex) (hT : p.isT L [40] = false) (hk : (p.tok L).kind = 1) (hfn : funcOf (p.tok L).text = some (2,fn))
    (hns : pNames L f (PS.need L { p with i := p.i + 1 } [98,121]) = some (ns,q3)) (hx5 : pExpr L f (q3.need L [40]) = some (k,q5)) (hwe : q5.err = 0 → QW L q5) (hw : QW L p) (w : World) (h : QA g pt cap L p w) :
    Calls Tryz.prog 107 #[.pointer (some ⟨g,0,none⟩)] w (ExQ g pt cap L (fun k => w.heap.size ≤ k) w (.mk 2 fn 0 0 ⟨#[]⟩ [] 0 (ns.map baOf) [k]) (q5.need L [41])) := by
  have hi := hw.pw.at'
  have hlen := hw.pw.len
  have hg := h.1.lt
  have Hgw := Lib.hid hg
  have hI := fun (X : World) (hX : QA g pt cap L p X) => qIs g pt cap L p X hX hi hlen 4 [40]
  rw [← isT_sign hw (s := [40]) (c := 40) (r := []) rfl (by decide),hT] at hI
  have HI := Lib.hid hI;clear hI
  have HNow := Lib.hid (fun (X : World) (hX : QA g pt cap L p X) => qNow g pt cap L p X hX hi hlen)
  unfold Tok.val at HNow
  have HFn := Lib.hid (fun (X : World) => qFunc ⟨(p.tok L).text.toArray⟩ X)
  have hfA := fun wx => fieldTokA (p.tok L).kind (p.tok L).num (p.tok L).pos ⟨(p.tok L).text.toArray⟩ wx
  have hfB := fun wx => fieldTokB (p.tok L).kind (p.tok L).num (p.tok L).pos ⟨(p.tok L).text.toArray⟩ wx
  have hfv2 : funcV (funcOf (⟨(p.tok L).text.toArray⟩ : ByteArray).data.toList) = .tuple #[.int .i64 2,.int .i64 fn,.bool true] := by
    show funcV (funcOf (p.tok L).text) = _
    rw [hfn];rfl
  rw [hfv2] at HFn
  clear hfv2 hfn
  have hw1 : QW L { p with i := p.i + 1 } := ⟨hw.pw.on (by omega),hw.tw,hw.e0⟩
  obtain ⟨q1,hq1⟩ : ∃ q1,q1 = ({ p with i := p.i + 1 } : PS) := ⟨_,rfl⟩
  rw [← hq1] at hns hw1
  have HN1 := Lib.hid (fun (X : World) (hX : QA g pt cap L q1 X) => qWord g pt cap L q1 X hX hw1 [98,121] 98 [121] rfl (by decide))
  have HQ2 := Lib.hid (hw1.need [98,121])
  obtain ⟨q2,hq2⟩ : ∃ q2,q1.need L [98,121] = q2 := ⟨_,rfl⟩
  rw [hq2] at HN1 HQ2 hns
  have HNm := Lib.hid (fun (h0 : q2.err = 0) (X : World) (hX : QA g pt cap L q2 X) => qNames g pt cap L f q2 ns q3 hns X hX (HQ2.out h0))
  have Hnx := Lib.hid (fun (h0 : q2.err = 0) => (pNames_keep hns (HQ2.out h0).pw).2.1)
  have HQ3 := Lib.hid (fun (h0 : q2.err = 0) (h1 : q3.err = 0) => (⟨(pNames_keep hns (HQ2.out h0).pw).1,(HQ2.out h0).tw,h1⟩ : QW L q3))
  have s23 := St.names hns
  have HN2 := Lib.hid (fun (hq : QW L q3) (X : World) (hX : QA g pt cap L q3 X) => qWant g pt cap L q3 X hX hq [40] 40 [] rfl (by decide))
  have HQ4 := Lib.hid (fun (hq : QW L q3) => hq.need [40])
  have s34 := St.need L q3 [40]
  obtain ⟨q4,hq4⟩ : ∃ q4,q3.need L [40] = q4 := ⟨_,rfl⟩
  rw [hq4] at HN2 HQ4 hx5 s34
  have HE := Lib.hid (fun (hq : QW L q4) (X : World) (hX : QA g pt cap L q4 X) => hE _ _ _ hx5 hq X hX)
  have s45 := (sts L f).expr _ _ _ hx5
  have HN3 := Lib.hid (fun (hq : QW L q5) (X : World) (hX : QA g pt cap L q5 X) => qWant g pt cap L q5 X hX hq [41] 41 [] rfl (by decide))
  have Hwe := Lib.hid hwe
  have s56 := St.need L q5 [41]
  obtain ⟨p',hp⟩ : ∃ p',q5.need L [41] = p' := ⟨_,rfl⟩
  rw [hp] at HN3 s56
  rw [hp]
  have S5 := Lib.hid s56
  have S4 := Lib.hid (s45.trans S5.out)
  have S3 := Lib.hid (s34.trans S4.out)
  have S2 := Lib.hid (s23.trans S3.out)
  have hkb : ((p.tok L).kind != 1) = false := by simp [hk]
  have Hq1 := Lib.hid hq1
  clear hq2 hq4 hns hx5 hwe hw1 hw hp s23 s34 s45 s56 hk hT hq1 hE
  generalize p.tok L = t at HNow HFn hfA hfB hkb
  go_enter Tryz.func107,Tryz.ntmps107;(try simp only [List.append_eq,List.cons_append,List.nil_append])
  go_wp2_with fail
  have hA := Blk.new w ZX 28
  refine (HI.out _ (qa_alloc h _)).mono ?_
  rintro e' wi ⟨rfl,hbi⟩
  have hPi := (qa_alloc h (.cells ZX.toArray 28)).keep hbi
  have hAi := hA.keep hbi
  have hoi := (off_alloc (Off.refl g w) (.cells ZX.toArray 28)).trans (Off.of hbi)
  clear hA hbi
  go_wp2_with fail
  refine (HNow.out _ hPi).mono ?_
  rintro e' wj ⟨rfl,hbj⟩
  have hPj := hPi.keep hbj
  have hAj := hAi.keep hbj
  have hoj := hoi.trans (Off.of hbj)
  clear hPi hAi hoi hbj
  go_wp2_with fail
  refine (HFn.out _).mono ?_
  rintro e' wk ⟨rfl,rfl⟩
  go_wp2_with fail
  refine (HNow.out _ hPj).mono ?_
  rintro e' w2 ⟨rfl,hb2⟩
  have HP2 := Lib.hid (hPj.keep hb2)
  have HA2 := Lib.hid (hAj.keep hb2)
  have HO2 := Lib.hid (hoj.trans (Off.of hb2))
  clear hPj hAj hoj hb2
  have hg2 := HP2.out.1.lt
  have hB2 := HP2.out.1
  unfold QC at hB2
  have c0 := hB2.cell 0 _ rfl;have c1 := hB2.cell 1 _ rfl;have c2 := hB2.cell 2 _ rfl
  have f1 := hB2.free 1
  clear hB2
  go_wp2_with fail
  have hPs : QA g pt cap L q1 (w2.setCell ⟨g,1,none⟩ (.int .i64 ((p.i : Int) + 1))) := by rw [Hq1.out];exact HP2.out.upd (Off.set w2 1 _) (HP2.out.1.set_ 1 _)
  have hos := HO2.out.trans (Off.set (g := g) w2 1 (.int .i64 ((p.i : Int) + 1)))
  have hAs := HA2.out.far (p := ⟨g,1,none⟩) (Nat.ne_of_gt Hgw.out) (.int .i64 ((p.i : Int) + 1))
  clear HP2 HA2 HO2 c0 c1 c2 f1 hg2
  generalize w2.setCell ⟨g,1,none⟩ (.int .i64 ((p.i : Int) + 1)) = X1 at hPs hos hAs
  refine (HN1.out _ hPs).mono ?_
  rintro e' w3 ⟨hok,hbad,ho3⟩
  have hA3 := ho3.blkX hAs (Nat.ne_of_gt Hgw.out)
  have ho3 := hos.trans ho3
  by_cases hx : q2.err ≠ 0
  · obtain rfl := hbad hx
    exact ⟨rfl,ExQ.bad hx S2.out (ho3)⟩
  have hx0 : q2.err = 0 := Decidable.not_not.1 hx
  have E2 := Lib.hid hx0
  obtain ⟨rfl,hP3⟩ := hok E2.out
  clear hok hbad hx hx0 hPs hos hAs
  go_wp2_with fail
  refine (HNm.out E2.out _ hP3).mono ?_
  rintro e' w4 ⟨hok,hbad,ho4⟩
  have hA4 := ho4.blkX hA3 (Nat.ne_of_gt Hgw.out)
  have hsz34 := ho4.size
  have hlt3 := hA3.lt
  have ho4 := ho3.trans ho4
  by_cases hx : q3.err ≠ 0
  · obtain rfl := hbad hx
    exact ⟨rfl,ExQ.bad hx S3.out (ho4)⟩
  have hx0 : q3.err = 0 := Decidable.not_not.1 hx
  have E3 := Lib.hid hx0
  obtain ⟨v,rfl,hown,hP4⟩ := hok E3.out
  obtain ⟨A,mc,rfl⟩ := ownN_slice hown
  have hms4 := hown.strsS (Hnx.out E2.out)
  clear hok hbad hx hx0 hP3 hA3 ho3 hown
  go_wp2_with fail
  have hB5 := Blk.new w4 [.int .i64 2,.int .i64 fn,.int .i64 0,.int .i64 0,.string ⟨#[]⟩,.slice none 0 0,.int .i64 0,.slice A ns.length mc,.slice none 0 0] 28
  have hbl : Below w4.heap.size w4 (w4.alloc (.cells ([.int .i64 2,.int .i64 fn,.int .i64 0,.int .i64 0,.string ⟨#[]⟩,.slice none 0 0,.int .i64 0,.slice A ns.length mc,.slice none 0 0] : List Value).toArray 28)) := (Below.refl _ _).alloc (Nat.le_refl _) _
  have hP5 := hP4.keep hbl
  have hA5 := hA4.keep hbl
  have hms5 := (hms4.go (S' := fun k => w3.heap.size ≤ k ∧ k < w4.heap.size) (Nat.le_refl _) (fun b hb h => ⟨h,hb⟩) (fun _ _ _ => rfl)).below hbl
  have ho5 := ho4.trans (Off.of (g := g) hbl)
  have hlo := hA4.lt
  have hgs := hP4.1.lt
  obtain ⟨B8,hB8e⟩ : ∃ B,w4.heap.size = B := ⟨_,rfl⟩
  have hz5 : (w4.alloc (.cells ([.int .i64 2,.int .i64 fn,.int .i64 0,.int .i64 0,.string ⟨#[]⟩,.slice none 0 0,.int .i64 0,.slice A ns.length mc,.slice none 0 0] : List Value).toArray 28)).heap.size = B8 + 1 := by rw [World.size_alloc,hB8e]
  generalize w4.alloc (.cells ([.int .i64 2,.int .i64 fn,.int .i64 0,.int .i64 0,.string ⟨#[]⟩,.slice none 0 0,.int .i64 0,.slice A ns.length mc,.slice none 0 0] : List Value).toArray 28) = X5 at hB5 hbl hP5 hA5 ho5 hms5 hz5
  rw [hB8e] at hB5 hlo hgs hms5 hsz34 ⊢
  clear hB8e hP4 hA4 ho4 hbl hms4
  refine (HN2.out (HQ3.out E2.out E3.out) _ hP5).mono ?_
  rintro e' w6 ⟨hok,hbad,ho6⟩
  have hB6 := ho6.blkX hB5 (Nat.ne_of_gt hgs)
  have hA6 := ho6.blkX hA5 (Nat.ne_of_gt Hgw.out)
  have hms6 := hms5.off ho6 (show ¬ (w3.heap.size ≤ g ∧ g < B8) by have := Hgw.out;omega)
  have hsz6 := ho6.size
  have ho6 := ho5.trans ho6
  by_cases hx : q4.err ≠ 0
  · obtain rfl := hbad hx
    exact ⟨rfl,ExQ.bad hx S4.out (ho6)⟩
  have hx0 : q4.err = 0 := Decidable.not_not.1 hx
  have Q4 := Lib.hid (HQ4.out (HQ3.out E2.out E3.out) hx0)
  obtain ⟨rfl,hP6⟩ := hok hx0
  clear hok hbad hx hx0 hP5 hA5 ho5 hB5 hms5
  go_wp2_with fail
  refine (HE.out Q4.out _ hP6).mono ?_
  rintro e' w7 ⟨hok,hbad,ho7⟩
  have hB7 := ho7.blkX hB6 (Nat.ne_of_gt hgs)
  have hA7 := ho7.blkX hA6 (Nat.ne_of_gt Hgw.out)
  have hms7 := hms6.off ho7 (show ¬ (w3.heap.size ≤ g ∧ g < B8) by have := Hgw.out;omega)
  have hsz7 := ho7.size
  have ho7 := ho6.trans ho7
  by_cases hx : q5.err ≠ 0
  · obtain rfl := hbad hx
    exact ⟨rfl,ExQ.bad hx S5.out (ho7)⟩
  have hx0 : q5.err = 0 := Decidable.not_not.1 hx
  have Q5 := Lib.hid (Hwe.out hx0)
  obtain ⟨cs,rfl,hx7,hP7⟩ := hok hx0
  obtain ⟨pm,cm,pn,cn,pk,ck,rfl,-⟩ := IsEx.cellsE hx7
  clear hok hbad hx hx0 hP6 hA6 ho6 hB6 hms6
  have hbl : Below w7.heap.size w7 (w7.alloc (.cells ([.int .i64 k.kind,.int .i64 k.fn,.int .i64 k.op,.int .i64 k.num,.string k.metric,.slice pm k.mats.length cm,.int .i64 k.span,.slice pn k.names.length cn,.slice pk k.kids.length ck] : List Value).toArray 28)) := (Below.refl _ _).alloc (Nat.le_refl _) _
  have hKb := Blk.new w7 [.int .i64 k.kind,.int .i64 k.fn,.int .i64 k.op,.int .i64 k.num,.string k.metric,.slice pm k.mats.length cm,.int .i64 k.span,.slice pn k.names.length cn,.slice pk k.kids.length ck] 28
  have hBx := hB7.keep hbl
  have d8 := hBx.cell 8 _ rfl
  have f8b := hBx.free 8
  have HBx := Lib.hid hBx
  have HAx := Lib.hid (hA7.keep hbl)
  have HMSx := Lib.hid (hms7.below hbl)
  have HXx := Lib.hid (hx7.below hbl)
  have HPx := Lib.hid (hP7.keep hbl)
  have HOx := Lib.hid (ho7.trans (Off.of (g := g) hbl))
  have HKb := Lib.hid hKb
  have hlt7 := hB7.lt
  have hd8 := HBx.out.lt
  clear hB7 hA7 hms7 hx7 hP7 ho7 hBx hKb hbl
  generalize hXe : w7.alloc (.cells ([.int .i64 k.kind,.int .i64 k.fn,.int .i64 k.op,.int .i64 k.num,.string k.metric,.slice pm k.mats.length cm,.int .i64 k.span,.slice pn k.names.length cn,.slice pk k.kids.length ck] : List Value).toArray 28) = X at d8 f8b HBx HAx HMSx HXx HPx HOx HKb hd8
  go_wp2_with fail
  refine (HN3.out Q5.out _ (HPx.out.setFar hgs 8 _)).mono ?_
  rintro e' w9 ⟨hok,hbad,ho9⟩
  have hB9 := ho9.blkX (HBx.out.set_ 8 (.slice (some ⟨w7.heap.size,0,none⟩) 1 1)) (Nat.ne_of_gt hgs)
  have HA9 := Lib.hid (ho9.blkX (HAx.out.far (p := ⟨B8,8,none⟩) (Nat.ne_of_lt hlo) (.slice (some ⟨w7.heap.size,0,none⟩) 1 1)) (Nat.ne_of_gt Hgw.out))
  have HMS9 := Lib.hid ((HMSx.out.set (k := B8) (show ¬ (w3.heap.size ≤ B8 ∧ B8 < B8) by omega) 8 (.slice (some ⟨w7.heap.size,0,none⟩) 1 1)).off ho9 (show ¬ (w3.heap.size ≤ g ∧ g < B8) by have := Hgw.out;omega))
  have HX9 := Lib.hid ((HXx.out.set (k := B8) (show ¬ w6.heap.size ≤ B8 by omega) 8 (.slice (some ⟨w7.heap.size,0,none⟩) 1 1)).off ho9 (show ¬ w6.heap.size ≤ g by omega))
  have HK9 := Lib.hid (ho9.blkX (HKb.out.far (p := ⟨B8,8,none⟩) (show w7.heap.size ≠ B8 by omega) (.slice (some ⟨w7.heap.size,0,none⟩) 1 1)) (show w7.heap.size ≠ g by omega))
  have HO9 := Lib.hid ((HOx.out.setNew (Nat.le_of_lt hlo) 8 (.slice (some ⟨w7.heap.size,0,none⟩) 1 1)).trans ho9)
  by_cases hx : p'.err ≠ 0
  · obtain rfl := hbad hx
    exact ⟨rfl,ExQ.bad hx (.refl _) HO9.out⟩
  have H8 : Hid (p'.err = 0) := Lib.hid (Decidable.not_not.1 hx)
  obtain ⟨rfl,hP9⟩ := hok H8.out
  have HP9 := Lib.hid hP9
  have hlt9 := hB9.lt
  have e0 := hB9.cell 0 _ rfl;have e1 := hB9.cell 1 _ rfl;have e2 := hB9.cell 2 _ rfl;have e3 := hB9.cell 3 _ rfl;have e4 := hB9.cell 4 _ rfl;have e5 := hB9.cell 5 _ rfl;have e6 := hB9.cell 6 _ rfl;have e7 := hB9.cell 7 _ rfl;have e8 := hB9.cell 8 _ rfl
  clear hok hbad hx d8 f8b HBx HAx HMSx HXx HPx HOx HKb hP9 ho9 hB9
  go_wp2_with (refine wpList_store_row rfl 28 _ _ rfl w.heap.size #[.int .i64 2,.int .i64 fn,.int .i64 0,.int .i64 0,.string ⟨#[]⟩,.slice none 0 0,.int .i64 0,.slice A ns.length mc,.slice (some ⟨w7.heap.size,0,none⟩) 1 1] rfl rfl 28 _ HA9.out (by kernel_rfl) rfl (by kernel_rfl) ?_)
  have hww : w.heap.size ≤ w3.heap.size := by omega
  exact bodyPost_agg (d := _) rfl rfl (setRow_at HA9.out _) Tryz.underlying28 rfl (by kernel_rfl) rfl (exQ_close (S := fun k => w3.heap.size ≤ k) H8.out (exS_node (by decide) (noMatsS _ _) (HMS9.out.go (Nat.le_refl _) (fun k _ h => h.1) (fun _ _ _ => rfl)) (exsS1 HK9.out (show w3.heap.size ≤ w7.heap.size by omega) (HX9.out.go (Nat.le_refl _) (fun k _ h => by have h : w6.heap.size ≤ k := h;show w3.heap.size ≤ k;omega) (fun _ _ _ => rfl)))) HP9.out HO9.out (Nat.le_refl _) Hgw.out (show ¬ w3.heap.size ≤ w.heap.size by omega) (fun k _ h => by have h : w3.heap.size ≤ k := h;show w.heap.size ≤ k;omega))
end Go.Proofs.YtpmbamfpmmdhcaaGreat
