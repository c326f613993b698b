/- The program's parser: an atom: none there; a window. -/
import Derived.Test.YtpmbamfpmmdhcaaGreatK22
set_option maxRecDepth 100000
set_option maxHeartbeats 16000000
namespace Go.Proofs.YtpmbamfpmmdhcaaGreat
open Go.RowKit
set_option linter.unusedSimpArgs false
set_option linter.unusedVariables false
theorem qAtom_64 (g : Nat) (pt : Option Addr) (cap : Nat) (L : List Tok) (p : PS) (e : Ex) (p' : PS) (hT : p.isT L [40] = true) (ho : p.opn = 64) (hst : St (p.fail 3 (p.tok L).pos) p') (hw : QW L p) (w : World) (h : QA g pt cap L p w) :
    Calls Tryz.prog 107 #[.pointer (some ⟨g,0,none⟩)] w (ExQ g pt cap L (fun k => w.heap.size ≤ k) w e p') := by
  have hg := h.1.lt
  have hI := fun (X : World) (hX : QA g pt cap L p X) => qIs g pt cap L p X hX hw.pw.at' hw.pw.len 4 [40]
  rw [← isT_sign hw (s := [40]) (c := 40) (r := []) rfl (by decide),hT] at hI
  have HI := Lib.hid hI;clear hI
  have hWn := fun (X : World) (hX : QA g pt cap L p X) => qWant g pt cap L p X hX hw [40] 40 [] rfl (by decide)
  rw [need_of40_bad hT hw.e0 ho] at hWn
  have HW := Lib.hid hWn
  have hf : p.fail 3 (p.tok L).pos = { p with err := 3,at' := (p.tok L).pos } := by unfold PS.fail;rw [if_pos hw.e0]
  have H3 : Hid ((p.fail 3 (p.tok L).pos).err ≠ 0) := Lib.hid (by rw [hf];show (3 : Int) ≠ 0;decide)
  have Hst := Lib.hid hst
  clear hT ho hst hWn hw hf
  go_enter Tryz.func107,Tryz.ntmps107;(try simp only [List.append_eq,List.cons_append,List.nil_append])
  go_wp2_with fail
  refine (HI.out _ (qa_alloc h _)).mono ?_
  rintro e' wi ⟨rfl,hbi⟩
  go_wp2_with fail
  refine (HW.out _ ((qa_alloc h _).keep hbi)).mono ?_
  rintro e' w1 ⟨-,hbad,ho1⟩
  obtain rfl := hbad H3.out
  exact ⟨rfl,ExQ.bad H3.out Hst.out (((off_alloc (Off.refl g w) _).trans (Off.of hbi)).trans ho1)⟩
theorem qAtom_bad (g : Nat) (pt : Option Addr) (cap : Nat) (L : List Tok) (p : PS) (hT : p.isT L [40] = false) (hbad : (if (p.tok L).kind = 1 then funcOf (p.tok L).text else none) = none) (hw : QW L p) (w : World) (h : QA g pt cap L p w) :
    Calls Tryz.prog 107 #[.pointer (some ⟨g,0,none⟩)] w (ExQ g pt cap L (fun k => w.heap.size ≤ k) w noEx (p.fail 14 (p.tok L).pos)) := by
  have hi := hw.pw.at'
  have hlen := hw.pw.len
  have hg := h.1.lt
  have Hgw := Lib.hid hg
  have hI := fun (X : World) (hX : QA g pt cap L p X) => qIs g pt cap L p X hX hi hlen 4 [40]
  rw [← isT_sign hw (s := [40]) (c := 40) (r := []) rfl (by decide),hT] at hI
  have HI := Lib.hid hI;clear hI
  have HNow := Lib.hid (fun (X : World) (hX : QA g pt cap L p X) => qNow g pt cap L p X hX hi hlen)
  unfold Tok.val at HNow
  have HFn := Lib.hid (fun (X : World) => qFunc ⟨(p.tok L).text.toArray⟩ X)
  have hfA := fun wx => fieldTokA (p.tok L).kind (p.tok L).num (p.tok L).pos ⟨(p.tok L).text.toArray⟩ wx
  have hfB := fun wx => fieldTokB (p.tok L).kind (p.tok L).num (p.tok L).pos ⟨(p.tok L).text.toArray⟩ wx
  have HB := Lib.hid (fun (X : World) (hX : QA g pt cap L p X) => qBad g pt cap L p X hX hi hlen 14)
  obtain ⟨k,fn,bb,hfv,hf1,-⟩ := funcV_parts (funcOf (p.tok L).text)
  have hfv2 : funcV (funcOf (⟨(p.tok L).text.toArray⟩ : ByteArray).data.toList) = .tuple #[.int .i64 k,.int .i64 fn,.bool bb] := hfv
  rw [hfv2] at HFn
  clear hfv hfv2
  have hf : p.fail 14 (p.tok L).pos = { p with err := 14,at' := (p.tok L).pos } := by unfold PS.fail;rw [if_pos hw.e0]
  have H14 : Hid ((p.fail 14 (p.tok L).pos).err = 14 ∧ (p.fail 14 (p.tok L).pos).at' = (p.tok L).pos) := Lib.hid (by rw [hf];exact ⟨rfl,rfl⟩)
  generalize p.fail 14 (p.tok L).pos = pf at H14
  clear hf hT hw
  obtain ⟨t,ht⟩ : ∃ t,p.tok L = t := ⟨_,rfl⟩
  rw [ht] at hbad HNow HFn hfA hfB HB H14 hf1
  clear ht
  by_cases hk : t.kind = 1
  · rw [if_pos hk] at hbad
    obtain rfl := hf1 hbad;have hkb : (t.kind != 1) = false := by simp [hk]
    clear hbad hf1 hk
    go_enter Tryz.func107,Tryz.ntmps107;(try simp only [List.append_eq,List.cons_append,List.nil_append])
    go_wp2_with fail
    have hA := Blk.new w ZX 28;refine (HI.out _ (qa_alloc h _)).mono ?_;rintro e' wi ⟨rfl,hbi⟩;have hPi := (qa_alloc h (.cells ZX.toArray 28)).keep hbi;have hAi := hA.keep hbi;have hoi := (off_alloc (Off.refl g w) (.cells ZX.toArray 28)).trans (Off.of hbi);clear hA hbi
    go_wp2_with fail
    refine (HNow.out _ hPi).mono ?_;rintro e' wj ⟨rfl,hbj⟩;have hPj := hPi.keep hbj;have hAj := hAi.keep hbj;have hoj := hoi.trans (Off.of hbj);clear hPi hAi hoi hbj
    go_wp2_with fail
    refine (HFn.out _).mono ?_;rintro e' wk ⟨rfl,rfl⟩
    go_wp2_with fail
    refine (HNow.out _ hPj).mono ?_;rintro e' w2 ⟨rfl,hb2⟩;have HP2 := Lib.hid (hPj.keep hb2);have HA2 := Lib.hid (hAj.keep hb2);have HO2 := Lib.hid (hoj.trans (Off.of hb2));clear hPj hAj hoj hb2
    go_wp2_with fail
    refine (HB.out _ HP2.out).mono ?_;rintro e' w3 ⟨rfl,hb3⟩;refine ⟨rfl,fun h0 => absurd (H14.out.1.symm.trans h0) (by decide),fun _ => by rw [H14.out.1,H14.out.2],HO2.out.trans (Off.of hb3)⟩
  · have hkb : (t.kind != 1) = true := by simp [hk]
    clear hbad hf1 hk
    go_enter Tryz.func107,Tryz.ntmps107;(try simp only [List.append_eq,List.cons_append,List.nil_append])
    go_wp2_with fail
    have hA := Blk.new w ZX 28;refine (HI.out _ (qa_alloc h _)).mono ?_;rintro e' wi ⟨rfl,hbi⟩;have hPi := (qa_alloc h (.cells ZX.toArray 28)).keep hbi;have hAi := hA.keep hbi;have hoi := (off_alloc (Off.refl g w) (.cells ZX.toArray 28)).trans (Off.of hbi);clear hA hbi
    go_wp2_with fail
    refine (HNow.out _ hPi).mono ?_;rintro e' wj ⟨rfl,hbj⟩;have hPj := hPi.keep hbj;have hAj := hAi.keep hbj;have hoj := hoi.trans (Off.of hbj);clear hPi hAi hoi hbj
    go_wp2_with fail
    refine (HFn.out _).mono ?_;rintro e' wk ⟨rfl,rfl⟩
    go_wp2_with fail
    refine (HNow.out _ hPj).mono ?_;rintro e' w2 ⟨rfl,hb2⟩;have HP2 := Lib.hid (hPj.keep hb2);have HA2 := Lib.hid (hAj.keep hb2);have HO2 := Lib.hid (hoj.trans (Off.of hb2));clear hPj hAj hoj hb2
    go_wp2_with fail
    refine (HB.out _ HP2.out).mono ?_;rintro e' w3 ⟨rfl,hb3⟩;refine ⟨rfl,fun h0 => absurd (H14.out.1.symm.trans h0) (by decide),fun _ => by rw [H14.out.1,H14.out.2],HO2.out.trans (Off.of hb3)⟩
theorem qAtom_win (g : Nat) (pt : Option Addr) (cap : Nat) (L : List Tok) (f : Nat) (fn : Int) (p : PS) (e : Ex) (p' : PS) (hT : p.isT L [40] = false) (hk : (p.tok L).kind = 1) (hfn : funcOf (p.tok L).text = some (1,fn)) (hr : pWindow L f fn { p with i := p.i + 1 } = some (e,p')) (hw : QW L p) (w : World) (h : QA g pt cap L p w) :
    Calls Tryz.prog 107 #[.pointer (some ⟨g,0,none⟩)] w (ExQ g pt cap L (fun k => w.heap.size ≤ k) w e p') := by
  have hi := hw.pw.at'
  have hlen := hw.pw.len
  have hg := h.1.lt
  have Hgw := Lib.hid hg
  have hI := fun (X : World) (hX : QA g pt cap L p X) => qIs g pt cap L p X hX hi hlen 4 [40]
  rw [← isT_sign hw (s := [40]) (c := 40) (r := []) rfl (by decide),hT] at hI
  have HI := Lib.hid hI;clear hI
  have HNow := Lib.hid (fun (X : World) (hX : QA g pt cap L p X) => qNow g pt cap L p X hX hi hlen)
  unfold Tok.val at HNow
  have HFn := Lib.hid (fun (X : World) => qFunc ⟨(p.tok L).text.toArray⟩ X)
  have hfA := fun wx => fieldTokA (p.tok L).kind (p.tok L).num (p.tok L).pos ⟨(p.tok L).text.toArray⟩ wx
  have hfB := fun wx => fieldTokB (p.tok L).kind (p.tok L).num (p.tok L).pos ⟨(p.tok L).text.toArray⟩ wx
  have hfv2 : funcV (funcOf (⟨(p.tok L).text.toArray⟩ : ByteArray).data.toList) = .tuple #[.int .i64 1,.int .i64 fn,.bool true] := by
    show funcV (funcOf (p.tok L).text) = _
    rw [hfn];rfl
  rw [hfv2] at HFn
  clear hfv2 hfn
  have hw1 : QW L { p with i := p.i + 1 } := ⟨hw.pw.on (by omega),hw.tw,hw.e0⟩
  obtain ⟨q1,hq1⟩ : ∃ q1,q1 = ({ p with i := p.i + 1 } : PS) := ⟨_,rfl⟩
  have hst0 := St.window hr
  unfold pWindow at hr
  rw [← hq1] at hr hw1
  obtain ⟨⟨ms,q4⟩,hm,hr1⟩ := Option.map_eq_some_iff.1 hr
  simp only [Prod.mk.injEq] at hr1
  have HN1 := Lib.hid (fun (X : World) (hX : QA g pt cap L q1 X) => qWant g pt cap L q1 X hX hw1 [40] 40 [] rfl (by decide))
  have HQ2 := Lib.hid (hw1.need [40])
  have S0 := St.need L q1 [40]
  obtain ⟨q2,hq2⟩ : ∃ q2,q1.need L [40] = q2 := ⟨_,rfl⟩
  rw [hq2] at HN1 HQ2 hm hr1
  have HK1 := Lib.hid (fun (h0 : q2.err = 0) (X : World) (hX : QA g pt cap L q2 X) => qAny g pt cap L q2 X hX (HQ2.out h0) 1)
  have HQ3 := Lib.hid (fun (h0 : q2.err = 0) => (HQ2.out h0).token 1 (by decide))
  have htx : q2.err = 0 → (q2.token L 1).1.text.length ≤ 100000 := fun h0 => tok_txt (HQ2.out h0).pw 1
  have s23 := St.token L q2 1
  obtain ⟨tk,htk⟩ : ∃ tk,(q2.token L 1).1 = tk := ⟨_,rfl⟩
  obtain ⟨q3,hq3⟩ : ∃ q3,(q2.token L 1).2 = q3 := ⟨_,rfl⟩
  rw [htk,hq3] at HK1
  rw [hq3] at HQ3 hm s23
  rw [htk] at hr1 htx
  unfold Tok.val at HK1
  have HM := Lib.hid (fun (h0 : q2.err = 0) (h1 : q3.err = 0) (hT : q3.isT L [123] = true) (X : World) (hX : QA g pt cap L q3 X) => qMatch g pt cap L f q3 ms q4 hm hT X hX (HQ3.out h0 h1))
  have HI2 := Lib.hid (fun (h0 : q2.err = 0) (h1 : q3.err = 0) (X : World) (hX : QA g pt cap L q3 X) => qIs g pt cap L q3 X hX (HQ3.out h0 h1).pw.at' (HQ3.out h0 h1).pw.len 4 [123])
  have HIT := Lib.hid (fun (h0 : q2.err = 0) (h1 : q3.err = 0) => isT_sign (HQ3.out h0 h1) (s := [123]) (c := 123) (r := []) rfl (by decide))
  have HNM : Hid (q3.isT L [123] = false → ms = [] ∧ q4 = q3) := Lib.hid (fun hx => by
    have hm := hm;unfold pMatch at hm;rw [isT_take hx] at hm;simp only [Bool.false_eq_true,if_false,Option.some.injEq,Prod.mk.injEq] at hm;exact ⟨hm.1.symm,hm.2.symm⟩)
  have Hsm := Lib.hid (fun (h0 : q2.err = 0) (h1 : q3.err = 0) => (pMatch_keep hm (HQ3.out h0 h1).pw).2.1)
  have HQ4 := Lib.hid (fun (h0 : q2.err = 0) (h1 : q3.err = 0) (h2 : q4.err = 0) => (⟨(pMatch_keep hm (HQ3.out h0 h1).pw).1,(HQ3.out h0 h1).tw,h2⟩ : QW L q4))
  have s34 := St.match' hm
  have HN2 := Lib.hid (fun (hq : QW L q4) (X : World) (hX : QA g pt cap L q4 X) => qWant g pt cap L q4 X hX hq [91] 91 [] rfl (by decide))
  have HQ5 := Lib.hid (fun (hq : QW L q4) => hq.need [91])
  have s45 := St.need L q4 [91]
  obtain ⟨q5,hq5⟩ : ∃ q5,q4.need L [91] = q5 := ⟨_,rfl⟩
  rw [hq5] at HN2 HQ5 hr1 s45
  have HK2 := Lib.hid (fun (hq : QW L q5) (X : World) (hX : QA g pt cap L q5 X) => qAny g pt cap L q5 X hX hq 2)
  have HQ6 := Lib.hid (fun (hq : QW L q5) => hq.token 2 (by decide))
  have s56 := St.token L q5 2
  obtain ⟨t5,ht5⟩ : ∃ t5,(q5.token L 2).1 = t5 := ⟨_,rfl⟩
  obtain ⟨q6,hq6⟩ : ∃ q6,(q5.token L 2).2 = q6 := ⟨_,rfl⟩
  rw [ht5,hq6] at HK2
  rw [hq6] at HQ6 hr1 s56
  rw [ht5] at hr1
  unfold Tok.val at HK2
  have HN3 := Lib.hid (fun (hq : QW L q6) (X : World) (hX : QA g pt cap L q6 X) => qWant g pt cap L q6 X hX hq [93] 93 [] rfl (by decide))
  have HQ7 := Lib.hid (fun (hq : QW L q6) => hq.need [93])
  have s67 := St.need L q6 [93]
  obtain ⟨q7,hq7⟩ : ∃ q7,q6.need L [93] = q7 := ⟨_,rfl⟩
  rw [hq7] at HN3 HQ7 hr1 s67
  have HN4 := Lib.hid (fun (hq : QW L q7) (X : World) (hX : QA g pt cap L q7 X) => qWant g pt cap L q7 X hX hq [41] 41 [] rfl (by decide))
  have s78 := St.need L q7 [41]
  obtain ⟨he,hp⟩ := hr1
  rw [hp] at HN4 s78
  have S7 := Lib.hid s78
  have S6 := Lib.hid (s67.trans S7.out)
  have S5 := Lib.hid (s56.trans S6.out)
  have S4 := Lib.hid (s45.trans S5.out)
  have S3 := Lib.hid (s34.trans S4.out)
  have S2 := Lib.hid (s23.trans S3.out)
  have hft1 := fun wx => fieldTokB tk.kind tk.num tk.pos ⟨tk.text.toArray⟩ wx
  have hft2 := fun wx => fieldTokC t5.kind t5.num t5.pos ⟨t5.text.toArray⟩ wx
  obtain ⟨N1,hN1⟩ : ∃ N : ByteArray,(⟨tk.text.toArray⟩ : ByteArray) = N := ⟨_,rfl⟩
  have HNs : Hid (q2.err = 0 → N1.size ≤ maxLen) := Lib.hid (fun h0 => by have := htx h0;rw [← hN1];unfold maxLen;simp [ByteArray.size];omega)
  rw [hN1] at hft1 HK1 he
  have He := Lib.hid he
  have hkb : ((p.tok L).kind != 1) = false := by simp [hk]
  have Hq1 := Lib.hid hq1
  clear hN1 htk hq3 ht5 hq6 hq2 hq5 hq7 htx hm hr hw1 hw he hp s23 s34 s45 s56 s67 s78 S0 hst0 hk hT hq1
  generalize p.tok L = t at HNow HFn hfA hfB hkb
  go_enter Tryz.func107,Tryz.ntmps107;(try simp only [List.append_eq,List.cons_append,List.nil_append])
  go_wp2_with fail
  have hA := Blk.new w ZX 28
  refine (HI.out _ (qa_alloc h _)).mono ?_
  rintro e' wi ⟨rfl,hbi⟩
  have hPi := (qa_alloc h (.cells ZX.toArray 28)).keep hbi
  have hAi := hA.keep hbi
  have hoi := (off_alloc (Off.refl g w) (.cells ZX.toArray 28)).trans (Off.of hbi)
  clear hA hbi
  go_wp2_with fail
  refine (HNow.out _ hPi).mono ?_
  rintro e' wj ⟨rfl,hbj⟩
  have hPj := hPi.keep hbj
  have hAj := hAi.keep hbj
  have hoj := hoi.trans (Off.of hbj)
  clear hPi hAi hoi hbj
  go_wp2_with fail
  refine (HFn.out _).mono ?_
  rintro e' wk ⟨rfl,rfl⟩
  go_wp2_with fail
  refine (HNow.out _ hPj).mono ?_
  rintro e' w2 ⟨rfl,hb2⟩
  have HP2 := Lib.hid (hPj.keep hb2)
  have HA2 := Lib.hid (hAj.keep hb2)
  have HO2 := Lib.hid (hoj.trans (Off.of hb2))
  clear hPj hAj hoj hb2
  have hg2 := HP2.out.1.lt
  have hB2 := HP2.out.1
  unfold QC at hB2
  have c0 := hB2.cell 0 _ rfl;have c1 := hB2.cell 1 _ rfl;have c2 := hB2.cell 2 _ rfl
  have f1 := hB2.free 1
  clear hB2
  go_wp2_with fail
  have hPs : QA g pt cap L q1 (w2.setCell ⟨g,1,none⟩ (.int .i64 ((p.i : Int) + 1))) := by rw [Hq1.out];exact HP2.out.upd (Off.set w2 1 _) (HP2.out.1.set_ 1 _)
  have hos := HO2.out.trans (Off.set (g := g) w2 1 (.int .i64 ((p.i : Int) + 1)))
  have hAs := HA2.out.far (p := ⟨g,1,none⟩) (Nat.ne_of_gt Hgw.out) (.int .i64 ((p.i : Int) + 1))
  clear HP2 HA2 HO2 c0 c1 c2 f1 hg2
  generalize w2.setCell ⟨g,1,none⟩ (.int .i64 ((p.i : Int) + 1)) = X1 at hPs hos hAs
  refine (HN1.out _ hPs).mono ?_
  rintro e' w3 ⟨hok,hbad,ho3⟩
  have hA3 := ho3.blkX hAs (Nat.ne_of_gt Hgw.out)
  have ho3 := hos.trans ho3
  by_cases hx : q2.err ≠ 0
  · obtain rfl := hbad hx
    exact ⟨rfl,ExQ.bad hx S2.out (ho3)⟩
  have hx0 : q2.err = 0 := Decidable.not_not.1 hx
  have E2 := Lib.hid hx0
  obtain ⟨rfl,hP3⟩ := hok E2.out
  clear hok hbad hx hx0 hPs hos hAs
  go_wp2_with fail
  refine (HK1.out E2.out _ hP3).mono ?_
  rintro e' w4 ⟨hok,hbad,ho4⟩
  have hA4 := ho4.blkX hA3 (Nat.ne_of_gt Hgw.out)
  have ho4 := ho3.trans ho4
  by_cases hx : q3.err ≠ 0
  · obtain rfl := hbad hx
    exact ⟨rfl,ExQ.bad hx S3.out (ho4)⟩
  have hx0 : q3.err = 0 := Decidable.not_not.1 hx
  have E3 := Lib.hid hx0
  obtain ⟨rfl,hP4⟩ := hok E3.out
  clear hok hbad hx hx0 hP3 hA3 ho3
  go_wp2_with fail
  have hB5 := Blk.new w4 [.int .i64 1,.int .i64 fn,.int .i64 0,.int .i64 0,.string N1,.slice none 0 0,.int .i64 0,.slice none 0 0,.slice none 0 0] 28
  have hbl : Below w4.heap.size w4 (w4.alloc (.cells ([.int .i64 1,.int .i64 fn,.int .i64 0,.int .i64 0,.string N1,.slice none 0 0,.int .i64 0,.slice none 0 0,.slice none 0 0] : List Value).toArray 28)) := (Below.refl _ _).alloc (Nat.le_refl _) _
  have hP5 := hP4.keep hbl
  have hA5 := hA4.keep hbl
  have ho5 := ho4.trans (Off.of (g := g) hbl)
  have hlo := hA4.lt
  have hgs := hP4.1.lt
  generalize w4.alloc (.cells ([.int .i64 1,.int .i64 fn,.int .i64 0,.int .i64 0,.string N1,.slice none 0 0,.int .i64 0,.slice none 0 0,.slice none 0 0] : List Value).toArray 28) = X5 at hB5 hbl hP5 hA5 ho5
  obtain ⟨B8,hB8e⟩ : ∃ B,w4.heap.size = B := ⟨_,rfl⟩
  rw [hB8e] at hB5 hlo hgs ⊢
  clear hB8e hP4 hA4 ho4 hbl
  refine (HI2.out E2.out E3.out _ hP5).mono ?_
  rintro e' w6 ⟨rfl,hb6⟩
  have hP6 := hP5.keep hb6
  have HA6 := Lib.hid (hA5.keep hb6)
  have HO6 := Lib.hid (ho5.trans (Off.of (g := g) hb6))
  have HB6 := Lib.hid (hB5.keep hb6)
  have hlt6 := HB6.out.lt
  clear hP5 hA5 ho5 hB5 hb6
  have hbr := HIT.out E2.out E3.out
  cases hbt : isK (q3.tok L) 4 [123] with
  | true =>
    rw [hbt] at hbr;have Hbr := Lib.hid hbr;clear hbr hbt
    go_wp2_with fail
    refine (HM.out E2.out E3.out Hbr.out _ hP6).mono ?_;rintro e' w7 ⟨hok,hbad,ho7⟩;have hB7 := ho7.blkX HB6.out (Nat.ne_of_gt hgs);have hA7 := ho7.blkX HA6.out (Nat.ne_of_gt Hgw.out);have hsz67 := ho7.size;have ho7 := HO6.out.trans ho7
    by_cases hx : q4.err ≠ 0
    · obtain rfl := hbad hx
      exact ⟨rfl,ExQ.bad hx S4.out (ho7)⟩
    have hx0 : q4.err = 0 := Decidable.not_not.1 hx;have E4 := Lib.hid hx0;obtain ⟨v,rfl,hown,hP7⟩ := hok E4.out;obtain ⟨A,mc,rfl⟩ := ownMt_slice hown;have HMS7 := Lib.hid (hown.matsS (Hsm.out E2.out E3.out));have d5 := hB7.cell 5 _ rfl;have f5 := hB7.free 5;have hlt7 := hB7.lt;have HB7 := Lib.hid hB7;have HA7 := Lib.hid hA7;have HO7 := Lib.hid ho7;clear hok hbad hx hx0 HB6 HA6 HO6 hP6 hB7 hA7 ho7 hown
    go_wp2_with fail
    have hP8 := hP7.setFar hgs 5 (.slice A ms.length mc);have HB8 := Lib.hid (HB7.out.set_ 5 (.slice A ms.length mc));have HA8 := Lib.hid (HA7.out.far (p := ⟨B8,5,none⟩) (Nat.ne_of_lt hlo) (.slice A ms.length mc));have HO8 := Lib.hid (HO7.out.setNew (Nat.le_of_lt hlo) 5 (.slice A ms.length mc));have HMS8 := Lib.hid (HMS7.out.set (show ¬ w6.heap.size ≤ B8 by omega) 5 (.slice A ms.length mc));have HSg : Hid (¬ w6.heap.size ≤ g) := Lib.hid (by omega);have HSB : Hid (¬ w6.heap.size ≤ B8) := Lib.hid (by omega);have HSA : Hid (¬ w6.heap.size ≤ w.heap.size) := Lib.hid (by omega);have HSw : Hid (∀ k,w6.heap.size ≤ k → w.heap.size ≤ k) := Lib.hid (fun k hk => by omega);clear HB7 HA7 HO7 HMS7 hP7 d5 f5;generalize w7.setCell ⟨B8,5,none⟩ (.slice A ms.length mc) = w8 at hP8 HB8 HA8 HO8 HMS8;have hlt8 := HB8.out.lt;refine (HN2.out (HQ4.out E2.out E3.out E4.out) _ hP8).mono ?_;rintro e' w9 ⟨hok,hbad,ho9⟩;have hB9 := ho9.blkX HB8.out (Nat.ne_of_gt hgs);have hA9 := ho9.blkX HA8.out (Nat.ne_of_gt Hgw.out);have hms9 := HMS8.out.off ho9 HSg.out;have ho9 := HO8.out.trans ho9
    by_cases hx : q5.err ≠ 0
    · obtain rfl := hbad hx
      exact ⟨rfl,ExQ.bad hx S5.out (ho9)⟩
    have hx0 : q5.err = 0 := Decidable.not_not.1 hx;have Q5 := Lib.hid (HQ5.out (HQ4.out E2.out E3.out E4.out) hx0);obtain ⟨rfl,hP9⟩ := hok hx0;clear hok hbad hx hx0 HB8 HA8 HMS8 HO8 hP8
    go_wp2_with fail
    refine (HK2.out Q5.out _ hP9).mono ?_;rintro e' wa ⟨hok,hbad,hoa⟩;have hBa := hoa.blkX hB9 (Nat.ne_of_gt hgs);have hAa := hoa.blkX hA9 (Nat.ne_of_gt Hgw.out);have hmsa := hms9.off hoa HSg.out;have hoa := ho9.trans hoa
    by_cases hx : q6.err ≠ 0
    · obtain rfl := hbad hx
      exact ⟨rfl,ExQ.bad hx S6.out (hoa)⟩
    have hx0 : q6.err = 0 := Decidable.not_not.1 hx;have Q6 := Lib.hid (HQ6.out Q5.out hx0);obtain ⟨rfl,hPa⟩ := hok hx0;have d6 := hBa.cell 6 _ rfl;have f6 := hBa.free 6;have HBa := Lib.hid hBa;have HAa := Lib.hid hAa;have HMSa := Lib.hid hmsa;have HOa := Lib.hid hoa;have hlta := hBa.lt;clear hok hbad hx hx0 hB9 hA9 hms9 ho9 hP9 hBa hAa hmsa hoa
    go_wp2_with fail
    refine (HN3.out Q6.out _ (hPa.setFar hgs 6 _)).mono ?_;rintro e' wb ⟨hok,hbad,hob⟩;have hBb := hob.blkX (HBa.out.set_ 6 (.int .i64 t5.num)) (Nat.ne_of_gt hgs);have hAb := hob.blkX (HAa.out.far (p := ⟨B8,6,none⟩) (Nat.ne_of_lt hlo) (.int .i64 t5.num)) (Nat.ne_of_gt Hgw.out);have hmsb := (HMSa.out.set HSB.out 6 (.int .i64 t5.num)).off hob HSg.out;have hob := (HOa.out.setNew (Nat.le_of_lt hlo) 6 (.int .i64 t5.num)).trans hob
    by_cases hx : q7.err ≠ 0
    · obtain rfl := hbad hx
      exact ⟨rfl,ExQ.bad hx S7.out (hob)⟩
    have hx0 : q7.err = 0 := Decidable.not_not.1 hx;have Q7 := Lib.hid (HQ7.out Q6.out hx0);obtain ⟨rfl,hPb⟩ := hok hx0;clear hok hbad hx hx0 HBa HAa HMSa HOa hPa d6 f6
    go_wp2_with fail
    refine (HN4.out Q7.out _ hPb).mono ?_;rintro e' wc ⟨hok,hbad,hoc⟩;have hBc := hoc.blkX hBb (Nat.ne_of_gt hgs);have HAc := Lib.hid (hoc.blkX hAb (Nat.ne_of_gt Hgw.out));have HMSc := Lib.hid (hmsb.off hoc HSg.out);have HOc := Lib.hid (hob.trans hoc)
    by_cases hx : p'.err ≠ 0
    · obtain rfl := hbad hx
      exact ⟨rfl,ExQ.bad hx (.refl _) HOc.out⟩
    have H8 : Hid (p'.err = 0) := Lib.hid (Decidable.not_not.1 hx);obtain ⟨rfl,hPc⟩ := hok H8.out;have HPc := Lib.hid hPc;have d0 := hBc.cell 0 _ rfl;have d1 := hBc.cell 1 _ rfl;have d2 := hBc.cell 2 _ rfl;have d3 := hBc.cell 3 _ rfl;have d4 := hBc.cell 4 _ rfl;have d5 := hBc.cell 5 _ rfl;have d6 := hBc.cell 6 _ rfl;have d7 := hBc.cell 7 _ rfl;have d8 := hBc.cell 8 _ rfl;have hltc := hBc.lt;clear hok hbad hx hBb hAb hmsb hob hPb hPc hoc hBc
    go_wp2_with (refine wpList_store_row rfl 28 _ _ rfl w.heap.size #[.int .i64 1,.int .i64 fn,.int .i64 0,.int .i64 0,.string N1,.slice A ms.length mc,.int .i64 t5.num,.slice none 0 0,.slice none 0 0] rfl rfl 28 _ HAc.out (by kernel_rfl) rfl (by kernel_rfl) ?_)
    rw [← He.out];exact bodyPost_agg (d := _) rfl rfl (setRow_at HAc.out _) Tryz.underlying28 rfl (by kernel_rfl) rfl (exQ_close H8.out (exS_node (HNs.out E2.out) HMSc.out (noStrsS _ _) (noExsS _ _)) HPc.out HOc.out (Nat.le_refl _) Hgw.out HSA.out (fun k _ h => HSw.out k h))
  | false =>
    rw [hbt] at hbr;obtain ⟨hm1,hm2⟩ := HNM.out hbr;subst hm1 hm2;clear hbr hbt;have E4 := E3;have hP8 := hP6;have HB8 := HB6;have HA8 := HA6;have HO8 := HO6;have HMS8 := Lib.hid (noMatsS (fun k => w6.heap.size ≤ k) w6);have HSg : Hid (¬ w6.heap.size ≤ g) := Lib.hid (by omega);have HSB : Hid (¬ w6.heap.size ≤ B8) := Lib.hid (by omega);have HSA : Hid (¬ w6.heap.size ≤ w.heap.size) := Lib.hid (by omega);have HSw : Hid (∀ k,w6.heap.size ≤ k → w.heap.size ≤ k) := Lib.hid (fun k hk => by omega);clear HB6 HA6 HO6 hP6
    go_wp2_with fail
    have hlt8 := HB8.out.lt;refine (HN2.out (HQ4.out E2.out E3.out E4.out) _ hP8).mono ?_;rintro e' w9 ⟨hok,hbad,ho9⟩;have hB9 := ho9.blkX HB8.out (Nat.ne_of_gt hgs);have hA9 := ho9.blkX HA8.out (Nat.ne_of_gt Hgw.out);have hms9 := HMS8.out.off ho9 HSg.out;have ho9 := HO8.out.trans ho9
    by_cases hx : q5.err ≠ 0
    · obtain rfl := hbad hx
      exact ⟨rfl,ExQ.bad hx S5.out (ho9)⟩
    have hx0 : q5.err = 0 := Decidable.not_not.1 hx;have Q5 := Lib.hid (HQ5.out (HQ4.out E2.out E3.out E4.out) hx0);obtain ⟨rfl,hP9⟩ := hok hx0;clear hok hbad hx hx0 HB8 HA8 HMS8 HO8 hP8
    go_wp2_with fail
    refine (HK2.out Q5.out _ hP9).mono ?_;rintro e' wa ⟨hok,hbad,hoa⟩;have hBa := hoa.blkX hB9 (Nat.ne_of_gt hgs);have hAa := hoa.blkX hA9 (Nat.ne_of_gt Hgw.out);have hmsa := hms9.off hoa HSg.out;have hoa := ho9.trans hoa
    by_cases hx : q6.err ≠ 0
    · obtain rfl := hbad hx
      exact ⟨rfl,ExQ.bad hx S6.out (hoa)⟩
    have hx0 : q6.err = 0 := Decidable.not_not.1 hx;have Q6 := Lib.hid (HQ6.out Q5.out hx0);obtain ⟨rfl,hPa⟩ := hok hx0;have d6 := hBa.cell 6 _ rfl;have f6 := hBa.free 6;have HBa := Lib.hid hBa;have HAa := Lib.hid hAa;have HMSa := Lib.hid hmsa;have HOa := Lib.hid hoa;have hlta := hBa.lt;clear hok hbad hx hx0 hB9 hA9 hms9 ho9 hP9 hBa hAa hmsa hoa
    go_wp2_with fail
    refine (HN3.out Q6.out _ (hPa.setFar hgs 6 _)).mono ?_;rintro e' wb ⟨hok,hbad,hob⟩;have hBb := hob.blkX (HBa.out.set_ 6 (.int .i64 t5.num)) (Nat.ne_of_gt hgs);have hAb := hob.blkX (HAa.out.far (p := ⟨B8,6,none⟩) (Nat.ne_of_lt hlo) (.int .i64 t5.num)) (Nat.ne_of_gt Hgw.out);have hmsb := (HMSa.out.set HSB.out 6 (.int .i64 t5.num)).off hob HSg.out;have hob := (HOa.out.setNew (Nat.le_of_lt hlo) 6 (.int .i64 t5.num)).trans hob
    by_cases hx : q7.err ≠ 0
    · obtain rfl := hbad hx
      exact ⟨rfl,ExQ.bad hx S7.out (hob)⟩
    have hx0 : q7.err = 0 := Decidable.not_not.1 hx;have Q7 := Lib.hid (HQ7.out Q6.out hx0);obtain ⟨rfl,hPb⟩ := hok hx0;clear hok hbad hx hx0 HBa HAa HMSa HOa hPa d6 f6
    go_wp2_with fail
    refine (HN4.out Q7.out _ hPb).mono ?_;rintro e' wc ⟨hok,hbad,hoc⟩;have hBc := hoc.blkX hBb (Nat.ne_of_gt hgs);have HAc := Lib.hid (hoc.blkX hAb (Nat.ne_of_gt Hgw.out));have HMSc := Lib.hid (hmsb.off hoc HSg.out);have HOc := Lib.hid (hob.trans hoc)
    by_cases hx : p'.err ≠ 0
    · obtain rfl := hbad hx
      exact ⟨rfl,ExQ.bad hx (.refl _) HOc.out⟩
    have H8 : Hid (p'.err = 0) := Lib.hid (Decidable.not_not.1 hx);obtain ⟨rfl,hPc⟩ := hok H8.out;have HPc := Lib.hid hPc;have d0 := hBc.cell 0 _ rfl;have d1 := hBc.cell 1 _ rfl;have d2 := hBc.cell 2 _ rfl;have d3 := hBc.cell 3 _ rfl;have d4 := hBc.cell 4 _ rfl;have d5 := hBc.cell 5 _ rfl;have d6 := hBc.cell 6 _ rfl;have d7 := hBc.cell 7 _ rfl;have d8 := hBc.cell 8 _ rfl;have hltc := hBc.lt;clear hok hbad hx hBb hAb hmsb hob hPb hPc hoc hBc
    go_wp2_with (refine wpList_store_row rfl 28 _ _ rfl w.heap.size #[.int .i64 1,.int .i64 fn,.int .i64 0,.int .i64 0,.string N1,.slice none 0 0,.int .i64 t5.num,.slice none 0 0,.slice none 0 0] rfl rfl 28 _ HAc.out (by kernel_rfl) rfl (by kernel_rfl) ?_)
    rw [← He.out];exact bodyPost_agg (d := _) rfl rfl (setRow_at HAc.out _) Tryz.underlying28 rfl (by kernel_rfl) rfl (exQ_close H8.out (exS_node (HNs.out E2.out) HMSc.out (noStrsS _ _) (noExsS _ _)) HPc.out HOc.out (Nat.le_refl _) Hgw.out HSA.out (fun k _ h => HSw.out k h))
end Go.Proofs.YtpmbamfpmmdhcaaGreat
