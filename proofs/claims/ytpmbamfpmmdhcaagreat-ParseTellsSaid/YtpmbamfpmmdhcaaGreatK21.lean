/- The program's parser: names. -/
import Derived.Test.YtpmbamfpmmdhcaaGreatK20
import Derived.Test.YtpmbamfpmmdhcaaGreatK53
import Derived.Lib.OwnBridge
import Derived.Sort.OwnSorted
set_option maxRecDepth 100000
set_option maxHeartbeats 16000000
namespace Go.Proofs.YtpmbamfpmmdhcaaGreat
open Go.RowKit
set_option linter.unusedSimpArgs false
set_option linter.unusedVariables false
theorem Off.upB {g n : Nat} {w w1 w2 : World} (h : Off g w w1) (hb : Below n w1 w2) (hn : w.heap.size ≤ n) : Off g w w2 :=
  ⟨hb.os.trans h.os,hb.tape.trans h.tape,hb.output.trans h.output,Nat.le_trans h.size hb.size,fun k hk hg => (hb.block k (by omega)).trans (h.block k hk hg)⟩
theorem QA.keepB {g n : Nat} {pt : Option Addr} {cap : Nat} {L : List Tok} {p : PS} {w w' : World} (h : QA g pt cap L p w) (hb : Below n w w') (hg : g < n) : QA g pt cap L p w' := ⟨h.1.mono hb hg,h.2.mono (hb.mono (Nat.le_of_lt hg)) (Nat.le_refl _)⟩
theorem QA.tmu {g : Nat} {pt : Option Addr} {cap : Nat} {L : List Tok} {p : PS} {w : World} (h : QA g pt cap L p w) : muP g w = p.i := by
  have := h.1.cell 1 (.int .i64 p.i) rfl
  unfold muP;rw [this];show ((p.i : Int)).toNat = p.i;simp
theorem ownN_one {w : World} {s : List UInt8} : Src (w.alloc (.cells #[.string ⟨s.toArray⟩] 9)) (.slice (some ⟨w.heap.size,0,none⟩) 1 1) 1 1 [.string ⟨s.toArray⟩] :=
  src_blk (Blk.new w [.string ⟨s.toArray⟩] 9) rfl
theorem qSort {base : Nat} {w : World} {v : Value} {l : List (List UInt8)} (h : OwnN base w v l) (hl : l.length ≤ 1000000) :
    Calls Tryz.prog 123 #[v] w fun e' w' => e' = .returned (.tuple #[]) ∧ OwnN base w' v (l.mergeSort fun x y => decide (x ≤ y)) ∧ Below base w w' := by
  rcases h.2 with ⟨rfl,h0⟩ | ⟨k,cap,cur,rfl,hk,hh,h1,h2,h3,h4⟩
  · obtain rfl : l = [] := List.eq_nil_of_length_eq_zero h0
    refine (Tryz.slices_Sort_string_none none 0 w).mono ?_;rintro e' w' ⟨rfl,rfl⟩;exact ⟨rfl,by simpa using h,Below.refl _ _⟩
  · have hlt := (Array.getElem?_eq_some_iff.1 hh).1
    refine (Tryz.slices_Sort_string k 0 cap l w (holds_of_block hh (by simpa using h4)) hlt (by omega)).mono ?_;rintro e' w' ⟨rfl,n,os,rfl⟩;have ho := ownsRow_sorted (w := w) (base := base) (n := n) (os := os) (ss := l) (ts := l.mergeSort fun x y => decide (x ≤ y)) (by simp) hk hh h1 h2 (by simpa using h3);refine ⟨rfl,?_,(Below.refl base w).grown (grownBy_sorted _) (by omega) (fun j hj => by cases hj;exact hk)⟩;unfold OwnN;rw [List.length_mergeSort];exact ho
theorem compact_nil : Lib.compact ([] : List (List UInt8)) = [] := rfl
theorem qCompact {base : Nat} {w : World} {v : Value} {l : List (List UInt8)} (h : OwnN base w v l) (hl : l.length ≤ 1000000) :
    Calls Tryz.prog 124 #[v] w fun e' w' => ∃ v',e' = .returned v' ∧ OwnN base w' v' (Lib.compact l) ∧ Below base w w' := by
  rcases h.2 with ⟨rfl,h0⟩ | ⟨k,cap,cur,rfl,hk,hh,h1,h2,h3,h4⟩
  · obtain rfl : l = [] := List.eq_nil_of_length_eq_zero h0
    refine (Tryz.slices_Compact_string_empty none 0 w).mono ?_;rintro e' w' ⟨rfl,rfl⟩;exact ⟨_,rfl,by rw [compact_nil];exact h,Below.refl _ _⟩
  · have hlt := (Array.getElem?_eq_some_iff.1 hh).1
    refine (Tryz.slices_Compact_string k 0 cap l w (holds_of_block hh (by simpa using h4)) (by omega) h1).mono ?_;rintro e' w' ⟨rfl,q,rfl⟩;have hle : (Lib.compact l).length ≤ l.length := Lib.compact_length_le l;have ho := Lib.ownsRow_putRow (q := q) (k := (Lib.compact l).length) (ys := Lib.compact l ++ List.replicate (l.length - (Lib.compact l).length) []) (zs := l) (enc := encStr) (by
      have := h;unfold OwnN at this;exact this) (by simp;omega) hle
    refine ⟨_,rfl,?_,?_⟩
    · unfold OwnN
      simpa using ho
    · have hg := grownBy_sorted (w := w) (g := k) (n := q) (os := #[]) (Lib.compact l ++ List.replicate (l.length - (Lib.compact l).length) []).toArray
      have e : Sort.grow (Sort.putRow encStr (Sort.ahead w q) k 0 (Lib.compact l ++ List.replicate (l.length - (Lib.compact l).length) []).toArray) #[] = Sort.putRow encStr (Sort.ahead w q) k 0 (Lib.compact l ++ List.replicate (l.length - (Lib.compact l).length) []).toArray := by simp [Sort.grow];rfl
      rw [e] at hg;exact (Below.refl base w).grown hg (by have := hlt;omega) (fun j hj => by cases hj;exact hk)
def contN (L : List Tok) (f : Nat) (q : PS) (out : List (List UInt8)) : Option (List (List UInt8) × PS) := if (q.take L [44]).1 then namesF L f (q.take L [44]).2 out else some (out,(q.take L [44]).2)
theorem namesF_cont {L : List Tok} {f : Nat} {p : PS} {out : List (List UInt8)} (h0 : p.err = 0) : namesF L (f + 1) p out = contN L f (p.token L 1).2 (putName out (p.token L 1).1.text) := by
  rw [namesF,if_pos h0];rfl
theorem contN_st {L : List Tok} {f : Nat} {q : PS} {out r : List (List UInt8)} {p' : PS} (h : (contN L f q out).map (fun x => (x.1,x.2.need L [41])) = some (r,p')) : St q p' := by
  obtain ⟨⟨r0,p0⟩,h0,h1⟩ := Option.map_eq_some_iff.1 h
  simp only [Prod.mk.injEq] at h1
  obtain ⟨-,rfl⟩ := h1
  unfold contN at h0
  refine St.trans ?_ (.need _ _ _)
  split at h0
  · exact (St.take L q [44]).trans (St.namesF L f _ _ _ _ h0)
  · simp only [Option.some.injEq,Prod.mk.injEq] at h0
    obtain ⟨-,rfl⟩ := h0;exact .take _ _ _
def NamesQ (g : Nat) (pt : Option Addr) (cap : Nat) (L : List Tok) (w : World) (r : List (List UInt8)) (p' : PS) (e' : Ending) (w' : World) : Prop :=
  (p'.err = 0 → ∃ v,e' = .returned v ∧ OwnN w.heap.size w' v r ∧ QA g pt cap L p' w') ∧ (p'.err ≠ 0 → e' = .panicked (flt p'.err p'.at')) ∧ Off g w w'
theorem NamesQ.ok {g : Nat} {pt : Option Addr} {cap : Nat} {L : List Tok} {w : World} {r : List (List UInt8)} {p' : PS} {v : Value} {w' : World} (h0 : p'.err = 0) (hv : OwnN w.heap.size w' v r) (h : QA g pt cap L p' w') (ho : Off g w w') : NamesQ g pt cap L w r p' (.returned v) w' := ⟨fun _ => ⟨v,rfl,hv,h⟩,fun hn => absurd h0 hn,ho⟩
theorem NamesQ.bad {g : Nat} {pt : Option Addr} {cap : Nat} {L : List Tok} {w : World} {r : List (List UInt8)} {p' q : PS} {w' : World} (h0 : q.err ≠ 0) (hs : St q p') (ho : Off g w w') : NamesQ g pt cap L w r p' (.panicked (flt q.err q.at')) w' := by
  obtain ⟨a,b⟩ := hs h0
  refine ⟨fun hn => absurd (a.symm.trans hn) h0,fun _ => by rw [a,b],ho⟩
theorem names_none {L : List Tok} {f : Nat} {q : PS} (hq : QW L q) (hk : (q.tok L).kind ≠ 1) {r : List (List UInt8)} {p' : PS}
    (h : (if (q.take L [41]).1 then some ([],(q.take L [41]).2) else (namesF L f (q.take L [41]).2 []).map fun x => (x.1,x.2.need L [41])) = some (r,p')) :
    ((q.need L [41]).err = 0 → r = [] ∧ p' = q.need L [41]) ∧ ((q.need L [41]).err ≠ 0 → (q.need L [41]).err = p'.err ∧ (q.need L [41]).at' = p'.at') := by
  cases ht : q.isT L [41] with
  | true =>
    have hn := need_of41 ht;have h1 : q.take L [41] = (true,q.need L [41]) := by
      rw [hn];unfold PS.take;rw [ht,if_pos rfl,if_neg (by decide),if_pos rfl]
    rw [h1] at h;simp only [if_true,Option.some.injEq,Prod.mk.injEq] at h;obtain ⟨rfl,rfl⟩ := h;exact ⟨fun _ => ⟨rfl,rfl⟩,fun _ => ⟨rfl,rfl⟩⟩
  | false =>
    have hn := need_of_not ht;have h1 : q.take L [41] = (false,q) := by unfold PS.take;rw [ht];rfl
    rw [h1] at h;simp only [Bool.false_eq_true,if_false] at h;have hf : q.fail 14 (q.tok L).pos = { q with err := 14,at' := (q.tok L).pos } := by unfold PS.fail;rw [if_pos hq.e0]
    cases f with
    | zero => simp [namesF] at h
    | succ f =>
      rw [namesF_cont hq.e0] at h;have hs := contN_st h;have htk : (q.token L 1).2 = q.fail 14 (q.tok L).pos := by unfold PS.token;rw [if_neg (fun h => hk h.2)]
      rw [htk] at hs;rw [hn];obtain ⟨a,b⟩ := hs (by rw [hf];show (14 : Int) ≠ 0;decide);exact ⟨fun h0 => absurd h0 (by rw [hf];show (14 : Int) ≠ 0;decide),fun _ => ⟨a.symm,b.symm⟩⟩
theorem tok_word {L : List Tok} {q : PS} (hq : QW L q) (hk : (q.tok L).kind = 1) : q.take L [41] = (false,q) ∧ q.token L 1 = (q.tok L,{ q with i := q.i + 1 }) := by
  constructor
  · have : q.isT L [41] = false := by
      rw [isT_sign hq (s := [41]) (c := 41) (r := []) rfl (by decide)];unfold isK;rw [hk];rfl
    unfold PS.take;rw [this];rfl
  · unfold PS.token;rw [if_pos ⟨hq.e0,hk⟩]
theorem tok_txt1 {L : List Tok} {p : PS} (hw : PW L p) : (p.tok L).text.length ≤ 100000 := by rw [PS.tok_eq hw.at'];exact hw.txt _ (List.getElem_mem _)
theorem ownN_app {base base' : Nat} {w' : World} {v' : Value} {l : List (List UInt8)} {s : List UInt8} (h : w'.ownsRow base' 9 1 v' (l.length + 1) ((l.map fun s => Value.string ⟨s.toArray⟩) ++ [.string ⟨s.toArray⟩])) (hb : base ≤ base') : OwnN base w' v' (l ++ [s]) := by
  refine ownsRow_base ?_ hb
  simpa using h
theorem qNames (g : Nat) (pt : Option Addr) (cap : Nat) (L : List Tok) (f : Nat) (p : PS) (r : List (List UInt8)) (p' : PS) (hr : pNames L f p = some (r,p')) (w : World) (h : QA g pt cap L p w) (hw : QW L p) :
    Calls Tryz.prog 119 #[.pointer (some ⟨g,0,none⟩)] w (NamesQ g pt cap L w r p') := by
  have HW := Lib.hid (qWant g pt cap L p w h hw [40] 40 [] rfl (by decide))
  have hg := h.1.lt
  have Hgw := Lib.hid hg
  have hq := hw.need [40]
  unfold pNames at hr
  simp only at hr
  have hst : St (p.need L [40]) p' := by
    have := St.names (L := L) (f := f) (p := p) (r := r) (p' := p') (by unfold pNames;exact hr)
    split at hr
    · simp only [Option.some.injEq,Prod.mk.injEq] at hr
      obtain ⟨-,rfl⟩ := hr;exact .take _ _ _
    · obtain ⟨⟨r0,p0⟩,h0,h1⟩ := Option.map_eq_some_iff.1 hr
      simp only [Prod.mk.injEq] at h1;obtain ⟨-,rfl⟩ := h1;exact ((St.take _ _ _).trans (St.namesF L f _ _ _ _ h0)).trans (.need _ _ _)
  obtain ⟨q,hqq⟩ : ∃ q,p.need L [40] = q := ⟨_,rfl⟩
  rw [hqq] at hq hr hst HW
  have HR := Lib.hid hr;have HST := Lib.hid hst
  clear h hqq hr hst
  by_cases h0 : q.err = 0
  · have HQ := Lib.hid (hq h0);clear hq
    have H0 := Lib.hid h0;clear h0;have hi := HQ.out.pw.at';have hlen := HQ.out.pw.len;have HN := Lib.hid (fun (X : World) (hX : QA g pt cap L q X) => qNow g pt cap L q X hX hi hlen);unfold Tok.val at HN;have hfA := fun wx => fieldTokA (q.tok L).kind (q.tok L).num (q.tok L).pos ⟨(q.tok L).text.toArray⟩ wx
    have Htx := Lib.hid (tok_txt1 HQ.out.pw)
    by_cases hk : (q.tok L).kind = 1
    · obtain ⟨ht1,ht2⟩ := tok_word HQ.out hk
      have hr := HR.out;rw [ht1] at hr;simp only [Bool.false_eq_true,if_false] at hr;have HK := Lib.hid (fun (X : World) (hX : QA g pt cap L q X) => qAny g pt cap L q X hX HQ.out 1);rw [ht2] at HK;obtain ⟨f0,hf0⟩ : ∃ f0,(contN L f0 { q with i := q.i + 1 } (putAll [(q.tok L).text])).map (fun x => (x.1,x.2.need L [41])) = some (r,p') := by
        cases f with
        | zero => simp [namesF] at hr
        | succ f =>
          rw [namesF_cont H0.out,ht2] at hr;exact ⟨f,hr⟩
      have HF0 := Lib.hid hf0;clear hf0 hr ht1 HR;have HQ1 : Hid (QW L { q with i := q.i + 1 }) := Lib.hid (by
        have := HQ.out.token 1 (by decide) (by rw [ht2];exact H0.out);rw [ht2] at this;exact this)
      clear ht2;unfold Tok.val at HK;have hfB := fun wx => fieldTokB (q.tok L).kind (q.tok L).num (q.tok L).pos ⟨(q.tok L).text.toArray⟩ wx
      have hkb : ((q.tok L).kind == 1) = true := by simp [hk]
      generalize q.tok L = t at HN HK hfA hfB Htx HF0 hk hkb
      go_enter Tryz.func119,Tryz.ntmps119;(try simp only [List.append_eq,List.cons_append,List.nil_append])
      go_wp2_with fail
      refine HW.out.mono ?_;rintro e' w1 ⟨hok,-,ho1⟩;obtain ⟨rfl,hP1⟩ := hok H0.out;clear hok
      go_wp2_with fail
      refine (HN.out w1 hP1).mono ?_;rintro e' w2 ⟨rfl,hb2⟩;have hP2 := hP1.keep hb2;have ho2 := ho1.trans (Off.of hb2);clear hP1 ho1 hb2;rw [hk] at hfA
      go_wp2_with fail
      refine (HK.out w2 hP2).mono ?_;rintro e' w3 ⟨hok,-,ho3⟩;obtain ⟨rfl,hP3⟩ := hok H0.out;have HP3 := Lib.hid hP3;have HO3 := Lib.hid (ho2.trans ho3);have hz3 := (ho2.trans ho3).size;clear hok hP2 ho2 ho3 hP3;rw [hk] at hfB;obtain ⟨i0,hii,hz⟩ := Option.map_eq_some_iff.1 infoSN;simp only [Prod.mk.injEq] at hz;obtain ⟨hzA,hzB,hzC⟩ := hz;have HI := Lib.hid hii;have HzA := Lib.hid hzA;have HzB := Lib.hid hzB;have HzC := Lib.hid hzC;clear hii hzA hzB hzC
      go_wp2_with (at_builtin;refine wpList_append_src _ rfl _ _ _ rfl w.heap.size 9 i0 _ 1 16 Tryz.underlying25 HI.out HzA.out HzB.out HzC.out rfl (by decide) (.slice none 0 0) 0 [] rfl (World.ownsRow_nil _ _ _ _) _ 1 [.string ⟨t.text.toArray⟩] rfl (ownN_one (w := w3) (s := t.text)) (ones_one _) (by unfold maxLen;omega) (by omega) (by rw [World.size_alloc];omega) ?_;intro v4 w4 hown4 hgr4 _)
      have HOwn : Hid (OwnN w.heap.size w4 v4 [t.text]) := Lib.hid hown4;have hbl4 : Below w.heap.size w3 w4 := below_app ((Below.refl w.heap.size w3).alloc hz3 _) (World.ownsRow_nil _ w.heap.size 9 1) hgr4 (Nat.le_refl _) (by rw [World.size_alloc];omega);have HP4 := Lib.hid (HP3.out.keepB hbl4 Hgw.out);have HO4 := Lib.hid (HO3.out.upB hbl4 (Nat.le_refl _));clear hown4 hgr4 HP3 HO3 hz3 hbl4;clear hfA hfB HN HK HW
      go_loopw [3] (fun v wr => ∃ (l : List (List UInt8)) (q1 : PS) (f1 : Nat),OwnN w.heap.size wr v l ∧ QA g pt cap L q1 wr ∧ QW L q1 ∧ Off g w wr ∧ (∀ x ∈ l,x.length ≤ 100000) ∧ l.length ≤ q1.i ∧ Hid ((contN L f1 q1 (putAll l)).map (fun x => (x.1,x.2.need L [41])) = some (r,p'))) (fun _ wr => L.length - muP g wr)
      case atStart => exact ⟨[t.text],_,f0,HOwn.out,HP4.out,HQ1.out,HO4.out,by intro x hx;simp at hx;subst hx;exact Htx.out,by simp,HF0⟩
      case round =>
        obtain ⟨l,q1,f1,hown,hP,hQ1,ho,htx,hlen1,HF⟩ := hrel;have Hown := Lib.hid hown;clear hown;have Htx1 := Lib.hid htx;clear htx;have HQ1' := Lib.hid hQ1;clear hQ1;have Hlen := Lib.hid hlen1;clear hlen1;have Hmu := Lib.hid hP.tmu;have HS := Lib.hid (qSign g pt cap L q1 wr hP HQ1'.out [44] 44 [] rfl (by decide) (by decide) (by decide));have Hti := Lib.hid (PS.take_i L q1 [44]);have Ho := Lib.hid ho;clear ho hP;have hi1 := HQ1'.out.pw.at';have hl1 := HQ1'.out.pw.len;have hf := HF.out;unfold contN at hf;obtain ⟨c,hc⟩ : ∃ c,(q1.take L [44]).1 = c := ⟨_,rfl⟩;obtain ⟨q2,hq2⟩ : ∃ q2,(q1.take L [44]).2 = q2 := ⟨_,rfl⟩;rw [hc,hq2] at hf HS Hti;clear hc hq2 HF;cases c with
        | true =>
          rw [if_pos rfl] at hf;have Hf := Lib.hid hf;clear hf
          go_wp2_with fail
          refine HS.out.mono ?_;rintro e' w5 ⟨rfl,hP5,hQ2,ho5⟩;have HQ2 := Lib.hid hQ2;clear hQ2;have HK2 := Lib.hid (qAny g pt cap L q2 w5 hP5 HQ2.out 1);have Htx2 := Lib.hid (tok_txt HQ2.out.pw 1);have Hti2 := Lib.hid (PS.token_i L q2 1);obtain ⟨f2,hf2⟩ : ∃ f2,(contN L f2 (q2.token L 1).2 (putAll (l ++ [(q2.token L 1).1.text]))).map (fun x => (x.1,x.2.need L [41])) = some (r,p') := by
            cases f1 with
            | zero => have := Hf.out;simp [namesF] at this
            | succ f1 =>
              have := Hf.out;rw [namesF_cont HQ2.out.e0] at this;exact ⟨f1,by rw [putAll_snoc];exact this⟩
          have HF2 := Lib.hid hf2;clear hf2 Hf;have HQ3 := Lib.hid (fun h0 => HQ2.out.token 1 (by decide) h0);obtain ⟨tk,htk⟩ : ∃ tk,(q2.token L 1).1 = tk := ⟨_,rfl⟩;obtain ⟨q3,hq3⟩ : ∃ q3,(q2.token L 1).2 = q3 := ⟨_,rfl⟩;rw [htk,hq3] at HF2 HK2;rw [htk] at Htx2;rw [hq3] at HQ3 Hti2;clear htk hq3;unfold Tok.val at HK2;have hfB := fun wx => fieldTokB tk.kind tk.num tk.pos ⟨tk.text.toArray⟩ wx
          have Ho5 := Lib.hid (Ho.out.trans ho5);have Hown5 := Lib.hid (Hown.out.off ho5 Hgw.out);clear ho5 hP5
          by_cases h3 : q3.err = 0
          · have H3 := Lib.hid h3;clear h3
            go_wp2_with fail
            refine HK2.out.mono ?_;rintro e' w6 ⟨hok,-,ho6⟩;obtain ⟨rfl,hP6⟩ := hok H3.out;have HP6 := Lib.hid hP6;have Ho6 := Lib.hid (Ho5.out.trans ho6);have hz6 := (Ho5.out.trans ho6).size;have Hown6 := Lib.hid (Hown5.out.off ho6 Hgw.out);clear hok hP6 ho6;obtain ⟨A,cc,rfl⟩ := ownsRow_slice Hown6.out;have hll : l.length ≤ 100000 := by have := Hlen.out;omega
            go_wp2_with (at_builtin;refine wpList_append_src _ rfl _ _ _ rfl w.heap.size 9 i0 _ 1 16 Tryz.underlying25 HI.out HzA.out HzB.out HzC.out rfl (by decide) (.slice A l.length cc) l.length (l.map fun s : List UInt8 => Value.string ⟨s.toArray⟩) rfl (ownsRow_keep Hown6.out ((Below.refl w6.heap.size w6).alloc (Nat.le_refl _) _)) _ 1 [.string ⟨tk.text.toArray⟩] rfl (ownN_one (w := w6) (s := tk.text)) (ones_one _) (by unfold maxLen;omega) (by omega) (by rw [World.size_alloc];omega) ?_;intro v7 w7 hown7 hgr7 _)
            have Hown7 : Hid (OwnN w.heap.size w7 v7 (l ++ [tk.text])) := Lib.hid (ownN_app hown7 (Nat.le_refl _));have hbl7 : Below w.heap.size w6 w7 := below_app ((Below.refl w.heap.size w6).alloc hz6 _) (ownsRow_keep Hown6.out ((Below.refl w6.heap.size w6).alloc (Nat.le_refl _) _)) hgr7 (Nat.le_refl _) (by rw [World.size_alloc];omega);have HP7 := Lib.hid (HP6.out.keepB hbl7 Hgw.out);have HO7 := Lib.hid (Ho6.out.upB hbl7 (Nat.le_refl _));clear hown7 hgr7 hbl7;refine ⟨⟨l ++ [tk.text],q3,f2,Hown7.out,HP7.out,HQ3.out H3.out,HO7.out,fun x hx => ?_,?_,HF2⟩,?_⟩
            · rcases List.mem_append.1 hx with hx | hx
              · exact Htx1.out x hx
              · simp at hx;subst hx;exact Htx2.out
            · have := Hti.out.2 (by first | rfl | trivial);have := Hti2.out;have := Hlen.out;simp only [List.length_append,List.length_cons,List.length_nil];omega
            · have := Hti.out.2 (by first | rfl | trivial);have := Hti2.out;rw [HP7.out.tmu,Hmu.out];have := (HQ3.out H3.out).pw.at';omega
          · have H3 := Lib.hid h3;clear h3
            go_wp2_with fail
            refine HK2.out.mono ?_;rintro e' w6 ⟨-,hbad,ho6⟩;obtain rfl := hbad H3.out;exact ⟨rfl,NamesQ.bad H3.out (contN_st HF2.out) (Ho5.out.trans ho6)⟩
        | false =>
          rw [if_neg (by simp)] at hf;simp only [Option.map_some,Option.some.injEq,Prod.mk.injEq] at hf;obtain ⟨hf1,hf2⟩ := hf;have Hf1 := Lib.hid hf1;clear hf1
          go_wp2_with fail
          refine HS.out.mono ?_;rintro e' w5 ⟨rfl,hP5,hQ2,ho5⟩;have HW5 := Lib.hid (qWant g pt cap L q2 w5 hP5 hQ2 [41] 41 [] rfl (by decide));rw [hf2] at HW5;have Ho5 := Lib.hid (Ho.out.trans ho5);have Hown5 := Lib.hid (Hown.out.off ho5 Hgw.out);have hll : l.length ≤ 100000 := by have := Hlen.out;omega
          clear ho5 hP5 hf2 hQ2 HS
          by_cases h3 : p'.err = 0
          · have H3 := Lib.hid h3;clear h3
            go_wp2_with fail
            refine HW5.out.mono ?_;rintro e' w6 ⟨hok,-,ho6⟩;obtain ⟨rfl,hP6⟩ := hok H3.out;have Ho6 := Lib.hid (Ho5.out.trans ho6);have Hown6 := Lib.hid (Hown5.out.off ho6 Hgw.out);clear hok ho6
            go_wp2_with fail
            refine (qSort Hown6.out (by omega)).mono ?_;rintro e' w7 ⟨rfl,hown7,hb7⟩;have hP7 := hP6.keepB hb7 Hgw.out;have Ho7 := Lib.hid (Ho6.out.upB hb7 (Nat.le_refl _));clear hb7 hP6
            go_wp2_with fail
            refine (qCompact hown7 (by rw [List.length_mergeSort];omega)).mono ?_;rintro e' w8 ⟨v8,rfl,hown8,hb8⟩;rw [sort_compact,Hf1.out] at hown8
            go_wp2_with fail
            go_ret;exact NamesQ.ok H3.out hown8 (hP7.keepB hb8 Hgw.out) (Ho7.out.upB hb8 (Nat.le_refl _))
          · have H3 := Lib.hid h3;clear h3
            go_wp2_with fail
            refine HW5.out.mono ?_;rintro e' w6 ⟨-,hbad,ho6⟩;obtain rfl := hbad H3.out;exact ⟨rfl,NamesQ.bad H3.out (.refl _) (Ho5.out.trans ho6)⟩
    · obtain ⟨hn1,hn2⟩ := names_none HQ.out hk HR.out
      have Hn1 := Lib.hid hn1;have Hn2 := Lib.hid hn2;clear hn1 hn2 HR;have HW2 := Lib.hid (fun (X : World) (hX : QA g pt cap L q X) => qWant g pt cap L q X hX HQ.out [41] 41 [] rfl (by decide));generalize q.need L [41] = q2 at HW2 Hn1 Hn2;have hkb : ((q.tok L).kind == 1) = false := by simpa using hk
      clear hk
      go_enter Tryz.func119,Tryz.ntmps119;(try simp only [List.append_eq,List.cons_append,List.nil_append])
      go_wp2_with fail
      refine HW.out.mono ?_;rintro e' w1 ⟨hok,-,ho1⟩;obtain ⟨rfl,hP1⟩ := hok H0.out;clear hok
      go_wp2_with fail
      refine (HN.out w1 hP1).mono ?_;rintro e' w2 ⟨rfl,hb2⟩;have hP2 := hP1.keep hb2;have ho2 := ho1.trans (Off.of hb2);clear hP1 ho1 hb2
      by_cases h3 : q2.err = 0
      · obtain ⟨rfl,rfl⟩ := Hn1.out h3
        have H3 := Lib.hid h3;clear h3
        go_wp2_with fail
        refine (HW2.out w2 hP2).mono ?_;rintro e' w6 ⟨hok,-,ho6⟩;obtain ⟨rfl,hP6⟩ := hok H3.out;have Ho6 := Lib.hid (ho2.trans ho6);have hownN : OwnN w.heap.size w6 (.slice none 0 0) [] := World.ownsRow_nil _ _ _ _;clear hok ho6 ho2 hP2
        go_wp2_with fail
        refine (qSort hownN (by simp)).mono ?_;rintro e' w7 ⟨rfl,hown7,hb7⟩;have hP7 := hP6.keepB hb7 Hgw.out;have Ho7 := Lib.hid (Ho6.out.upB hb7 (Nat.le_refl _));clear hb7 hP6
        go_wp2_with fail
        refine (qCompact hown7 (by simp)).mono ?_;rintro e' w8 ⟨v8,rfl,hown8,hb8⟩;rw [sort_compact] at hown8
        go_wp2_with fail
        go_ret;exact NamesQ.ok H3.out hown8 (hP7.keepB hb8 Hgw.out) (Ho7.out.upB hb8 (Nat.le_refl _))
      · obtain ⟨a,b⟩ := Hn2.out h3
        have H3 := Lib.hid h3;clear h3;have Ha := Lib.hid a;have Hb := Lib.hid b;clear a b
        go_wp2_with fail
        refine (HW2.out w2 hP2).mono ?_;rintro e' w6 ⟨-,hbad,ho6⟩;obtain rfl := hbad H3.out;exact ⟨rfl,NamesQ.bad H3.out (fun _ => ⟨Ha.out.symm,Hb.out.symm⟩) (ho2.trans ho6)⟩
  · have H0 := Lib.hid h0;clear h0
    go_enter Tryz.func119,Tryz.ntmps119;(try simp only [List.append_eq,List.cons_append,List.nil_append])
    go_wp2_with fail
    refine HW.out.mono ?_;rintro e' w1 ⟨-,hbad,ho1⟩;obtain rfl := hbad H0.out;exact ⟨rfl,NamesQ.bad H0.out HST.out ho1⟩
end Go.Proofs.YtpmbamfpmmdhcaaGreat
