/- The program's parser: term, sum. (PRINTED by gen_qterm.py.) -/
import Derived.Test.YtpmbamfpmmdhcaaGreatK24
import Derived.Test.YtpmbamfpmmdhcaaGreatK18
set_option maxRecDepth 100000
set_option maxHeartbeats 16000000
namespace Go.Proofs.YtpmbamfpmmdhcaaGreat
open Go.RowKit
set_option linter.unusedSimpArgs false
set_option linter.unusedVariables false
def GathQ (g : Nat) (pt : Option Addr) (cap : Nat) (L : List Tok) (w : World) (b : Nat) (x : Ex) (p : PS) (wr : World) : Prop :=
  ∃ cs,Blk wr b 28 cs ∧ ExS (fun k => w.heap.size < k ∧ k ≠ b) wr x cs ∧ QA g pt cap L p wr ∧ QW L p ∧ Off g w wr ∧ w.heap.size + 1 ≤ b ∧ Blk wr w.heap.size 28 ZX
def TermI (g : Nat) (pt : Option Addr) (cap : Nat) (L : List Tok) (w : World) (b f : Nat) (e : Ex) (p' : PS) (wr : World) : Prop := ∃ (x : Ex) (p1 : PS) (f' : Nat),GathQ g pt cap L w b x p1 wr ∧ f' ≤ f ∧ pTerms L f' x p1 = some (e,p')
def SumI (g : Nat) (pt : Option Addr) (cap : Nat) (L : List Tok) (w : World) (b f : Nat) (e : Ex) (p' : PS) (wr : World) : Prop := ∃ (x : Ex) (p1 : PS) (f' : Nat),GathQ g pt cap L w b x p1 wr ∧ f' ≤ f ∧ pSums L f' x p1 = some (e,p')
theorem qTermQ (g : Nat) (pt : Option Addr) (cap : Nat) (L : List Tok) (f : Nat) (hA : AtomQ g pt cap L f) (hS : ∀ f',f' < f → StpQ g pt cap L f') :
    TermQ g pt cap L (f + 1) := by
  intro p e p' hr hw w h
  rw [pTerm] at hr
  cases ha : pAtom L f p with
  | none => rw [ha] at hr;cases hr
  | some a =>
  obtain ⟨x0,q0⟩ := a
  rw [ha] at hr
  have HA := Lib.hid (fun (X : World) (hX : QA g pt cap L p X) => hA _ _ _ ha hw X hX)
  have Hw0 : Hid (q0.err = 0 → QW L q0) := Lib.hid (fun h0 => ⟨((keeps L f).atom _ _ _ ha hw.pw).1,hw.tw,h0⟩)
  have HR := Lib.hid (show pTerms L f x0 q0 = some (e,p') from hr)
  have Hst0 := Lib.hid ((sts L f).terms _ _ _ _ HR.out) 
  have hg := h.1.lt
  have Hgw := Lib.hid hg
  have hmf : ∀ (fn : Fn) (first cap : Array Value) (w : World),(Instr.makeFunc fn first cap).run Tryz.prog w = .ok (.func fn first cap) w := fun _ _ _ _ => rfl
  clear hr ha hA
  go_enter Tryz.func89,Tryz.ntmps89;(try simp only [List.append_eq,List.cons_append,List.nil_append])
  go_wp2_with fail
  have hZ := Blk.new w ZX 28
  refine (HA.out _ (qa_alloc h _)).mono ?_
  rintro e' w1 ⟨hok,hbad,ho1⟩
  have hZ1 := ho1.blkX hZ (Nat.ne_of_gt hg)
  have ho1 := (off_alloc (Off.refl g w) (.cells ZX.toArray 28)).trans ho1
  by_cases hx : q0.err ≠ 0
  · obtain rfl := hbad hx
    exact ⟨rfl,ExQ.bad hx Hst0.out ho1⟩
  have hx0 : q0.err = 0 := Decidable.not_not.1 hx
  obtain ⟨cs,rfl,hx1,hP1⟩ := hok hx0
  have hw0 := Hw0.out hx0
  obtain ⟨pm,cm,pn,cn,pk,ck,rfl,-⟩ := IsEx.cellsE hx1
  clear hok hbad hx hx0 Hw0 Hst0
  go_wp2_with fail
  have hlt1 := hZ1.lt
  have hg1 := hP1.1.lt
  have hbl : Below w1.heap.size w1 (w1.alloc (.cells ([.int .i64 x0.kind,.int .i64 x0.fn,.int .i64 x0.op,.int .i64 x0.num,.string x0.metric,.slice pm x0.mats.length cm,.int .i64 x0.span,.slice pn x0.names.length cn,.slice pk x0.kids.length ck] : List Value).toArray 28)) := (Below.refl _ _).alloc (Nat.le_refl _) _
  have hB := Blk.new w1 [.int .i64 x0.kind,.int .i64 x0.fn,.int .i64 x0.op,.int .i64 x0.num,.string x0.metric,.slice pm x0.mats.length cm,.int .i64 x0.span,.slice pn x0.names.length cn,.slice pk x0.kids.length ck] 28
  have hG : GathQ g pt cap L w w1.heap.size x0 q0 (w1.alloc (.cells ([.int .i64 x0.kind,.int .i64 x0.fn,.int .i64 x0.op,.int .i64 x0.num,.string x0.metric,.slice pm x0.mats.length cm,.int .i64 x0.span,.slice pn x0.names.length cn,.slice pk x0.kids.length ck] : List Value).toArray 28)) :=
    ⟨_,hB,(hx1.go (S' := fun k => w.heap.size < k ∧ k ≠ w1.heap.size) (Nat.le_refl _) (fun k hk h => by have h : (w.alloc (.cells ZX.toArray 28)).heap.size ≤ k := h;rw [World.size_alloc] at h;show w.heap.size < k ∧ k ≠ w1.heap.size;omega) (fun _ _ _ => rfl)).below hbl,hP1.keep hbl,hw0,ho1.trans (Off.of (g := g) hbl),by omega,hZ1.keep hbl⟩
  generalize w1.alloc (.cells ([.int .i64 x0.kind,.int .i64 x0.fn,.int .i64 x0.op,.int .i64 x0.num,.string x0.metric,.slice pm x0.mats.length cm,.int .i64 x0.span,.slice pn x0.names.length cn,.slice pk x0.kids.length ck] : List Value).toArray 28) = X at hG hB hbl
  obtain ⟨b,hb⟩ : ∃ b,w1.heap.size = b := ⟨_,rfl⟩
  rw [hb] at hG ⊢
  clear hB hbl hb hx1 hP1 ho1 hZ1 hZ
  have HG := Lib.hid hG;clear hG
  have HS := Lib.hid hS;clear hS
  go_loopw [] (fun wr => TermI g pt cap L w b f e p' wr) (fun wr => L.length - muP g wr)
  case atStart => exact ⟨x0,q0,f,HG.out,Nat.le_refl _,HR.out⟩
  case round =>
    obtain ⟨x,p1,f',⟨cs,hB,hx,hP,hW,ho,hwb,hZ⟩,hf',hr⟩ := hrel;obtain ⟨f2,rfl⟩ : ∃ f2,f' = f2 + 1 := by
      cases f' with
      | zero => simp [pTerms] at hr
      | succ f2 => exact ⟨f2,rfl⟩
    rw [pTerms] at hr;have hgr := hP.1.lt;have Hmu := Lib.hid hP.tmu;have HZ := Lib.hid hZ;have Ho := Lib.hid ho;have Hx := Lib.hid hx;have HB := Lib.hid hB;have Hwb := Lib.hid hwb;clear hZ ho hx hB hwb;obtain ⟨pm,cm,pn,cn,pk,ck,rfl,-⟩ := IsEx.cellsE Hx.out;have hti := PS.take_i L p1 [42];have HT := Lib.hid (qSign g pt cap L p1 wr hP hW [42] 42 [] rfl (by decide) (by decide) (by decide));obtain ⟨c,hc⟩ : ∃ c,(p1.take L [42]).1 = c := ⟨_,rfl⟩;obtain ⟨q,hq⟩ : ∃ q,(p1.take L [42]).2 = q := ⟨_,rfl⟩;rw [hc,hq] at hr hti HT;have Hti := Lib.hid hti;clear hc hq hti hP hW;cases c with
    | true =>
      rw [if_pos rfl] at hr;cases hs : pStep L f2 3 x false q with
      | none => rw [hs] at hr;cases hr
      | some a =>
      obtain ⟨y,q2⟩ := a;rw [hs] at hr;have hr : pTerms L f2 y q2 = some (e,p') := hr;have HR2 := Lib.hid hr;have Hs := Lib.hid hs;clear hr hs HR
      go_wp2_with fail
      refine HT.out.mono ?_;rintro e' w3 ⟨rfl,hP3,hW3,ho3⟩;have HQ3 := Lib.hid hW3;have hB3 := ho3.blkX HB.out (show b ≠ g by have := Hgw.out;have := Hwb.out;omega);have HZ3 := Lib.hid (ho3.blkX HZ.out (show w.heap.size ≠ g by have := Hgw.out;omega));have hx3 := Hx.out.off ho3 (show ¬ (w.heap.size < g ∧ g ≠ b) by have := Hgw.out;omega);have HO3 := Lib.hid (Ho.out.trans ho3);have hb3 := hB3.lt;have d0 := hB3.cell 0 _ rfl;have d1 := hB3.cell 1 _ rfl;have d2 := hB3.cell 2 _ rfl;have d3 := hB3.cell 3 _ rfl;have d4 := hB3.cell 4 _ rfl;have d5 := hB3.cell 5 _ rfl;have d6 := hB3.cell 6 _ rfl;have d7 := hB3.cell 7 _ rfl;have d8 := hB3.cell 8 _ rfl;have HB3 := Lib.hid hB3;clear HB HZ Hx Ho hB3 hW3 ho3 HT
      go_wp2_with fail
      refine (HS.out f2 (by omega) 3 x false q y q2 Hs.out HQ3.out _ _ w3 (show ¬ (w.heap.size < g ∧ g ≠ b) by have := Hgw.out;omega) hP3 hx3).mono ?_;rintro e' w4 ⟨hok,hbad,ho4⟩
      by_cases hx : q2.err ≠ 0
      · obtain rfl := hbad hx
        exact ⟨rfl,ExQ.bad hx ((sts L f2).terms _ _ _ _ HR2.out) (HO3.out.trans ho4)⟩
      have hx0 : q2.err = 0 := Decidable.not_not.1 hx;obtain ⟨cs',rfl,hy4,hP4⟩ := hok hx0;obtain ⟨qm,dm,qn,dn,qk,dk,rfl,-⟩ := IsEx.cellsE hy4;obtain ⟨k1,k2,-⟩ := (keeps L f2).step _ _ _ _ _ _ Hs.out HQ3.out.pw;have HQ2 : Hid (QW L q2 ∧ q.i ≤ q2.i) := Lib.hid ⟨⟨k1,HQ3.out.tw,hx0⟩,k2⟩;have HB4 := Lib.hid (ho4.blkX HB3.out (show b ≠ g by have := Hgw.out;have := Hwb.out;omega));have HZ4 := Lib.hid (ho4.blkX HZ3.out (show w.heap.size ≠ g by have := Hgw.out;omega));have HO4 := Lib.hid (HO3.out.trans ho4);have HY4 := Lib.hid hy4;have HP4 := Lib.hid hP4;have hsz3 : w.heap.size < w3.heap.size := HZ3.out.lt;have hb4 : b < w3.heap.size := HB3.out.lt;clear HB3 HZ3 hx3 HO3 hP3 hy4 hP4 ho4 hok hbad hx hx0 k1 k2 d0 d1 d2 d3 d4 d5 d6 d7 d8
      go_wp2_with (refine wpList_store_row rfl 28 _ _ rfl b ([.int .i64 y.kind,.int .i64 y.fn,.int .i64 y.op,.int .i64 y.num,.string y.metric,.slice qm y.mats.length dm,.int .i64 y.span,.slice qn y.names.length dn,.slice qk y.kids.length dk] : List Value).toArray rfl rfl 28 _ HB4.out (by kernel_rfl) rfl (by kernel_rfl) ?_)
      have hs5 : (w4.setRow b ([.int .i64 y.kind,.int .i64 y.fn,.int .i64 y.op,.int .i64 y.num,.string y.metric,.slice qm y.mats.length dm,.int .i64 y.span,.slice qn y.names.length dn,.slice qk y.kids.length dk] : List Value).toArray).heap.size = w4.heap.size := setRow_size _ _ _;have hP5 := HP4.out.row (show g < b by have := Hgw.out;have := Hwb.out;omega) ([.int .i64 y.kind,.int .i64 y.fn,.int .i64 y.op,.int .i64 y.num,.string y.metric,.slice qm y.mats.length dm,.int .i64 y.span,.slice qn y.names.length dn,.slice qk y.kids.length dk] : List Value).toArray;have hI : TermI g pt cap L w b f e p' (w4.setRow b ([.int .i64 y.kind,.int .i64 y.fn,.int .i64 y.op,.int .i64 y.num,.string y.metric,.slice qm y.mats.length dm,.int .i64 y.span,.slice qn y.names.length dn,.slice qk y.kids.length dk] : List Value).toArray) := ⟨y,q2,f2,⟨_,HB4.out.row [.int .i64 y.kind,.int .i64 y.fn,.int .i64 y.op,.int .i64 y.num,.string y.metric,.slice qm y.mats.length dm,.int .i64 y.span,.slice qn y.names.length dn,.slice qk y.kids.length dk],HY4.out.go (by rw [hs5];exact Nat.le_refl _) (fun k hk h => by
          rcases h with h | h
          · exact h
          · have h : w3.heap.size ≤ k := h;show w.heap.size < k ∧ k ≠ b;omega) (fun k hk h => setRow_far _ _ _ (by
          rcases h with h | h
          · exact h.2
          · have h : w3.heap.size ≤ k := h;omega)),hP5,HQ2.out.1,HO4.out.rowNew (by have := Hwb.out;omega) _,Hwb.out,(setRow_far _ _ _ (show w.heap.size ≠ b by have := Hwb.out;omega)).trans HZ4.out⟩,by omega,HR2.out⟩
      refine ⟨?_,?_⟩
      · first | exact hI | ((repeat apply Exists.intro);exact ⟨hI,rfl⟩)
      · rw [hP5.tmu,Hmu.out];have := Hti.out.2 (by first | rfl | trivial);have := HQ2.out.2;have := HQ2.out.1.pw.at';omega
    | false =>
      rw [if_neg (by simp)] at hr;simp only [Option.some.injEq,Prod.mk.injEq] at hr;obtain ⟨rfl,rfl⟩ := hr;clear HR
      go_wp2_with fail
      refine HT.out.mono ?_;rintro e' w3 ⟨rfl,hP3,hW3,ho3⟩;have H0 := Lib.hid hW3.e0;have hB3 := ho3.blkX HB.out (show b ≠ g by have := Hgw.out;have := Hwb.out;omega);have HZ3 := Lib.hid (ho3.blkX HZ.out (show w.heap.size ≠ g by have := Hgw.out;omega));have HX3 := Lib.hid (Hx.out.off ho3 (show ¬ (w.heap.size < g ∧ g ≠ b) by have := Hgw.out;omega));have HO3 := Lib.hid (Ho.out.trans ho3);have HP3 := Lib.hid hP3;have hb3 := hB3.lt;have d0 := hB3.cell 0 _ rfl;have d1 := hB3.cell 1 _ rfl;have d2 := hB3.cell 2 _ rfl;have d3 := hB3.cell 3 _ rfl;have d4 := hB3.cell 4 _ rfl;have d5 := hB3.cell 5 _ rfl;have d6 := hB3.cell 6 _ rfl;have d7 := hB3.cell 7 _ rfl;have d8 := hB3.cell 8 _ rfl;clear HB HZ Hx Ho hP3 ho3 hB3 hW3
      go_wp2_with (refine wpList_store_row rfl 28 _ _ rfl w.heap.size ([.int .i64 x.kind,.int .i64 x.fn,.int .i64 x.op,.int .i64 x.num,.string x.metric,.slice pm x.mats.length cm,.int .i64 x.span,.slice pn x.names.length cn,.slice pk x.kids.length ck] : List Value).toArray rfl rfl 28 _ HZ3.out (by kernel_rfl) rfl (by kernel_rfl) ?_)
      exact bodyPost_agg (d := _) rfl rfl (setRow_at HZ3.out _) Tryz.underlying28 rfl (by kernel_rfl) rfl (exQ_close H0.out HX3.out HP3.out HO3.out (Nat.le_refl _) Hgw.out (show ¬ (w.heap.size < w.heap.size ∧ _) by omega) (fun k _ h => by have h : w.heap.size < k ∧ k ≠ b := h;show w.heap.size ≤ k;omega))
theorem qSumQ (g : Nat) (pt : Option Addr) (cap : Nat) (L : List Tok) (f : Nat) (hA : TermQ g pt cap L f) (hS : ∀ f',f' < f → StpQ g pt cap L f') :
    SumQ g pt cap L (f + 1) := by
  intro p e p' hr hw w h
  rw [pSum] at hr
  cases ha : pTerm L f p with
  | none => rw [ha] at hr;cases hr
  | some a =>
  obtain ⟨x0,q0⟩ := a
  rw [ha] at hr
  have HA := Lib.hid (fun (X : World) (hX : QA g pt cap L p X) => hA _ _ _ ha hw X hX)
  have Hw0 : Hid (q0.err = 0 → QW L q0) := Lib.hid (fun h0 => ⟨((keeps L f).term _ _ _ ha hw.pw).1,hw.tw,h0⟩)
  have HR := Lib.hid (show pSums L f x0 q0 = some (e,p') from hr)
  have Hst0 := Lib.hid ((sts L f).sums _ _ _ _ HR.out) 
  have hg := h.1.lt
  have Hgw := Lib.hid hg
  have hmf : ∀ (fn : Fn) (first cap : Array Value) (w : World),(Instr.makeFunc fn first cap).run Tryz.prog w = .ok (.func fn first cap) w := fun _ _ _ _ => rfl
  clear hr ha hA
  go_enter Tryz.func56,Tryz.ntmps56;(try simp only [List.append_eq,List.cons_append,List.nil_append])
  go_wp2_with fail
  have hZ := Blk.new w ZX 28
  refine (HA.out _ (qa_alloc h _)).mono ?_
  rintro e' w1 ⟨hok,hbad,ho1⟩
  have hZ1 := ho1.blkX hZ (Nat.ne_of_gt hg)
  have ho1 := (off_alloc (Off.refl g w) (.cells ZX.toArray 28)).trans ho1
  by_cases hx : q0.err ≠ 0
  · obtain rfl := hbad hx
    exact ⟨rfl,ExQ.bad hx Hst0.out ho1⟩
  have hx0 : q0.err = 0 := Decidable.not_not.1 hx
  obtain ⟨cs,rfl,hx1,hP1⟩ := hok hx0
  have hw0 := Hw0.out hx0
  obtain ⟨pm,cm,pn,cn,pk,ck,rfl,-⟩ := IsEx.cellsE hx1
  clear hok hbad hx hx0 Hw0 Hst0
  go_wp2_with fail
  have hlt1 := hZ1.lt
  have hg1 := hP1.1.lt
  have hbl : Below w1.heap.size w1 (w1.alloc (.cells ([.int .i64 x0.kind,.int .i64 x0.fn,.int .i64 x0.op,.int .i64 x0.num,.string x0.metric,.slice pm x0.mats.length cm,.int .i64 x0.span,.slice pn x0.names.length cn,.slice pk x0.kids.length ck] : List Value).toArray 28)) := (Below.refl _ _).alloc (Nat.le_refl _) _
  have hB := Blk.new w1 [.int .i64 x0.kind,.int .i64 x0.fn,.int .i64 x0.op,.int .i64 x0.num,.string x0.metric,.slice pm x0.mats.length cm,.int .i64 x0.span,.slice pn x0.names.length cn,.slice pk x0.kids.length ck] 28
  have hG : GathQ g pt cap L w w1.heap.size x0 q0 (w1.alloc (.cells ([.int .i64 x0.kind,.int .i64 x0.fn,.int .i64 x0.op,.int .i64 x0.num,.string x0.metric,.slice pm x0.mats.length cm,.int .i64 x0.span,.slice pn x0.names.length cn,.slice pk x0.kids.length ck] : List Value).toArray 28)) :=
    ⟨_,hB,(hx1.go (S' := fun k => w.heap.size < k ∧ k ≠ w1.heap.size) (Nat.le_refl _) (fun k hk h => by have h : (w.alloc (.cells ZX.toArray 28)).heap.size ≤ k := h;rw [World.size_alloc] at h;show w.heap.size < k ∧ k ≠ w1.heap.size;omega) (fun _ _ _ => rfl)).below hbl,hP1.keep hbl,hw0,ho1.trans (Off.of (g := g) hbl),by omega,hZ1.keep hbl⟩
  generalize w1.alloc (.cells ([.int .i64 x0.kind,.int .i64 x0.fn,.int .i64 x0.op,.int .i64 x0.num,.string x0.metric,.slice pm x0.mats.length cm,.int .i64 x0.span,.slice pn x0.names.length cn,.slice pk x0.kids.length ck] : List Value).toArray 28) = X at hG hB hbl
  obtain ⟨b,hb⟩ : ∃ b,w1.heap.size = b := ⟨_,rfl⟩
  rw [hb] at hG ⊢
  clear hB hbl hb hx1 hP1 ho1 hZ1 hZ
  have HG := Lib.hid hG;clear hG
  have HS := Lib.hid hS;clear hS
  go_loopw [] (fun wr => SumI g pt cap L w b f e p' wr) (fun wr => L.length - muP g wr)
  case atStart => exact ⟨x0,q0,f,HG.out,Nat.le_refl _,HR.out⟩
  case round =>
    obtain ⟨x,p1,f',⟨cs,hB,hx,hP,hW,ho,hwb,hZ⟩,hf',hr⟩ := hrel;obtain ⟨f2,rfl⟩ : ∃ f2,f' = f2 + 1 := by
      cases f' with
      | zero => simp [pSums] at hr
      | succ f2 => exact ⟨f2,rfl⟩
    rw [pSums] at hr;have hgr := hP.1.lt;have Hmu := Lib.hid hP.tmu;have HZ := Lib.hid hZ;have Ho := Lib.hid ho;have Hx := Lib.hid hx;have HB := Lib.hid hB;have Hwb := Lib.hid hwb;clear hZ ho hx hB hwb;obtain ⟨pm,cm,pn,cn,pk,ck,rfl,-⟩ := IsEx.cellsE Hx.out;have hti := PS.take_i L p1 [43];have HT := Lib.hid (qSign g pt cap L p1 wr hP hW [43] 43 [] rfl (by decide) (by decide) (by decide));obtain ⟨c,hc⟩ : ∃ c,(p1.take L [43]).1 = c := ⟨_,rfl⟩;obtain ⟨q,hq⟩ : ∃ q,(p1.take L [43]).2 = q := ⟨_,rfl⟩;rw [hc,hq] at hr hti HT;have Hti := Lib.hid hti;clear hc hq hti hP hW;cases c with
    | true =>
      rw [if_pos rfl] at hr;cases hs : pStep L f2 1 x true q with
      | none => rw [hs] at hr;cases hr
      | some a =>
      obtain ⟨y,q2⟩ := a;rw [hs] at hr;have hr : pSums L f2 y q2 = some (e,p') := hr;have HR2 := Lib.hid hr;have Hs := Lib.hid hs;clear hr hs HR
      go_wp2_with fail
      refine HT.out.mono ?_;rintro e' w3 ⟨rfl,hP3,hW3,ho3⟩;have HQ3 := Lib.hid hW3;have hB3 := ho3.blkX HB.out (show b ≠ g by have := Hgw.out;have := Hwb.out;omega);have HZ3 := Lib.hid (ho3.blkX HZ.out (show w.heap.size ≠ g by have := Hgw.out;omega));have hx3 := Hx.out.off ho3 (show ¬ (w.heap.size < g ∧ g ≠ b) by have := Hgw.out;omega);have HO3 := Lib.hid (Ho.out.trans ho3);have hb3 := hB3.lt;have d0 := hB3.cell 0 _ rfl;have d1 := hB3.cell 1 _ rfl;have d2 := hB3.cell 2 _ rfl;have d3 := hB3.cell 3 _ rfl;have d4 := hB3.cell 4 _ rfl;have d5 := hB3.cell 5 _ rfl;have d6 := hB3.cell 6 _ rfl;have d7 := hB3.cell 7 _ rfl;have d8 := hB3.cell 8 _ rfl;have HB3 := Lib.hid hB3;clear HB HZ Hx Ho hB3 hW3 ho3 HT
      go_wp2_with fail
      refine (HS.out f2 (by omega) 1 x true q y q2 Hs.out HQ3.out _ _ w3 (show ¬ (w.heap.size < g ∧ g ≠ b) by have := Hgw.out;omega) hP3 hx3).mono ?_;rintro e' w4 ⟨hok,hbad,ho4⟩
      by_cases hx : q2.err ≠ 0
      · obtain rfl := hbad hx
        exact ⟨rfl,ExQ.bad hx ((sts L f2).sums _ _ _ _ HR2.out) (HO3.out.trans ho4)⟩
      have hx0 : q2.err = 0 := Decidable.not_not.1 hx;obtain ⟨cs',rfl,hy4,hP4⟩ := hok hx0;obtain ⟨qm,dm,qn,dn,qk,dk,rfl,-⟩ := IsEx.cellsE hy4;obtain ⟨k1,k2,-⟩ := (keeps L f2).step _ _ _ _ _ _ Hs.out HQ3.out.pw;have HQ2 : Hid (QW L q2 ∧ q.i ≤ q2.i) := Lib.hid ⟨⟨k1,HQ3.out.tw,hx0⟩,k2⟩;have HB4 := Lib.hid (ho4.blkX HB3.out (show b ≠ g by have := Hgw.out;have := Hwb.out;omega));have HZ4 := Lib.hid (ho4.blkX HZ3.out (show w.heap.size ≠ g by have := Hgw.out;omega));have HO4 := Lib.hid (HO3.out.trans ho4);have HY4 := Lib.hid hy4;have HP4 := Lib.hid hP4;have hsz3 : w.heap.size < w3.heap.size := HZ3.out.lt;have hb4 : b < w3.heap.size := HB3.out.lt;clear HB3 HZ3 hx3 HO3 hP3 hy4 hP4 ho4 hok hbad hx hx0 k1 k2 d0 d1 d2 d3 d4 d5 d6 d7 d8
      go_wp2_with (refine wpList_store_row rfl 28 _ _ rfl b ([.int .i64 y.kind,.int .i64 y.fn,.int .i64 y.op,.int .i64 y.num,.string y.metric,.slice qm y.mats.length dm,.int .i64 y.span,.slice qn y.names.length dn,.slice qk y.kids.length dk] : List Value).toArray rfl rfl 28 _ HB4.out (by kernel_rfl) rfl (by kernel_rfl) ?_)
      have hs5 : (w4.setRow b ([.int .i64 y.kind,.int .i64 y.fn,.int .i64 y.op,.int .i64 y.num,.string y.metric,.slice qm y.mats.length dm,.int .i64 y.span,.slice qn y.names.length dn,.slice qk y.kids.length dk] : List Value).toArray).heap.size = w4.heap.size := setRow_size _ _ _;have hP5 := HP4.out.row (show g < b by have := Hgw.out;have := Hwb.out;omega) ([.int .i64 y.kind,.int .i64 y.fn,.int .i64 y.op,.int .i64 y.num,.string y.metric,.slice qm y.mats.length dm,.int .i64 y.span,.slice qn y.names.length dn,.slice qk y.kids.length dk] : List Value).toArray;have hI : SumI g pt cap L w b f e p' (w4.setRow b ([.int .i64 y.kind,.int .i64 y.fn,.int .i64 y.op,.int .i64 y.num,.string y.metric,.slice qm y.mats.length dm,.int .i64 y.span,.slice qn y.names.length dn,.slice qk y.kids.length dk] : List Value).toArray) := ⟨y,q2,f2,⟨_,HB4.out.row [.int .i64 y.kind,.int .i64 y.fn,.int .i64 y.op,.int .i64 y.num,.string y.metric,.slice qm y.mats.length dm,.int .i64 y.span,.slice qn y.names.length dn,.slice qk y.kids.length dk],HY4.out.go (by rw [hs5];exact Nat.le_refl _) (fun k hk h => by
          rcases h with h | h
          · exact h
          · have h : w3.heap.size ≤ k := h;show w.heap.size < k ∧ k ≠ b;omega) (fun k hk h => setRow_far _ _ _ (by
          rcases h with h | h
          · exact h.2
          · have h : w3.heap.size ≤ k := h;omega)),hP5,HQ2.out.1,HO4.out.rowNew (by have := Hwb.out;omega) _,Hwb.out,(setRow_far _ _ _ (show w.heap.size ≠ b by have := Hwb.out;omega)).trans HZ4.out⟩,by omega,HR2.out⟩
      refine ⟨?_,?_⟩
      · first | exact hI | ((repeat apply Exists.intro);exact ⟨hI,rfl⟩)
      · rw [hP5.tmu,Hmu.out];have := Hti.out.2 (by first | rfl | trivial);have := HQ2.out.2;have := HQ2.out.1.pw.at';omega
    | false =>
      rw [if_neg (by simp)] at hr;simp only at hr;have htd := PS.take_i L q [45];have HTd := Lib.hid (fun (hW : QW L q) (X : World) (hX : QA g pt cap L q X) => qSign g pt cap L q X hX hW [45] 45 [] rfl (by decide) (by decide) (by decide));obtain ⟨c,hc⟩ : ∃ c,(q.take L [45]).1 = c := ⟨_,rfl⟩;obtain ⟨qd,hq⟩ : ∃ q',(q.take L [45]).2 = q' := ⟨_,rfl⟩;rw [hc,hq] at hr htd HTd;have Htd := Lib.hid htd;clear hc hq htd;cases c with
      | true =>
        rw [if_pos rfl] at hr;cases hs : pStep L f2 2 x true qd with
        | none => rw [hs] at hr;cases hr
        | some a =>
        obtain ⟨y,q2⟩ := a;rw [hs] at hr;have hr : pSums L f2 y q2 = some (e,p') := hr;have HR2 := Lib.hid hr;have Hs := Lib.hid hs;clear hr hs HR
        go_wp2_with fail
        refine HT.out.mono ?_;rintro e' w3 ⟨rfl,hP3,hW3,ho3⟩;have HB := Lib.hid (ho3.blkX HB.out (show b ≠ g by have := Hgw.out;have := Hwb.out;omega));have HZ := Lib.hid (ho3.blkX HZ.out (show w.heap.size ≠ g by have := Hgw.out;omega));have Hx := Lib.hid (Hx.out.off ho3 (show ¬ (w.heap.size < g ∧ g ≠ b) by have := Hgw.out;omega));have Ho := Lib.hid (Ho.out.trans ho3);have HT := Lib.hid (HTd.out hW3 _ hP3);clear hP3 hW3 ho3 HTd
        go_wp2_with fail
        refine HT.out.mono ?_;rintro e' w3 ⟨rfl,hP3,hW3,ho3⟩;have HQ3 := Lib.hid hW3;have hB3 := ho3.blkX HB.out (show b ≠ g by have := Hgw.out;have := Hwb.out;omega);have HZ3 := Lib.hid (ho3.blkX HZ.out (show w.heap.size ≠ g by have := Hgw.out;omega));have hx3 := Hx.out.off ho3 (show ¬ (w.heap.size < g ∧ g ≠ b) by have := Hgw.out;omega);have HO3 := Lib.hid (Ho.out.trans ho3);have hb3 := hB3.lt;have d0 := hB3.cell 0 _ rfl;have d1 := hB3.cell 1 _ rfl;have d2 := hB3.cell 2 _ rfl;have d3 := hB3.cell 3 _ rfl;have d4 := hB3.cell 4 _ rfl;have d5 := hB3.cell 5 _ rfl;have d6 := hB3.cell 6 _ rfl;have d7 := hB3.cell 7 _ rfl;have d8 := hB3.cell 8 _ rfl;have HB3 := Lib.hid hB3;clear HB HZ Hx Ho hB3 hW3 ho3 HT
        go_wp2_with fail
        refine (HS.out f2 (by omega) 2 x true qd y q2 Hs.out HQ3.out _ _ w3 (show ¬ (w.heap.size < g ∧ g ≠ b) by have := Hgw.out;omega) hP3 hx3).mono ?_;rintro e' w4 ⟨hok,hbad,ho4⟩
        by_cases hx : q2.err ≠ 0
        · obtain rfl := hbad hx
          exact ⟨rfl,ExQ.bad hx ((sts L f2).sums _ _ _ _ HR2.out) (HO3.out.trans ho4)⟩
        have hx0 : q2.err = 0 := Decidable.not_not.1 hx;obtain ⟨cs',rfl,hy4,hP4⟩ := hok hx0;obtain ⟨qm,dm,qn,dn,qk,dk,rfl,-⟩ := IsEx.cellsE hy4;obtain ⟨k1,k2,-⟩ := (keeps L f2).step _ _ _ _ _ _ Hs.out HQ3.out.pw;have HQ2 : Hid (QW L q2 ∧ qd.i ≤ q2.i) := Lib.hid ⟨⟨k1,HQ3.out.tw,hx0⟩,k2⟩;have HB4 := Lib.hid (ho4.blkX HB3.out (show b ≠ g by have := Hgw.out;have := Hwb.out;omega));have HZ4 := Lib.hid (ho4.blkX HZ3.out (show w.heap.size ≠ g by have := Hgw.out;omega));have HO4 := Lib.hid (HO3.out.trans ho4);have HY4 := Lib.hid hy4;have HP4 := Lib.hid hP4;have hsz3 : w.heap.size < w3.heap.size := HZ3.out.lt;have hb4 : b < w3.heap.size := HB3.out.lt;clear HB3 HZ3 hx3 HO3 hP3 hy4 hP4 ho4 hok hbad hx hx0 k1 k2 d0 d1 d2 d3 d4 d5 d6 d7 d8
        go_wp2_with (refine wpList_store_row rfl 28 _ _ rfl b ([.int .i64 y.kind,.int .i64 y.fn,.int .i64 y.op,.int .i64 y.num,.string y.metric,.slice qm y.mats.length dm,.int .i64 y.span,.slice qn y.names.length dn,.slice qk y.kids.length dk] : List Value).toArray rfl rfl 28 _ HB4.out (by kernel_rfl) rfl (by kernel_rfl) ?_)
        have hs5 : (w4.setRow b ([.int .i64 y.kind,.int .i64 y.fn,.int .i64 y.op,.int .i64 y.num,.string y.metric,.slice qm y.mats.length dm,.int .i64 y.span,.slice qn y.names.length dn,.slice qk y.kids.length dk] : List Value).toArray).heap.size = w4.heap.size := setRow_size _ _ _;have hP5 := HP4.out.row (show g < b by have := Hgw.out;have := Hwb.out;omega) ([.int .i64 y.kind,.int .i64 y.fn,.int .i64 y.op,.int .i64 y.num,.string y.metric,.slice qm y.mats.length dm,.int .i64 y.span,.slice qn y.names.length dn,.slice qk y.kids.length dk] : List Value).toArray;have hI : SumI g pt cap L w b f e p' (w4.setRow b ([.int .i64 y.kind,.int .i64 y.fn,.int .i64 y.op,.int .i64 y.num,.string y.metric,.slice qm y.mats.length dm,.int .i64 y.span,.slice qn y.names.length dn,.slice qk y.kids.length dk] : List Value).toArray) := ⟨y,q2,f2,⟨_,HB4.out.row [.int .i64 y.kind,.int .i64 y.fn,.int .i64 y.op,.int .i64 y.num,.string y.metric,.slice qm y.mats.length dm,.int .i64 y.span,.slice qn y.names.length dn,.slice qk y.kids.length dk],HY4.out.go (by rw [hs5];exact Nat.le_refl _) (fun k hk h => by
            rcases h with h | h
            · exact h
            · have h : w3.heap.size ≤ k := h;show w.heap.size < k ∧ k ≠ b;omega) (fun k hk h => setRow_far _ _ _ (by
            rcases h with h | h
            · exact h.2
            · have h : w3.heap.size ≤ k := h;omega)),hP5,HQ2.out.1,HO4.out.rowNew (by have := Hwb.out;omega) _,Hwb.out,(setRow_far _ _ _ (show w.heap.size ≠ b by have := Hwb.out;omega)).trans HZ4.out⟩,by omega,HR2.out⟩
        refine ⟨?_,?_⟩
        · first | exact hI | ((repeat apply Exists.intro);exact ⟨hI,rfl⟩)
        · rw [hP5.tmu,Hmu.out];have := Htd.out.2 (by first | rfl | trivial);have := HQ2.out.2;have := HQ2.out.1.pw.at';have := Hti.out.1;omega
      | false =>
        rw [if_neg (by simp)] at hr;simp only [Option.some.injEq,Prod.mk.injEq] at hr;obtain ⟨rfl,rfl⟩ := hr;clear HR
        go_wp2_with fail
        refine HT.out.mono ?_;rintro e' w3 ⟨rfl,hP3,hW3,ho3⟩;have HB := Lib.hid (ho3.blkX HB.out (show b ≠ g by have := Hgw.out;have := Hwb.out;omega));have HZ := Lib.hid (ho3.blkX HZ.out (show w.heap.size ≠ g by have := Hgw.out;omega));have Hx := Lib.hid (Hx.out.off ho3 (show ¬ (w.heap.size < g ∧ g ≠ b) by have := Hgw.out;omega));have Ho := Lib.hid (Ho.out.trans ho3);have HT := Lib.hid (HTd.out hW3 _ hP3);clear hP3 hW3 ho3 HTd
        go_wp2_with fail
        refine HT.out.mono ?_;rintro e' w3 ⟨rfl,hP3,hW3,ho3⟩;have H0 := Lib.hid hW3.e0;have hB3 := ho3.blkX HB.out (show b ≠ g by have := Hgw.out;have := Hwb.out;omega);have HZ3 := Lib.hid (ho3.blkX HZ.out (show w.heap.size ≠ g by have := Hgw.out;omega));have HX3 := Lib.hid (Hx.out.off ho3 (show ¬ (w.heap.size < g ∧ g ≠ b) by have := Hgw.out;omega));have HO3 := Lib.hid (Ho.out.trans ho3);have HP3 := Lib.hid hP3;have hb3 := hB3.lt;have d0 := hB3.cell 0 _ rfl;have d1 := hB3.cell 1 _ rfl;have d2 := hB3.cell 2 _ rfl;have d3 := hB3.cell 3 _ rfl;have d4 := hB3.cell 4 _ rfl;have d5 := hB3.cell 5 _ rfl;have d6 := hB3.cell 6 _ rfl;have d7 := hB3.cell 7 _ rfl;have d8 := hB3.cell 8 _ rfl;clear HB HZ Hx Ho hP3 ho3 hB3 hW3
        go_wp2_with (refine wpList_store_row rfl 28 _ _ rfl w.heap.size ([.int .i64 x.kind,.int .i64 x.fn,.int .i64 x.op,.int .i64 x.num,.string x.metric,.slice pm x.mats.length cm,.int .i64 x.span,.slice pn x.names.length cn,.slice pk x.kids.length ck] : List Value).toArray rfl rfl 28 _ HZ3.out (by kernel_rfl) rfl (by kernel_rfl) ?_)
        exact bodyPost_agg (d := _) rfl rfl (setRow_at HZ3.out _) Tryz.underlying28 rfl (by kernel_rfl) rfl (exQ_close H0.out HX3.out HP3.out HO3.out (Nat.le_refl _) Hgw.out (show ¬ (w.heap.size < w.heap.size ∧ _) by omega) (fun k _ h => by have h : w.heap.size < k ∧ k ≠ b := h;show w.heap.size ≤ k;omega))
end Go.Proofs.YtpmbamfpmmdhcaaGreat
