/- The program's parser: what atom, step, term, sum, expr come to; an atom in brackets; on. -/
import Derived.Test.YtpmbamfpmmdhcaaGreatK43
set_option maxRecDepth 100000
set_option maxHeartbeats 16000000
namespace Go.Proofs.YtpmbamfpmmdhcaaGreat
open Go.RowKit
set_option linter.unusedSimpArgs false
set_option linter.unusedVariables false
def ExQ (g : Nat) (pt : Option Addr) (cap : Nat) (L : List Tok) (S : Nat → Prop) (w : World) (e : Ex) (p' : PS) (e' : Ending) (w' : World) : Prop :=
  (p'.err = 0 → ∃ cs,e' = .returned (.agg cs.toArray) ∧ ExS S w' e cs ∧ QA g pt cap L p' w') ∧ (p'.err ≠ 0 → e' = .panicked (flt p'.err p'.at')) ∧ Off g w w'
theorem ExQ.bad {g : Nat} {pt : Option Addr} {cap : Nat} {L : List Tok} {S : Nat → Prop} {w : World} {e : Ex} {p' q : PS} {w' : World} (h0 : q.err ≠ 0) (hs : St q p') (ho : Off g w w') : ExQ g pt cap L S w e p' (.panicked (flt q.err q.at')) w' := by
  obtain ⟨a,b⟩ := hs h0
  refine ⟨fun hn => absurd (a.symm.trans hn) h0,fun _ => by rw [a,b],ho⟩
theorem exQ_close {g : Nat} {pt : Option Addr} {cap : Nat} {L : List Tok} {b : Nat} {S S' : Nat → Prop} {w w3 : World} {e : Ex} {p' : PS} {cs : List Value} (h0 : p'.err = 0) (hx : ExS S w3 e cs) (hP : QA g pt cap L p' w3) (ho : Off g w w3) (hb : w.heap.size ≤ b) (hg : g < b) (hbS : ¬ S b) (hSB : ∀ k,k < w3.heap.size → S k → S' k) :
    ExQ g pt cap L S' w e p' (.returned (.agg cs.toArray)) (w3.setRow b cs.toArray) :=
  ⟨fun _ => ⟨cs,rfl,hx.go (by rw [setRow_size];exact Nat.le_refl _) hSB (fun k _ hk => setRow_far _ _ _ (fun e => hbS (e ▸ hk))),hP.row hg _⟩,fun hn => absurd h0 hn,ho.rowNew hb _⟩
def ExprQ (g : Nat) (pt : Option Addr) (cap : Nat) (L : List Tok) (f : Nat) : Prop := ∀ (p : PS) (e : Ex) (p' : PS),pExpr L f p = some (e,p') → QW L p → ∀ w,QA g pt cap L p w → Calls Tryz.prog 26 #[.pointer (some ⟨g,0,none⟩)] w (ExQ g pt cap L (fun k => w.heap.size ≤ k) w e p')
def AtomQ (g : Nat) (pt : Option Addr) (cap : Nat) (L : List Tok) (f : Nat) : Prop := ∀ (p : PS) (e : Ex) (p' : PS),pAtom L f p = some (e,p') → QW L p → ∀ w,QA g pt cap L p w → Calls Tryz.prog 107 #[.pointer (some ⟨g,0,none⟩)] w (ExQ g pt cap L (fun k => w.heap.size ≤ k) w e p')
def TermQ (g : Nat) (pt : Option Addr) (cap : Nat) (L : List Tok) (f : Nat) : Prop := ∀ (p : PS) (e : Ex) (p' : PS),pTerm L f p = some (e,p') → QW L p → ∀ w,QA g pt cap L p w → Calls Tryz.prog 89 #[.pointer (some ⟨g,0,none⟩)] w (ExQ g pt cap L (fun k => w.heap.size ≤ k) w e p')
def SumQ (g : Nat) (pt : Option Addr) (cap : Nat) (L : List Tok) (f : Nat) : Prop := ∀ (p : PS) (e : Ex) (p' : PS),pSum L f p = some (e,p') → QW L p → ∀ w,QA g pt cap L p w → Calls Tryz.prog 56 #[.pointer (some ⟨g,0,none⟩)] w (ExQ g pt cap L (fun k => w.heap.size ≤ k) w e p')
def rightF (g : Nat) (deep : Bool) : Value := .func (.func (if deep then 89 else 107)) #[.pointer (some ⟨g,0,none⟩)] #[]
def StpQ (g : Nat) (pt : Option Addr) (cap : Nat) (L : List Tok) (f : Nat) : Prop := ∀ (op : Int) (x : Ex) (deep : Bool) (p : PS) (e : Ex) (p' : PS),pStep L f op x deep p = some (e,p') → QW L p → ∀ (S : Nat → Prop) (cs : List Value) w,¬ S g → QA g pt cap L p w → ExS S w x cs →
  Calls Tryz.prog 90 #[.pointer (some ⟨g,0,none⟩),.agg cs.toArray,.int .i64 op,rightF g deep] w (ExQ g pt cap L (fun k => S k ∨ w.heap.size ≤ k) w e p')
theorem isT_take {L : List Tok} {p : PS} {s : List UInt8} (h : p.isT L s = false) : p.take L s = (false,p) := by unfold PS.take;rw [h];rfl
theorem need_take {L : List Tok} {p : PS} {s : List UInt8} (h : (p.take L s).1 = true) : p.need L s = (p.take L s).2 := by unfold PS.need;rw [if_pos h]
theorem take_isT {L : List Tok} {p : PS} {s : List UInt8} (h : (p.take L s).1 = true) : p.isT L s = true := by
  cases hT : p.isT L s with
  | true => rfl
  | false => rw [isT_take hT] at h;cases h
theorem take_err {L : List Tok} {p : PS} {s : List UInt8} (h : (p.take L s).1 = true) : (p.take L s).2.err = p.err := by
  have hT := take_isT h
  unfold PS.take at h ⊢
  rw [hT,if_pos rfl] at h ⊢
  split
  · split
    · rename_i h1 h2;rw [if_pos h1,if_pos h2] at h;cases h
    · rfl
  · split <;> rfl
theorem qAtom_in (g : Nat) (pt : Option Addr) (cap : Nat) (L : List Tok) (f : Nat) (hE : ExprQ g pt cap L f) (p : PS) (e : Ex) (p' : PS) (hc : (p.take L [40]).1 = true) (hr : (pExpr L f (p.take L [40]).2).map (fun x => (x.1,x.2.need L [41])) = some (e,p')) (hw : QW L p) (w : World) (h : QA g pt cap L p w) (hwe : ∀ e q,pExpr L f (p.take L [40]).2 = some (e,q) → q.err = 0 → QW L q) :
    Calls Tryz.prog 107 #[.pointer (some ⟨g,0,none⟩)] w (ExQ g pt cap L (fun k => w.heap.size ≤ k) w e p') := by
  obtain ⟨⟨e0,q⟩,h0,h1⟩ := Option.map_eq_some_iff.1 hr
  simp only [Prod.mk.injEq] at h1
  obtain ⟨e1,rfl⟩ := h1
  subst e1
  have hT := take_isT hc
  have hK := isT_sign hw (s := [40]) (c := 40) (r := []) rfl (by decide)
  rw [hT] at hK
  have hI := fun (X : World) (hX : QA g pt cap L p X) => qIs g pt cap L p X hX hw.pw.at' hw.pw.len 4 [40]
  rw [← hK] at hI
  have HI := Lib.hid hI
  have hWn := fun (X : World) (hX : QA g pt cap L p X) => qWant g pt cap L p X hX hw [40] 40 [] rfl (by decide)
  rw [need_take hc] at hWn
  have HW1 := Lib.hid hWn
  have H1 : Hid ((p.take L [40]).2.err = 0) := Lib.hid ((take_err hc).trans hw.e0)
  have hw1 := hw.take [40] H1.out
  have HE := Lib.hid (fun (X : World) (hX : QA g pt cap L (p.take L [40]).2 X) => hE _ _ _ h0 hw1 X hX)
  have HN := Lib.hid (fun (h : q.err = 0) (X : World) (hX : QA g pt cap L q X) => qWant g pt cap L q X hX (hwe e0 q h0 h) [41] 41 [] rfl (by decide))
  have hst := St.need L q [41]
  have Hst := Lib.hid hst
  have hg := h.1.lt
  clear hI hWn hT hK hc hw hw1 hst h0 hwe hr hE
  go_enter Tryz.func107,Tryz.ntmps107;(try simp only [List.append_eq,List.cons_append,List.nil_append])
  go_wp2_with fail
  have hA := Blk.new w ZX 28
  refine (HI.out _ (qa_alloc h _)).mono ?_
  rintro e' wi ⟨rfl,hbi⟩
  go_wp2_with fail
  refine (HW1.out _ ((qa_alloc h _).keep hbi)).mono ?_
  rintro e' w1 ⟨hok,-,ho1⟩
  obtain ⟨rfl,hP1⟩ := hok H1.out
  have hA1 := ho1.blkX (hA.keep hbi) (Nat.ne_of_gt hg)
  have ho1 := ((off_alloc (Off.refl g w) (.cells ZX.toArray 28)).trans (Off.of hbi)).trans ho1
  clear hA hbi hok
  go_wp2_with fail
  refine (HE.out _ hP1).mono ?_
  rintro e' w2 ⟨hok,hbad,ho2⟩
  by_cases h2 : q.err ≠ 0
  · obtain rfl := hbad h2
    exact ⟨rfl,ExQ.bad h2 Hst.out (ho1.trans ho2)⟩
  have H2 : Hid (q.err = 0) := Lib.hid (Decidable.not_not.1 h2)
  obtain ⟨cs,rfl,hx2,hP2⟩ := hok H2.out
  clear hok hbad h2
  have hA2 := ho2.blkX hA1 (Nat.ne_of_gt hg)
  obtain ⟨pm,cm,pn,cn,pk,ck,rfl,-⟩ := IsEx.cellsE hx2
  go_wp2_with fail
  have hX := Blk.new w2 [.int .i64 e0.kind,.int .i64 e0.fn,.int .i64 e0.op,.int .i64 e0.num,.string e0.metric,.slice pm e0.mats.length cm,.int .i64 e0.span,.slice pn e0.names.length cn,.slice pk e0.kids.length ck] 28
  have hbx : Below w2.heap.size w2 (w2.alloc (.cells ([.int .i64 e0.kind,.int .i64 e0.fn,.int .i64 e0.op,.int .i64 e0.num,.string e0.metric,.slice pm e0.mats.length cm,.int .i64 e0.span,.slice pn e0.names.length cn,.slice pk e0.kids.length ck] : List Value).toArray 28)) := (Below.refl _ _).alloc (Nat.le_refl _) _
  have hAX := hA2.keep hbx
  have hxX := hx2.off (Off.of (g := g) hbx) (by have := hP1.1.lt;omega)
  have hPX := hP2.keep hbx
  have hoX := (ho1.trans ho2).trans (Off.of (g := g) hbx)
  have hs1 := ho1.size
  have hg2 := hP2.1.lt
  have hg1 := hP1.1.lt
  have hs01 : w.heap.size + 1 ≤ w1.heap.size := by have := hA1.lt;omega
  generalize w2.alloc (.cells ([.int .i64 e0.kind,.int .i64 e0.fn,.int .i64 e0.op,.int .i64 e0.num,.string e0.metric,.slice pm e0.mats.length cm,.int .i64 e0.span,.slice pn e0.names.length cn,.slice pk e0.kids.length ck] : List Value).toArray 28) = X at hX hbx hAX hxX hPX hoX
  refine (HN.out H2.out _ hPX).mono ?_
  rintro e' w3 ⟨hok,hbad,ho3⟩
  by_cases h3 : (q.need L [41]).err ≠ 0
  · obtain rfl := hbad h3
    exact ⟨rfl,ExQ.bad h3 (.refl _) (hoX.trans ho3)⟩
  have H3 : Hid ((q.need L [41]).err = 0) := Lib.hid (Decidable.not_not.1 h3)
  obtain ⟨rfl,hP3⟩ := hok H3.out
  clear hok hbad h3
  have HA3 := Lib.hid (ho3.blkX hAX (Nat.ne_of_gt hg))
  have hX3 := ho3.blkX hX (Nat.ne_of_gt hg2)
  have Hx3 := Lib.hid (hxX.off ho3 (show ¬ _ ≤ g by omega))
  have HP3 := Lib.hid hP3;have Ho3 := Lib.hid (hoX.trans ho3)
  have d0 := hX3.cell 0 _ rfl;have d1 := hX3.cell 1 _ rfl;have d2 := hX3.cell 2 _ rfl;have d3 := hX3.cell 3 _ rfl;have d4 := hX3.cell 4 _ rfl;have d5 := hX3.cell 5 _ rfl;have d6 := hX3.cell 6 _ rfl;have d7 := hX3.cell 7 _ rfl;have d8 := hX3.cell 8 _ rfl
  clear hX hbx hAX hxX hPX hoX hX3 hP3 ho3 hx2 hA1 hA2 hP1 hP2 ho1 ho2
  go_wp2_with (refine wpList_store_row rfl 28 _ _ rfl w.heap.size #[.int .i64 e0.kind,.int .i64 e0.fn,.int .i64 e0.op,.int .i64 e0.num,.string e0.metric,.slice pm e0.mats.length cm,.int .i64 e0.span,.slice pn e0.names.length cn,.slice pk e0.kids.length ck] rfl rfl 28 _ HA3.out (by kernel_rfl) rfl (by kernel_rfl) ?_)
  exact bodyPost_agg (d := _) rfl rfl (setRow_at HA3.out _) Tryz.underlying28 rfl (by kernel_rfl) rfl (exQ_close H3.out Hx3.out HP3.out Ho3.out (Nat.le_refl _) hg (show ¬ _ ≤ w.heap.size by omega) (fun k _ hk => by show w.heap.size ≤ k;omega))
def OnQ (g : Nat) (pt : Option Addr) (cap : Nat) (L : List Tok) (w : World) (b : Bool) (r : List (List UInt8)) (p' : PS) (e' : Ending) (w' : World) : Prop :=
  (p'.err = 0 → ∃ v,e' = .returned (.tuple #[v,.bool b]) ∧ OwnN w.heap.size w' v r ∧ QA g pt cap L p' w') ∧ (p'.err ≠ 0 → e' = .panicked (flt p'.err p'.at')) ∧ Off g w w'
theorem qOn (g : Nat) (pt : Option Addr) (cap : Nat) (L : List Tok) (f : Nat) (p : PS) (r : List (List UInt8)) (p' : PS) (hr : (if (p.take L [111,110]).1 then pNames L f (p.take L [111,110]).2 else some ([],(p.take L [111,110]).2)) = some (r,p')) (w : World) (h : QA g pt cap L p w) (hw : QW L p) :
    Calls Tryz.prog 108 #[.pointer (some ⟨g,0,none⟩)] w (OnQ g pt cap L w (p.take L [111,110]).1 r p') := by
  have hK := isT_word hw (s := [111,110]) (c := 111) (r := [110]) rfl (by decide)
  have hI := qIs g pt cap L p w h hw.pw.at' hw.pw.len 1 [111,110]
  rw [← hK] at hI
  clear hK
  cases hT : p.isT L [111,110] with
  | false =>
    rw [isT_take hT] at hr ⊢;simp only [Bool.false_eq_true,if_false,Option.some.injEq,Prod.mk.injEq] at hr;obtain ⟨rfl,rfl⟩ := hr;rw [hT] at hI;have HI := Lib.hid hI;have H0 := Lib.hid hw.e0;clear hI hT
    go_enter Tryz.func108,Tryz.ntmps108;(try simp only [List.append_eq,List.cons_append,List.nil_append])
    go_wp2_with fail
    refine HI.out.mono ?_;rintro e' w1 ⟨rfl,hb1⟩
    go_wp2_with fail
    go_ret2
    exact ⟨fun _ => ⟨_,rfl,World.ownsRow_nil _ _ _ _,h.keep hb1⟩,fun hn => absurd H0.out hn,Off.of hb1⟩
  | true =>
    have e2 : p.take L [111,110] = (true,{ p with i := p.i + 1 }) := by unfold PS.take;rw [hT,if_pos rfl,if_neg (by decide),if_neg (by decide)]
    have hq : QW L { p with i := p.i + 1 } := by
      have := hw.take [111,110];rw [e2] at this;exact this hw.e0
    rw [e2] at hr ⊢;simp only [if_true] at hr;rw [hT] at hI;have HI := Lib.hid hI;have HN := Lib.hid (fun (X : World) (hX : QA g pt cap L { p with i := p.i + 1 } X) => qNames g pt cap L f _ r p' hr X hX hq);have hi := hw.pw.at';have hlen := hw.pw.len;clear hI hT e2 hr hq hw
    go_enter Tryz.func108,Tryz.ntmps108;(try simp only [List.append_eq,List.cons_append,List.nil_append])
    go_wp2_with fail
    refine HI.out.mono ?_;rintro e' w1 ⟨rfl,hb1⟩;have hP1 := h.keep hb1;have hg1 := hP1.1.lt;have hB := hP1.1;unfold QC at hB;have c0 := hB.cell 0 _ rfl;have c1 := hB.cell 1 _ rfl;have c2 := hB.cell 2 _ rfl;have f1 := hB.free 1;clear hB;have HP1 := Lib.hid hP1;have Hb1 := Lib.hid hb1;clear hP1 hb1
    go_wp2_with fail
    refine (HN.out _ (HP1.out.upd (q := { p with i := p.i + 1 }) (Off.set w1 1 (.int .i64 ((p.i : Int) + 1))) (HP1.out.1.set_ 1 (.int .i64 ((p.i : Int) + 1))))).mono ?_;rintro e' w3 ⟨hok,hbad,ho3⟩;have ho := ((Off.of (g := g) Hb1.out).trans (Off.set w1 1 (.int .i64 ((p.i : Int) + 1)))).trans ho3
    by_cases h3 : p'.err ≠ 0
    · obtain rfl := hbad h3
      exact ⟨rfl,fun h0 => absurd h0 h3,fun _ => rfl,ho⟩
    have H3 : Hid (p'.err = 0) := Lib.hid (Decidable.not_not.1 h3);obtain ⟨v,rfl,hown,hP3⟩ := hok H3.out;clear hok hbad h3
    go_wp2_with fail
    go_ret2
    exact ⟨fun _ => ⟨_,rfl,ownsRow_base hown (by rw [setCell_size];exact Hb1.out.size),hP3⟩,fun hn => absurd H3.out hn,ho⟩
end Go.Proofs.YtpmbamfpmmdhcaaGreat
