/- ParseJoins: two, comes. -/
import Derived.Test.YtpmbamfpmmdhcaaGreatK55
set_option maxRecDepth 100000
set_option maxHeartbeats 16000000
namespace Go.Proofs.YtpmbamfpmmdhcaaGreat
open Go.RowKit
set_option linter.unusedSimpArgs false
set_option linter.unusedVariables false
theorem xTwo (op : Int) (a b : Ex) (ca cb : List Value) (n : Nat) (w : World) (hn : n ≤ w.heap.size) (ha : IsEx n w a ca) (hb : IsEx n w b cb) : Calls Tryz.prog 15 #[.int .i64 op,.agg ca.toArray,.agg cb.toArray] w fun e' w' =>
    ∃ g,e' = .returned (.agg #[.int .i64 3,.int .i64 0,.int .i64 op,.int .i64 0,.string ⟨#[]⟩,.slice none 0 0,.int .i64 0,.slice none 0 0,.slice (some ⟨g,0,none⟩) 2 2]) ∧
      IsEx w'.heap.size w' (twoX op a b) [.int .i64 3,.int .i64 0,.int .i64 op,.int .i64 0,.string ⟨#[]⟩,.slice none 0 0,.int .i64 0,.slice none 0 0,.slice (some ⟨g,0,none⟩) 2 2] ∧ Below w.heap.size w w' := by
  obtain ⟨pm,cm,pn,cn,pk,ck,rfl,-⟩ := ha.cellsE
  obtain ⟨qm,dm,qn,dn,qk,dk,rfl,-⟩ := hb.cellsE
  have Ha := Lib.hid ha;clear ha
  have Hb := Lib.hid hb;clear hb
  go_enter Tryz.func15,Tryz.ntmps15;(try simp only [List.append_eq,List.cons_append,List.nil_append])
  go_upto_region 1 with fail
  have k1 : Blk (((w.alloc (.cells #[.int .i64 a.kind,.int .i64 a.fn,.int .i64 a.op,.int .i64 a.num,.string a.metric,.slice pm a.mats.length cm,.int .i64 a.span,.slice pn a.names.length cn,.slice pk a.kids.length ck] 28)).alloc (.cells #[.int .i64 b.kind,.int .i64 b.fn,.int .i64 b.op,.int .i64 b.num,.string b.metric,.slice qm b.mats.length dm,.int .i64 b.span,.slice qn b.names.length dn,.slice qk b.kids.length dk] 28)).alloc (.cells #[.int .i64 0,.int .i64 0,.int .i64 0,.int .i64 0,.string ⟨#[]⟩,.slice none 0 0,.int .i64 0,.slice none 0 0,.slice none 0 0] 28)) w.heap.size 28 [.int .i64 a.kind,.int .i64 a.fn,.int .i64 a.op,.int .i64 a.num,.string a.metric,.slice pm a.mats.length cm,.int .i64 a.span,.slice pn a.names.length cn,.slice pk a.kids.length ck] :=
    ((Blk.new w _ _).keep ((Below.refl _ _).alloc (Nat.le_refl _) _)).keep ((Below.refl _ _).alloc (Nat.le_refl _) _)
  have k2 : Blk (((w.alloc (.cells #[.int .i64 a.kind,.int .i64 a.fn,.int .i64 a.op,.int .i64 a.num,.string a.metric,.slice pm a.mats.length cm,.int .i64 a.span,.slice pn a.names.length cn,.slice pk a.kids.length ck] 28)).alloc (.cells #[.int .i64 b.kind,.int .i64 b.fn,.int .i64 b.op,.int .i64 b.num,.string b.metric,.slice qm b.mats.length dm,.int .i64 b.span,.slice qn b.names.length dn,.slice qk b.kids.length dk] 28)).alloc (.cells #[.int .i64 0,.int .i64 0,.int .i64 0,.int .i64 0,.string ⟨#[]⟩,.slice none 0 0,.int .i64 0,.slice none 0 0,.slice none 0 0] 28)) (w.heap.size + 1) 28 [.int .i64 b.kind,.int .i64 b.fn,.int .i64 b.op,.int .i64 b.num,.string b.metric,.slice qm b.mats.length dm,.int .i64 b.span,.slice qn b.names.length dn,.slice qk b.kids.length dk] := by
    have h := (Blk.new (w.alloc (.cells #[.int .i64 a.kind,.int .i64 a.fn,.int .i64 a.op,.int .i64 a.num,.string a.metric,.slice pm a.mats.length cm,.int .i64 a.span,.slice pn a.names.length cn,.slice pk a.kids.length ck] 28)) [.int .i64 b.kind,.int .i64 b.fn,.int .i64 b.op,.int .i64 b.num,.string b.metric,.slice qm b.mats.length dm,.int .i64 b.span,.slice qn b.names.length dn,.slice qk b.kids.length dk] 28).keep ((Below.refl _ _).alloc (Nat.le_refl _) (.cells #[.int .i64 0,.int .i64 0,.int .i64 0,.int .i64 0,.string ⟨#[]⟩,.slice none 0 0,.int .i64 0,.slice none 0 0,.slice none 0 0] 28))
    simpa using h
  have k3 : Blk (((w.alloc (.cells #[.int .i64 a.kind,.int .i64 a.fn,.int .i64 a.op,.int .i64 a.num,.string a.metric,.slice pm a.mats.length cm,.int .i64 a.span,.slice pn a.names.length cn,.slice pk a.kids.length ck] 28)).alloc (.cells #[.int .i64 b.kind,.int .i64 b.fn,.int .i64 b.op,.int .i64 b.num,.string b.metric,.slice qm b.mats.length dm,.int .i64 b.span,.slice qn b.names.length dn,.slice qk b.kids.length dk] 28)).alloc (.cells #[.int .i64 0,.int .i64 0,.int .i64 0,.int .i64 0,.string ⟨#[]⟩,.slice none 0 0,.int .i64 0,.slice none 0 0,.slice none 0 0] 28)) (w.heap.size + 1 + 1) 28 [.int .i64 0,.int .i64 0,.int .i64 0,.int .i64 0,.string ⟨#[]⟩,.slice none 0 0,.int .i64 0,.slice none 0 0,.slice none 0 0] := by
    have h := Blk.new ((w.alloc (.cells #[.int .i64 a.kind,.int .i64 a.fn,.int .i64 a.op,.int .i64 a.num,.string a.metric,.slice pm a.mats.length cm,.int .i64 a.span,.slice pn a.names.length cn,.slice pk a.kids.length ck] 28)).alloc (.cells #[.int .i64 b.kind,.int .i64 b.fn,.int .i64 b.op,.int .i64 b.num,.string b.metric,.slice qm b.mats.length dm,.int .i64 b.span,.slice qn b.names.length dn,.slice qk b.kids.length dk] 28)) [.int .i64 0,.int .i64 0,.int .i64 0,.int .i64 0,.string ⟨#[]⟩,.slice none 0 0,.int .i64 0,.slice none 0 0,.slice none 0 0] 28
    simpa using h
  have hbw : Below w.heap.size w (((w.alloc (.cells #[.int .i64 a.kind,.int .i64 a.fn,.int .i64 a.op,.int .i64 a.num,.string a.metric,.slice pm a.mats.length cm,.int .i64 a.span,.slice pn a.names.length cn,.slice pk a.kids.length ck] 28)).alloc (.cells #[.int .i64 b.kind,.int .i64 b.fn,.int .i64 b.op,.int .i64 b.num,.string b.metric,.slice qm b.mats.length dm,.int .i64 b.span,.slice qn b.names.length dn,.slice qk b.kids.length dk] 28)).alloc (.cells #[.int .i64 0,.int .i64 0,.int .i64 0,.int .i64 0,.string ⟨#[]⟩,.slice none 0 0,.int .i64 0,.slice none 0 0,.slice none 0 0] 28)) := (((Below.refl _ _).alloc (Nat.le_refl _) _).alloc (by simp) _).alloc (by simp;omega) _
  have hsz : (((w.alloc (.cells #[.int .i64 a.kind,.int .i64 a.fn,.int .i64 a.op,.int .i64 a.num,.string a.metric,.slice pm a.mats.length cm,.int .i64 a.span,.slice pn a.names.length cn,.slice pk a.kids.length ck] 28)).alloc (.cells #[.int .i64 b.kind,.int .i64 b.fn,.int .i64 b.op,.int .i64 b.num,.string b.metric,.slice qm b.mats.length dm,.int .i64 b.span,.slice qn b.names.length dn,.slice qk b.kids.length dk] 28)).alloc (.cells #[.int .i64 0,.int .i64 0,.int .i64 0,.int .i64 0,.string ⟨#[]⟩,.slice none 0 0,.int .i64 0,.slice none 0 0,.slice none 0 0] 28)).heap.size = w.heap.size + 3 := by simp
  generalize ((w.alloc (.cells #[.int .i64 a.kind,.int .i64 a.fn,.int .i64 a.op,.int .i64 a.num,.string a.metric,.slice pm a.mats.length cm,.int .i64 a.span,.slice pn a.names.length cn,.slice pk a.kids.length ck] 28)).alloc (.cells #[.int .i64 b.kind,.int .i64 b.fn,.int .i64 b.op,.int .i64 b.num,.string b.metric,.slice qm b.mats.length dm,.int .i64 b.span,.slice qn b.names.length dn,.slice qk b.kids.length dk] 28)).alloc (.cells #[.int .i64 0,.int .i64 0,.int .i64 0,.int .i64 0,.string ⟨#[]⟩,.slice none 0 0,.int .i64 0,.slice none 0 0,.slice none 0 0] 28) = X at *
  obtain ⟨d0,d1,d2,d3,d4,d5,d6,d7,d8⟩ : X.cell? ⟨w.heap.size,0,none⟩ = some (.int .i64 a.kind) ∧ X.cell? ⟨w.heap.size,1,none⟩ = some (.int .i64 a.fn) ∧ X.cell? ⟨w.heap.size,2,none⟩ = some (.int .i64 a.op) ∧ X.cell? ⟨w.heap.size,3,none⟩ = some (.int .i64 a.num) ∧ X.cell? ⟨w.heap.size,4,none⟩ = some (.string a.metric) ∧ X.cell? ⟨w.heap.size,5,none⟩ = some (.slice pm a.mats.length cm) ∧ X.cell? ⟨w.heap.size,6,none⟩ = some (.int .i64 a.span) ∧ X.cell? ⟨w.heap.size,7,none⟩ = some (.slice pn a.names.length cn) ∧ X.cell? ⟨w.heap.size,8,none⟩ = some (.slice pk a.kids.length ck) := ⟨k1.cell 0 _ rfl,k1.cell 1 _ rfl,k1.cell 2 _ rfl,k1.cell 3 _ rfl,k1.cell 4 _ rfl,k1.cell 5 _ rfl,k1.cell 6 _ rfl,k1.cell 7 _ rfl,k1.cell 8 _ rfl⟩
  obtain ⟨e0,e1,e2,e3,e4,e5,e6,e7,e8⟩ : X.cell? ⟨w.heap.size + 1,0,none⟩ = some (.int .i64 b.kind) ∧ X.cell? ⟨w.heap.size + 1,1,none⟩ = some (.int .i64 b.fn) ∧ X.cell? ⟨w.heap.size + 1,2,none⟩ = some (.int .i64 b.op) ∧ X.cell? ⟨w.heap.size + 1,3,none⟩ = some (.int .i64 b.num) ∧ X.cell? ⟨w.heap.size + 1,4,none⟩ = some (.string b.metric) ∧ X.cell? ⟨w.heap.size + 1,5,none⟩ = some (.slice qm b.mats.length dm) ∧ X.cell? ⟨w.heap.size + 1,6,none⟩ = some (.int .i64 b.span) ∧ X.cell? ⟨w.heap.size + 1,7,none⟩ = some (.slice qn b.names.length dn) ∧ X.cell? ⟨w.heap.size + 1,8,none⟩ = some (.slice qk b.kids.length dk) := ⟨k2.cell 0 _ rfl,k2.cell 1 _ rfl,k2.cell 2 _ rfl,k2.cell 3 _ rfl,k2.cell 4 _ rfl,k2.cell 5 _ rfl,k2.cell 6 _ rfl,k2.cell 7 _ rfl,k2.cell 8 _ rfl⟩
  have K3 := Lib.hid (k3.keep ((Below.refl _ _).alloc (Nat.le_refl _) (.cells #[.int .i64 a.kind,.int .i64 a.fn,.int .i64 a.op,.int .i64 a.num,.string a.metric,.slice pm a.mats.length cm,.int .i64 a.span,.slice pn a.names.length cn,.slice pk a.kids.length ck,.int .i64 b.kind,.int .i64 b.fn,.int .i64 b.op,.int .i64 b.num,.string b.metric,.slice qm b.mats.length dm,.int .i64 b.span,.slice qn b.names.length dn,.slice qk b.kids.length dk] 28)))
  have KN := Lib.hid (Blk.new X [.int .i64 a.kind,.int .i64 a.fn,.int .i64 a.op,.int .i64 a.num,.string a.metric,.slice pm a.mats.length cm,.int .i64 a.span,.slice pn a.names.length cn,.slice pk a.kids.length ck,.int .i64 b.kind,.int .i64 b.fn,.int .i64 b.op,.int .i64 b.num,.string b.metric,.slice qm b.mats.length dm,.int .i64 b.span,.slice qn b.names.length dn,.slice qk b.kids.length dk] 28)
  have Hbw := Lib.hid hbw;clear hbw
  have Hsz := Lib.hid hsz;clear hsz k1 k2 k3
  go_wp2_with (refine wpList_store_row rfl 28 _ _ rfl (w.heap.size + 1 + 1) #[.int .i64 3,.int .i64 0,.int .i64 op,.int .i64 0,.string ⟨#[]⟩,.slice none 0 0,.int .i64 0,.slice none 0 0,.slice (some ⟨X.heap.size,0,none⟩) 2 2] rfl rfl 28 _ K3.out (by kernel_rfl) rfl (by kernel_rfl) ?_)
  have hsz := Hsz.out
  refine bodyPost_agg (g := w.heap.size + 1 + 1) (fr := (0,0)) rfl rfl (setRow_at K3.out _) Tryz.underlying28 rfl (by kernel_rfl) rfl ?_
  refine ⟨X.heap.size,rfl,?_,below_setRow (Hbw.out.alloc (by omega) _) (by omega) _⟩
  have hbf := below_setRow (B := w.heap.size) (g := w.heap.size + 1 + 1) (Hbw.out.alloc (by omega) (.cells #[.int .i64 a.kind,.int .i64 a.fn,.int .i64 a.op,.int .i64 a.num,.string a.metric,.slice pm a.mats.length cm,.int .i64 a.span,.slice pn a.names.length cn,.slice pk a.kids.length ck,.int .i64 b.kind,.int .i64 b.fn,.int .i64 b.op,.int .i64 b.num,.string b.metric,.slice qm b.mats.length dm,.int .i64 b.span,.slice qn b.names.length dn,.slice qk b.kids.length dk] 28)) (by omega) #[.int .i64 3,.int .i64 0,.int .i64 op,.int .i64 0,.string ⟨#[]⟩,.slice none 0 0,.int .i64 0,.slice none 0 0,.slice (some ⟨X.heap.size,0,none⟩) 2 2]
  have hK : Blk ((X.alloc (.cells #[.int .i64 a.kind,.int .i64 a.fn,.int .i64 a.op,.int .i64 a.num,.string a.metric,.slice pm a.mats.length cm,.int .i64 a.span,.slice pn a.names.length cn,.slice pk a.kids.length ck,.int .i64 b.kind,.int .i64 b.fn,.int .i64 b.op,.int .i64 b.num,.string b.metric,.slice qm b.mats.length dm,.int .i64 b.span,.slice qn b.names.length dn,.slice qk b.kids.length dk] 28)).setRow (w.heap.size + 1 + 1) #[.int .i64 3,.int .i64 0,.int .i64 op,.int .i64 0,.string ⟨#[]⟩,.slice none 0 0,.int .i64 0,.slice none 0 0,.slice (some ⟨X.heap.size,0,none⟩) 2 2]) X.heap.size 28 [[.int .i64 a.kind,.int .i64 a.fn,.int .i64 a.op,.int .i64 a.num,.string a.metric,.slice pm a.mats.length cm,.int .i64 a.span,.slice pn a.names.length cn,.slice pk a.kids.length ck],[.int .i64 b.kind,.int .i64 b.fn,.int .i64 b.op,.int .i64 b.num,.string b.metric,.slice qm b.mats.length dm,.int .i64 b.span,.slice qn b.names.length dn,.slice qk b.kids.length dk]].flatten :=
    (setRow_other _ _ _ _ (by omega)).trans KN.out
  have hsf : X.heap.size < ((X.alloc (.cells #[.int .i64 a.kind,.int .i64 a.fn,.int .i64 a.op,.int .i64 a.num,.string a.metric,.slice pm a.mats.length cm,.int .i64 a.span,.slice pn a.names.length cn,.slice pk a.kids.length ck,.int .i64 b.kind,.int .i64 b.fn,.int .i64 b.op,.int .i64 b.num,.string b.metric,.slice qm b.mats.length dm,.int .i64 b.span,.slice qn b.names.length dn,.slice qk b.kids.length dk] 28)).setRow (w.heap.size + 1 + 1) #[.int .i64 3,.int .i64 0,.int .i64 op,.int .i64 0,.string ⟨#[]⟩,.slice none 0 0,.int .i64 0,.slice none 0 0,.slice (some ⟨X.heap.size,0,none⟩) 2 2]).heap.size := by rw [setRow_size];simp
  refine IsEx.node (noStrs _ _) (exsBlk (m := n) [a,b] [[.int .i64 a.kind,.int .i64 a.fn,.int .i64 a.op,.int .i64 a.num,.string a.metric,.slice pm a.mats.length cm,.int .i64 a.span,.slice pn a.names.length cn,.slice pk a.kids.length ck],[.int .i64 b.kind,.int .i64 b.fn,.int .i64 b.op,.int .i64 b.num,.string b.metric,.slice qm b.mats.length dm,.int .i64 b.span,.slice qn b.names.length dn,.slice qk b.kids.length dk]] hK hsf (by have := hbf.size;omega) rfl (by show 2 ≤ maxLen;decide) (fun k r e hr he => ?_))
  match k,hr,he with
  | 0,hr,he => simp only [List.getElem?_cons_zero,Option.some.injEq] at hr he;subst hr he;exact Ha.out.mono (hbf.mono hn) (Nat.le_refl _)
  | 1,hr,he => simp only [List.getElem?_cons_succ,List.getElem?_cons_zero,Option.some.injEq] at hr he;subst hr he;exact Hb.out.mono (hbf.mono hn) (Nat.le_refl _)
  | k + 2,hr,he => simp at hr
def Ans (t : ByteArray) (a : Ex) : Prop := ∃ y fe fa,(∀ X,Calls Tryz.prog 7 #[.string t] X (ERes y fe fa X)) ∧ (fe = 3 ∨ (fe = 0 ∧ fa = 0 ∧ y = a ∧ checkExpr a = 0))
theorem xComes (t : ByteArray) (a : Ex) (ca : List Value) (n : Nat) (w : World) (hn : n ≤ w.heap.size) (ha : IsEx n w a ca) (hs : a.size ≤ 1000000) (hA : Ans t a) :
    Calls Tryz.prog 14 #[.string t,.agg ca.toArray] w fun e' w' => e' = .returned (.bool true) ∧ Below w.heap.size w w' := by
  obtain ⟨y,fe,fa,hE,hR⟩ := hA
  have HE := Lib.hid hE;clear hE
  have HR := Lib.hid hR;clear hR
  obtain ⟨pm,cm,pn,cn,pk,ck,rfl,-⟩ := ha.cellsE
  have Ha := Lib.hid ha;clear ha
  go_enter Tryz.func14,Tryz.ntmps14;(try simp only [List.append_eq,List.cons_append,List.nil_append])
  go_upto_region 1 with fail
  obtain ⟨w1,hW⟩ : ∃ z,w.alloc (.cells #[.int .i64 a.kind,.int .i64 a.fn,.int .i64 a.op,.int .i64 a.num,.string a.metric,.slice pm a.mats.length cm,.int .i64 a.span,.slice pn a.names.length cn,.slice pk a.kids.length ck] 28) = z := ⟨_,rfl⟩
  have B := Blk.new w [.int .i64 a.kind,.int .i64 a.fn,.int .i64 a.op,.int .i64 a.num,.string a.metric,.slice pm a.mats.length cm,.int .i64 a.span,.slice pn a.names.length cn,.slice pk a.kids.length ck] 28
  have kb : Below w.heap.size w (w.alloc (.cells #[.int .i64 a.kind,.int .i64 a.fn,.int .i64 a.op,.int .i64 a.num,.string a.metric,.slice pm a.mats.length cm,.int .i64 a.span,.slice pn a.names.length cn,.slice pk a.kids.length ck] 28)) := (Below.refl _ _).alloc (Nat.le_refl _) _
  rw [show w.alloc (.cells ([.int .i64 a.kind,.int .i64 a.fn,.int .i64 a.op,.int .i64 a.num,.string a.metric,.slice pm a.mats.length cm,.int .i64 a.span,.slice pn a.names.length cn,.slice pk a.kids.length ck] : List Value).toArray 28) = w1 from hW] at B
  rw [hW] at kb ⊢
  clear hW
  have X := Lib.hid (Ha.out.mono (kb.mono hn) (Nat.le_refl _));clear Ha
  have B := Lib.hid B
  have HB := Lib.hid kb;clear kb
  go_wp2_with fail
  refine (HE.out _).mono ?_
  rintro e' w2 ⟨cs,rfl,hx,hb⟩
  have X := Lib.hid (X.out.mono (hb.mono (Nat.le_trans hn HB.out.size)) (Nat.le_refl _));have B := Lib.hid (B.out.keep hb)
  have HB := Lib.hid (HB.out.trans (hb.mono HB.out.size));clear hb
  obtain ⟨qm,dm,qn,dn,qk,dk,rfl,-⟩ := hx.cellsE
  have Y := Lib.hid hx;clear hx
  go_upto_region 2 with fail
  obtain ⟨w3,hW⟩ : ∃ z,(w2.alloc (.cells #[.int .i64 y.kind,.int .i64 y.fn,.int .i64 y.op,.int .i64 y.num,.string y.metric,.slice qm y.mats.length dm,.int .i64 y.span,.slice qn y.names.length dn,.slice qk y.kids.length dk] 28)).alloc (.cells #[.int .i64 fe,.int .i64 fa] 31) = z := ⟨_,rfl⟩
  have kb : Below w2.heap.size w2 w3 := by rw [← hW];exact two_below w2 _ _
  have C : Blk w3 w2.heap.size 28 [.int .i64 y.kind,.int .i64 y.fn,.int .i64 y.op,.int .i64 y.num,.string y.metric,.slice qm y.mats.length dm,.int .i64 y.span,.slice qn y.names.length dn,.slice qk y.kids.length dk] := by rw [← hW];exact two_at w2 [.int .i64 y.kind,.int .i64 y.fn,.int .i64 y.op,.int .i64 y.num,.string y.metric,.slice qm y.mats.length dm,.int .i64 y.span,.slice qn y.names.length dn,.slice qk y.kids.length dk] [.int .i64 fe,.int .i64 fa] _ _
  have F : Blk w3 (w2.heap.size + 1) 31 [.int .i64 fe,.int .i64 fa] := by rw [← hW];exact two_at' w2 _ [.int .i64 fe,.int .i64 fa] _
  rw [hW];clear hW
  have X := Lib.hid (X.out.mono (kb.mono (Nat.le_trans hn HB.out.size)) (Nat.le_refl _));have Y := Lib.hid (Y.out.mono kb kb.size);have b := B.out.keep kb
  have HB := Lib.hid (HB.out.trans (kb.mono HB.out.size));clear kb
  have B3 := Lib.hid b
  have p0 := b.cell 0 _ rfl;have p1 := b.cell 1 _ rfl;have p2 := b.cell 2 _ rfl;have p3 := b.cell 3 _ rfl;have p4 := b.cell 4 _ rfl;have p5 := b.cell 5 _ rfl;have p6 := b.cell 6 _ rfl;have p7 := b.cell 7 _ rfl;have p8 := b.cell 8 _ rfl
  have c0 := C.cell 0 _ rfl;have c1 := C.cell 1 _ rfl;have c2 := C.cell 2 _ rfl;have c3 := C.cell 3 _ rfl;have c4 := C.cell 4 _ rfl;have c5 := C.cell 5 _ rfl;have c6 := C.cell 6 _ rfl;have c7 := C.cell 7 _ rfl;have c8 := C.cell 8 _ rfl
  have f0 := F.cell 0 _ rfl;have f1 := F.cell 1 _ rfl
  clear b C F B
  have hR := HR.out
  rcases hR with rfl | ⟨rfl,rfl,rfl,hc⟩
  · go_wp2
    go_ret;exact ⟨rfl,HB.out⟩
  have HC := Lib.hid hc;clear hc
  have HK := Lib.hid (kExpr y y _ _ _ w3 (Nat.le_refl _) Y.out (X.out.mono (Below.refl _ _) (Nat.le_trans hn HB.out.size)))
  go_wp2_with fail
  refine HK.out.mono ?_
  rintro e' w4 ⟨rfl,hb⟩
  have X4 := Lib.hid (X.out.mono (hb.mono (Nat.le_trans hn HB.out.size)) (Nat.le_refl _))
  have b4 := B3.out.keep hb
  have HB := Lib.hid (HB.out.trans (hb.mono HB.out.size));clear hb
  clear p0 p1 p2 p3 p4 p5 p6 p7 p8 c0 c1 c2 c3 c4 c5 c6 c7 c8 f0 f1
  have p0 := b4.cell 0 _ rfl;have p1 := b4.cell 1 _ rfl;have p2 := b4.cell 2 _ rfl;have p3 := b4.cell 3 _ rfl;have p4 := b4.cell 4 _ rfl;have p5 := b4.cell 5 _ rfl;have p6 := b4.cell 6 _ rfl;have p7 := b4.cell 7 _ rfl;have p8 := b4.cell 8 _ rfl
  clear b4
  have HK2 := Lib.hid (rCheckExpr y _ n w4 (Nat.le_trans hn HB.out.size) (X4.out.mono (Below.refl _ _) (Nat.le_refl _)) hs)
  go_wp2_with fail
  refine HK2.out.mono ?_
  rintro e' w5 ⟨rfl,hb⟩
  have HB := Lib.hid (HB.out.trans (hb.mono HB.out.size));clear hb
  rw [HC.out]
  go_wp2
  go_ret
  exact ⟨rfl,HB.out⟩
end Go.Proofs.YtpmbamfpmmdhcaaGreat
