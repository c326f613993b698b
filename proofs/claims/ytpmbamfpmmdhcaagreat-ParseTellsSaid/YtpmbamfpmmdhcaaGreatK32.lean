/- The program's Expr, Query. (PRINTED by gen_qtop.py.) -/
import Derived.Test.YtpmbamfpmmdhcaaGreatK31
set_option maxRecDepth 100000
set_option maxHeartbeats 16000000
namespace Go.Proofs.YtpmbamfpmmdhcaaGreat
open Go.RowKit
set_option linter.unusedSimpArgs false
set_option linter.unusedVariables false
theorem done_fin {L : List Tok} {p : PS} (h0 : p.err = 0 → p.at' = 0) (c : Int) : ((p.fin L).err ≠ 0 → (p.done L c).err = (p.fin L).err ∧ (p.done L c).at' = (p.fin L).at') ∧ ((p.fin L).err = 0 → (p.done L c).err = c ∧ (p.done L c).at' = 0) := by
  by_cases he : p.err = 0
  · by_cases hk : (p.tok L).kind = 5
    · have e1 : p.fin L = { p with i := p.i + 1 } := by unfold PS.fin PS.token;rw [if_pos ⟨he,hk⟩]
      have e2 : p.over L = p := by unfold PS.over;rw [if_neg (fun h => h.2 hk)]
      rw [e1];refine ⟨fun h => absurd he h,fun _ => ?_⟩;unfold PS.done;rw [e2]
      split
      · rename_i hc;exact ⟨by rw [he,hc],h0 he⟩
      · unfold PS.fail;rw [if_pos he];exact ⟨rfl,rfl⟩
    · have hf : p.fail 14 (p.tok L).pos = { p with err := 14,at' := (p.tok L).pos } := by unfold PS.fail;rw [if_pos he]
      have e1 : p.fin L = { p with err := 14,at' := (p.tok L).pos } := by unfold PS.fin PS.token;rw [if_neg (fun h => hk h.2)];exact hf
      have e2 : p.over L = { p with err := 14,at' := (p.tok L).pos } := by unfold PS.over;rw [if_pos ⟨he,hk⟩];exact hf
      rw [e1];refine ⟨fun _ => ?_,fun h => absurd h (show (14 : Int) ≠ 0 by decide)⟩;unfold PS.done;rw [e2]
      split
      · exact ⟨rfl,rfl⟩
      · unfold PS.fail;rw [if_neg (show (14 : Int) ≠ 0 by decide)];exact ⟨rfl,rfl⟩
  · have e1 : (p.fin L).err = p.err ∧ (p.fin L).at' = p.at' := St.token L p 5 he
    have e2 : p.over L = p := by unfold PS.over;rw [if_neg (fun h => he h.1)]
    rw [e1.1,e1.2];refine ⟨fun _ => ?_,fun h => absurd h he⟩;unfold PS.done;rw [e2]
    split
    · exact ⟨rfl,rfl⟩
    · unfold PS.fail;rw [if_neg he];exact ⟨rfl,rfl⟩
theorem px_at {s : ByteArray} (h : (PX s).err = 0) : (PX s).at' = 0 := by
  rcases lexAll_cases s with ⟨-,h2,-⟩ | h2
  · exact h2
  · exact absurd h h2
def ExprR (e : Ex) (q : PS) (w : World) (e' : Ending) (w' : World) : Prop := Below w.heap.size w w' ∧
  ((q.err = 0 ∧ ∃ cs,e' = .returned (.tuple #[.agg cs.toArray,.agg #[.int .i64 0,.int .i64 q.at']]) ∧ IsEx w'.heap.size w' e cs) ∨
   (q.err ≠ 0 ∧ e' = .returned (.tuple #[.agg ZX.toArray,.agg #[.int .i64 q.err,.int .i64 q.at']])))
theorem tExpr (s : ByteArray) (w : World) (hs : s.size ≤ maxLen) (e : Ex) (p4 : PS) (f : Nat) (hr : pExpr (LX s) f (PX s) = some (e,p4)) :
    Calls Tryz.prog 7 #[.string s] w (ExprR e (p4.done (LX s) (checkExpr e)) w) := by
  have hz : p4.err = 0 → p4.at' = 0 := fun h => by
    have hza : Za (PX s) p4 := ((zas (LX s) f).expr _ _ _ hr);obtain ⟨a,b⟩ := hza h;rw [b];exact px_at a
  obtain ⟨hd1,hd2⟩ := done_fin (L := LX s) hz (checkExpr e)
  have HR := Lib.hid (fun (X : World) => readE s X hs f e p4 hr)
  have HC := Lib.hid (fun (X : World) (cs : List Value) (hX : IsEx X.heap.size X e cs) => aCheckExpr e _ _ X (Nat.le_refl _) hX (by have := expr_size hr (pw_begin s);omega))
  generalize p4.done (LX s) (checkExpr e) = q at hd1 hd2 ⊢
  generalize p4.fin (LX s) = q0 at HR hd1 hd2
  generalize (checkExpr e) = c at HC hd2
  have Hd1 := Lib.hid hd1;have Hd2 := Lib.hid hd2
  clear hz hd1 hd2 hr hs
  go_enter Tryz.func7,Tryz.ntmps7;(try simp only [List.append_eq,List.cons_append,List.nil_append])
  go_wp2_with fail
  have hT := two_at w ZX [.int .i64 0,.int .i64 0] 28 31
  have hF := two_at' w (.cells ZX.toArray 28) [.int .i64 0,.int .i64 0] 31
  have hb0 := two_below w (.cells ZX.toArray 28) (.cells ([.int .i64 0,.int .i64 0] : List Value).toArray 31)
  have hz0 : ((w.alloc (.cells ZX.toArray 28)).alloc (.cells ([.int .i64 0,.int .i64 0] : List Value).toArray 31)).heap.size = w.heap.size + 2 := by simp
  refine (HR.out _).mono ?_
  rintro e' w1 ⟨hok,hbad,hb⟩
  have hT1 := hT.keep hb
  have hF1 := hF.keep hb
  have hb1 := hb0.trans (hb.mono hb0.size)
  have hlF := hF1.lt
  clear hT hF hb0 hb
  by_cases h0 : q0.err = 0
  · obtain ⟨v,rfl,cs,rfl,hx1⟩ := hok h0
    obtain ⟨pm,cm,pn,cn,pk,ck,rfl,-⟩ := IsEx.cellsE hx1;obtain ⟨d1,d2⟩ := Hd2.out h0;clear hok hbad;have D1 := Lib.hid d1;have D2 := Lib.hid d2;have HT1 := Lib.hid hT1;have HF1 := Lib.hid hF1;have HB1 := Lib.hid hb1;have HX1 := Lib.hid hx1;clear d1 d2 hT1 hF1 hb1 hx1 h0
    go_wp2_with fail
    have hb2 := two_below w1 (.cells ([.int .i64 e.kind,.int .i64 e.fn,.int .i64 e.op,.int .i64 e.num,.string e.metric,.slice pm e.mats.length cm,.int .i64 e.span,.slice pn e.names.length cn,.slice pk e.kids.length ck] : List Value).toArray 28) (.cells ([.int .i64 0,.int .i64 0] : List Value).toArray 31);have hE2 := two_at w1 [.int .i64 e.kind,.int .i64 e.fn,.int .i64 e.op,.int .i64 e.num,.string e.metric,.slice pm e.mats.length cm,.int .i64 e.span,.slice pn e.names.length cn,.slice pk e.kids.length ck] [.int .i64 0,.int .i64 0] 28 31;have hG2 := two_at' w1 (.cells ([.int .i64 e.kind,.int .i64 e.fn,.int .i64 e.op,.int .i64 e.num,.string e.metric,.slice pm e.mats.length cm,.int .i64 e.span,.slice pn e.names.length cn,.slice pk e.kids.length ck] : List Value).toArray 28) [.int .i64 0,.int .i64 0] 31;have hT2 := HT1.out.keep hb2;have hF2 := HF1.out.keep hb2;have hX2 := HX1.out.below hb2;have hB2 := HB1.out.trans (hb2.mono HB1.out.size);generalize (w1.alloc (.cells ([.int .i64 e.kind,.int .i64 e.fn,.int .i64 e.op,.int .i64 e.num,.string e.metric,.slice pm e.mats.length cm,.int .i64 e.span,.slice pn e.names.length cn,.slice pk e.kids.length ck] : List Value).toArray 28)).alloc (.cells ([.int .i64 0,.int .i64 0] : List Value).toArray 31) = w2 at hE2 hG2 hT2 hF2 hX2 hB2;clear hb2 HT1 HF1 HB1 HX1;refine (HC.out _ _ hX2.ex).mono ?_;rintro e' w3 ⟨rfl,hb3⟩;have hE3 := hE2.keep hb3;have hX3 := hX2.below hb3;have HT3 := Lib.hid (hT2.keep hb3);have HF3 := Lib.hid (hF2.keep hb3);have HB3 := Lib.hid (hB2.trans (hb3.mono hB2.size));have HX3 := Lib.hid hX3;have hlE := hE3.lt;have c0 := hE3.cell 0 _ rfl;have c1 := hE3.cell 1 _ rfl;have c2 := hE3.cell 2 _ rfl;have c3 := hE3.cell 3 _ rfl;have c4 := hE3.cell 4 _ rfl;have c5 := hE3.cell 5 _ rfl;have c6 := hE3.cell 6 _ rfl;have c7 := hE3.cell 7 _ rfl;have c8 := hE3.cell 8 _ rfl;clear hE2 hG2 hT2 hF2 hX2 hB2 hb3 hX3 hE3
    by_cases hc : c = 0
    · subst hc
      have HF4 := Lib.hid ((setRow_far w3 w.heap.size #[.int .i64 e.kind,.int .i64 e.fn,.int .i64 e.op,.int .i64 e.num,.string e.metric,.slice pm e.mats.length cm,.int .i64 e.span,.slice pn e.names.length cn,.slice pk e.kids.length ck] (show w.heap.size + 1 ≠ w.heap.size by omega)).trans HF3.out);have HT4 := Lib.hid (setRow_at HT3.out #[.int .i64 e.kind,.int .i64 e.fn,.int .i64 e.op,.int .i64 e.num,.string e.metric,.slice pm e.mats.length cm,.int .i64 e.span,.slice pn e.names.length cn,.slice pk e.kids.length ck])
      go_wp2_with (first | (refine wpList_store_row rfl 28 _ _ rfl w.heap.size #[.int .i64 e.kind,.int .i64 e.fn,.int .i64 e.op,.int .i64 e.num,.string e.metric,.slice pm e.mats.length cm,.int .i64 e.span,.slice pn e.names.length cn,.slice pk e.kids.length ck] rfl rfl 28 _ HT3.out (by kernel_rfl) rfl (by kernel_rfl) ?_) | (refine wpList_store_row rfl 31 _ _ rfl (w.heap.size + 1) #[.int .i64 0,.int .i64 0] rfl rfl 31 _ HF4.out (by kernel_rfl) rfl (by kernel_rfl) ?_))
      refine bodyPost_agg2 (d := _) (d2 := _) rfl rfl ((setRow_far _ _ _ (show w.heap.size ≠ w.heap.size + 1 by omega)).trans HT4.out) Tryz.underlying28 rfl (by kernel_rfl) rfl (setRow_at HF4.out _) Tryz.underlying31 rfl (by kernel_rfl) rfl ⟨below_setRow (below_setRow HB3.out (Nat.le_refl _) _) (by omega) _,Or.inl ⟨D1.out,_,by rw [D2.out],?_⟩⟩;exact ((HX3.out.off (Off.row _ _) (show ¬ _ ≤ w.heap.size by rw [hz0];omega)).off (Off.row _ _) (show ¬ _ ≤ w.heap.size + 1 by rw [hz0];omega)).ex
    · have hcb : (c == 0) = false := by simpa using hc
      have HF4 := Lib.hid ((setRow_far w3 w.heap.size ZX.toArray (show w.heap.size + 1 ≠ w.heap.size by omega)).trans HF3.out);have HT4 := Lib.hid (setRow_at HT3.out ZX.toArray);have D3 := Lib.hid hc;clear hc
      go_wp2_with (first | (refine wpList_store_row rfl 28 _ _ rfl w.heap.size ZX.toArray rfl rfl 28 _ HT3.out (by kernel_rfl) rfl (by kernel_rfl) ?_) | (refine wpList_store_row rfl 31 _ _ rfl (w.heap.size + 1) #[.int .i64 c,.int .i64 0] rfl rfl 31 _ HF4.out (by kernel_rfl) rfl (by kernel_rfl) ?_))
      exact bodyPost_agg2 (d := _) (d2 := _) rfl rfl ((setRow_far _ _ _ (show w.heap.size ≠ w.heap.size + 1 by omega)).trans HT4.out) Tryz.underlying28 rfl (by kernel_rfl) rfl (setRow_at HF4.out _) Tryz.underlying31 rfl (by kernel_rfl) rfl ⟨below_setRow (below_setRow HB3.out (Nat.le_refl _) _) (by omega) _,Or.inr ⟨by rw [D1.out];exact D3.out,by rw [D1.out,D2.out];(try rfl)⟩⟩
  · obtain rfl := hbad h0
    obtain ⟨d1,d2⟩ := Hd1.out h0;clear hok hbad;have h0b : (q0.err == 0) = false := by simpa using h0
    have HT1 := Lib.hid hT1;have HF1 := Lib.hid hF1;have HB1 := Lib.hid hb1;have D1 := Lib.hid d1;have D2 := Lib.hid d2;have H0 := Lib.hid h0;clear hT1 hF1 hb1 d1 d2 h0
    go_upto_region 3 with fail
    have hb2 := two_below w1 (.cells ZX.toArray 28) (.cells ([.int .i64 q0.err,.int .i64 q0.at'] : List Value).toArray 31);have hG2 := two_at' w1 (.cells ZX.toArray 28) [.int .i64 q0.err,.int .i64 q0.at'] 31;have hT2 := HT1.out.keep hb2;have hF2 := HF1.out.keep hb2;have hB2 := HB1.out.trans (hb2.mono HB1.out.size);generalize (w1.alloc (.cells ZX.toArray 28)).alloc (.cells ([.int .i64 q0.err,.int .i64 q0.at'] : List Value).toArray 31) = w2 at hG2 hT2 hF2 hB2;clear hb2 HT1 HF1 HB1;refine wp_region_held_drew (S := fun X => Blk X (w1.heap.size + 1) 31 [.int .i64 q0.err,.int .i64 q0.at']) (by kernel_rfl) hG2.drew (fun hHeld => ?_);have hT3 := hT2.drew;have hF3 := hF2.drew;have hB3 := hB2.drew;have hG3 := hG2.drew;generalize w2.drew = wd at hT3 hF3 hB3 hG3 hHeld;clear hG2 hT2 hF2 hB2
    (refine htk 0 15 ?_ rfl ?_ ?_;rotate_left;(intro w hSw;clear hSw;go_simp);(try with_reducible rfl);simp only [lsz,lss])
    (refine htk 1 16 (.agg ([.int .i64 q0.err,.int .i64 q0.at'] : List Value).toArray) rfl ?_ ?_;(intro w hSw;have q0 := hSw.cell 0 _ rfl;have q1 := hSw.cell 1 _ rfl;go_simp);simp only [lsz,lss])
    refine held_store 2 rfl (by kernel_rfl) (by kernel_rfl) rfl 28 _ _ rfl w.heap.size ZX ZX 28 rfl rfl hT3 (by kernel_rfl) rfl (by kernel_rfl) ((setRow_far _ _ _ (show w1.heap.size + 1 ≠ w.heap.size by omega)).trans hG3) (fun hHeld => ?_);have hT4 : Blk (wd.setRow w.heap.size ZX.toArray) w.heap.size 28 ZX := setRow_at hT3 _;have hF4 : Blk (wd.setRow w.heap.size ZX.toArray) (w.heap.size + 1) 31 [.int .i64 0,.int .i64 0] := (setRow_far _ _ _ (show w.heap.size + 1 ≠ w.heap.size by omega)).trans hF3;have hG4 : Blk (wd.setRow w.heap.size ZX.toArray) (w1.heap.size + 1) 31 [.int .i64 q0.err,.int .i64 q0.at'] := (setRow_far _ _ _ (show w1.heap.size + 1 ≠ w.heap.size by omega)).trans hG3;have hB4 := below_setRow hB3 (Nat.le_refl _) ZX.toArray;generalize wd.setRow w.heap.size ZX.toArray = we at hT4 hF4 hB4 hG4 hHeld;refine held_store 3 rfl (by kernel_rfl) (by kernel_rfl) rfl 31 _ _ rfl (w.heap.size + 1) [.int .i64 q0.err,.int .i64 q0.at'] [.int .i64 0,.int .i64 0] 31 rfl rfl hF4 (by kernel_rfl) rfl (by kernel_rfl) ((setRow_far _ _ _ (show w1.heap.size + 1 ≠ w.heap.size + 1 by omega)).trans hG4) (fun hHeld => ?_);refine wpAnyH_done (by kernel_rfl) ?_ _;go_wp2;exact bodyPost_agg2 (d := _) (d2 := _) rfl rfl ((setRow_far _ _ _ (show w.heap.size ≠ w.heap.size + 1 by omega)).trans hT4) Tryz.underlying28 rfl (by kernel_rfl) rfl (setRow_at hF4 _) Tryz.underlying31 rfl (by kernel_rfl) rfl ⟨below_setRow hB4 (by omega) _,Or.inr ⟨by rw [D1.out];exact H0.out,by rw [D1.out,D2.out];(try rfl)⟩⟩
theorem tQuery (s : ByteArray) (w : World) (hs : s.size ≤ maxLen) (e : Ex) (p4 : PS) (f : Nat) (hr : pExpr (LX s) f (P3 s) = some (e,p4)) :
    Calls Tryz.prog 13 #[.string s] w (QryR s e (p4.done (LX s) (checkQuery (EV s) e)) w) := by
  have hz : p4.err = 0 → p4.at' = 0 := fun h => by
    have hza : Za (PX s) p4 := (((Za.need _ _ _).trans (.token _ _ _)).trans (.need _ _ _)).trans ((zas (LX s) f).expr _ _ _ hr);obtain ⟨a,b⟩ := hza h;rw [b];exact px_at a
  obtain ⟨hd1,hd2⟩ := done_fin (L := LX s) hz (checkQuery (EV s) e)
  have HR := Lib.hid (fun (X : World) => readQ s X hs f e p4 hr)
  have HC := Lib.hid (fun (X : World) (cs : List Value) (hX : IsEx X.heap.size X e cs) => aCheck (EV s) e _ _ X (Nat.le_refl _) hX (by have := expr_size hr (pw3 s);omega))
  rw [show (((PX s).need (LX s) [101,118,101,114,121]).token (LX s) 2).1.num = EV s from rfl] at HR
  generalize p4.done (LX s) (checkQuery (EV s) e) = q at hd1 hd2 ⊢
  generalize p4.fin (LX s) = q0 at HR hd1 hd2
  generalize (checkQuery (EV s) e) = c at HC hd2
  have Hd1 := Lib.hid hd1;have Hd2 := Lib.hid hd2
  clear hz hd1 hd2 hr hs
  go_enter Tryz.func13,Tryz.ntmps13;(try simp only [List.append_eq,List.cons_append,List.nil_append])
  go_wp2_with fail
  have hT := two_at w ZQr [.int .i64 0,.int .i64 0] 42 31
  have hF := two_at' w (.cells ZQr.toArray 42) [.int .i64 0,.int .i64 0] 31
  have hb0 := two_below w (.cells ZQr.toArray 42) (.cells ([.int .i64 0,.int .i64 0] : List Value).toArray 31)
  have hz0 : ((w.alloc (.cells ZQr.toArray 42)).alloc (.cells ([.int .i64 0,.int .i64 0] : List Value).toArray 31)).heap.size = w.heap.size + 2 := by simp
  refine (HR.out _).mono ?_
  rintro e' w1 ⟨hok,hbad,hb⟩
  have hT1 := hT.keep hb
  have hF1 := hF.keep hb
  have hb1 := hb0.trans (hb.mono hb0.size)
  have hlF := hF1.lt
  clear hT hF hb0 hb
  by_cases h0 : q0.err = 0
  · obtain ⟨v,rfl,cs,rfl,hx1⟩ := hok h0
    obtain ⟨pm,cm,pn,cn,pk,ck,rfl,-⟩ := IsEx.cellsE hx1;obtain ⟨d1,d2⟩ := Hd2.out h0;clear hok hbad;have D1 := Lib.hid d1;have D2 := Lib.hid d2;have HT1 := Lib.hid hT1;have HF1 := Lib.hid hF1;have HB1 := Lib.hid hb1;have HX1 := Lib.hid hx1;clear d1 d2 hT1 hF1 hb1 hx1 h0
    go_wp2_with fail
    have hb2 := two_below w1 (.cells ([.int .i64 (EV s),.int .i64 e.kind,.int .i64 e.fn,.int .i64 e.op,.int .i64 e.num,.string e.metric,.slice pm e.mats.length cm,.int .i64 e.span,.slice pn e.names.length cn,.slice pk e.kids.length ck] : List Value).toArray 42) (.cells ([.int .i64 0,.int .i64 0] : List Value).toArray 31);have hE2 := two_at w1 [.int .i64 (EV s),.int .i64 e.kind,.int .i64 e.fn,.int .i64 e.op,.int .i64 e.num,.string e.metric,.slice pm e.mats.length cm,.int .i64 e.span,.slice pn e.names.length cn,.slice pk e.kids.length ck] [.int .i64 0,.int .i64 0] 42 31;have hG2 := two_at' w1 (.cells ([.int .i64 (EV s),.int .i64 e.kind,.int .i64 e.fn,.int .i64 e.op,.int .i64 e.num,.string e.metric,.slice pm e.mats.length cm,.int .i64 e.span,.slice pn e.names.length cn,.slice pk e.kids.length ck] : List Value).toArray 42) [.int .i64 0,.int .i64 0] 31;have hT2 := HT1.out.keep hb2;have hF2 := HF1.out.keep hb2;have hX2 := HX1.out.below hb2;have hB2 := HB1.out.trans (hb2.mono HB1.out.size);generalize (w1.alloc (.cells ([.int .i64 (EV s),.int .i64 e.kind,.int .i64 e.fn,.int .i64 e.op,.int .i64 e.num,.string e.metric,.slice pm e.mats.length cm,.int .i64 e.span,.slice pn e.names.length cn,.slice pk e.kids.length ck] : List Value).toArray 42)).alloc (.cells ([.int .i64 0,.int .i64 0] : List Value).toArray 31) = w2 at hE2 hG2 hT2 hF2 hX2 hB2;clear hb2 HT1 HF1 HB1 HX1;refine (HC.out _ _ hX2.ex).mono ?_;rintro e' w3 ⟨rfl,hb3⟩;have hE3 := hE2.keep hb3;have hX3 := hX2.below hb3;have HT3 := Lib.hid (hT2.keep hb3);have HF3 := Lib.hid (hF2.keep hb3);have HB3 := Lib.hid (hB2.trans (hb3.mono hB2.size));have HX3 := Lib.hid hX3;have hlE := hE3.lt;have c0 := hE3.cell 0 _ rfl;have c1 := hE3.cell 1 _ rfl;have c2 := hE3.cell 2 _ rfl;have c3 := hE3.cell 3 _ rfl;have c4 := hE3.cell 4 _ rfl;have c5 := hE3.cell 5 _ rfl;have c6 := hE3.cell 6 _ rfl;have c7 := hE3.cell 7 _ rfl;have c8 := hE3.cell 8 _ rfl;have c9 := hE3.cell 9 _ rfl;clear hE2 hG2 hT2 hF2 hX2 hB2 hb3 hX3 hE3
    by_cases hc : c = 0
    · subst hc
      have HF4 := Lib.hid ((setRow_far w3 w.heap.size #[.int .i64 (EV s),.int .i64 e.kind,.int .i64 e.fn,.int .i64 e.op,.int .i64 e.num,.string e.metric,.slice pm e.mats.length cm,.int .i64 e.span,.slice pn e.names.length cn,.slice pk e.kids.length ck] (show w.heap.size + 1 ≠ w.heap.size by omega)).trans HF3.out);have HT4 := Lib.hid (setRow_at HT3.out #[.int .i64 (EV s),.int .i64 e.kind,.int .i64 e.fn,.int .i64 e.op,.int .i64 e.num,.string e.metric,.slice pm e.mats.length cm,.int .i64 e.span,.slice pn e.names.length cn,.slice pk e.kids.length ck])
      go_wp2_with (first | (refine wpList_store_row rfl 42 _ _ rfl w.heap.size #[.int .i64 (EV s),.int .i64 e.kind,.int .i64 e.fn,.int .i64 e.op,.int .i64 e.num,.string e.metric,.slice pm e.mats.length cm,.int .i64 e.span,.slice pn e.names.length cn,.slice pk e.kids.length ck] rfl rfl 42 _ HT3.out (by kernel_rfl) rfl (by kernel_rfl) ?_) | (refine wpList_store_row rfl 31 _ _ rfl (w.heap.size + 1) #[.int .i64 0,.int .i64 0] rfl rfl 31 _ HF4.out (by kernel_rfl) rfl (by kernel_rfl) ?_))
      refine bodyPost_agg2 (d := _) (d2 := _) rfl rfl ((setRow_far _ _ _ (show w.heap.size ≠ w.heap.size + 1 by omega)).trans HT4.out) Tryz.underlying42 rfl (by kernel_rfl) rfl (setRow_at HF4.out _) Tryz.underlying31 rfl (by kernel_rfl) rfl ⟨below_setRow (below_setRow HB3.out (Nat.le_refl _) _) (by omega) _,Or.inl ⟨D1.out,_,by rw [D2.out],?_⟩⟩;exact ((HX3.out.off (Off.row _ _) (show ¬ _ ≤ w.heap.size by rw [hz0];omega)).off (Off.row _ _) (show ¬ _ ≤ w.heap.size + 1 by rw [hz0];omega)).ex
    · have hcb : (c == 0) = false := by simpa using hc
      have HF4 := Lib.hid ((setRow_far w3 w.heap.size ZQr.toArray (show w.heap.size + 1 ≠ w.heap.size by omega)).trans HF3.out);have HT4 := Lib.hid (setRow_at HT3.out ZQr.toArray);have D3 := Lib.hid hc;clear hc
      go_wp2_with (first | (refine wpList_store_row rfl 42 _ _ rfl w.heap.size ZQr.toArray rfl rfl 42 _ HT3.out (by kernel_rfl) rfl (by kernel_rfl) ?_) | (refine wpList_store_row rfl 31 _ _ rfl (w.heap.size + 1) #[.int .i64 c,.int .i64 0] rfl rfl 31 _ HF4.out (by kernel_rfl) rfl (by kernel_rfl) ?_))
      exact bodyPost_agg2 (d := _) (d2 := _) rfl rfl ((setRow_far _ _ _ (show w.heap.size ≠ w.heap.size + 1 by omega)).trans HT4.out) Tryz.underlying42 rfl (by kernel_rfl) rfl (setRow_at HF4.out _) Tryz.underlying31 rfl (by kernel_rfl) rfl ⟨below_setRow (below_setRow HB3.out (Nat.le_refl _) _) (by omega) _,Or.inr ⟨by rw [D1.out];exact D3.out,by rw [D1.out,D2.out];(try rfl)⟩⟩
  · obtain rfl := hbad h0
    obtain ⟨d1,d2⟩ := Hd1.out h0;clear hok hbad;have h0b : (q0.err == 0) = false := by simpa using h0
    have HT1 := Lib.hid hT1;have HF1 := Lib.hid hF1;have HB1 := Lib.hid hb1;have D1 := Lib.hid d1;have D2 := Lib.hid d2;have H0 := Lib.hid h0;clear hT1 hF1 hb1 d1 d2 h0
    go_upto_region 3 with fail
    have hb2 := two_below w1 (.cells ZQr.toArray 42) (.cells ([.int .i64 q0.err,.int .i64 q0.at'] : List Value).toArray 31);have hG2 := two_at' w1 (.cells ZQr.toArray 42) [.int .i64 q0.err,.int .i64 q0.at'] 31;have hT2 := HT1.out.keep hb2;have hF2 := HF1.out.keep hb2;have hB2 := HB1.out.trans (hb2.mono HB1.out.size);generalize (w1.alloc (.cells ZQr.toArray 42)).alloc (.cells ([.int .i64 q0.err,.int .i64 q0.at'] : List Value).toArray 31) = w2 at hG2 hT2 hF2 hB2;clear hb2 HT1 HF1 HB1;refine wp_region_held_drew (S := fun X => Blk X (w1.heap.size + 1) 31 [.int .i64 q0.err,.int .i64 q0.at']) (by kernel_rfl) hG2.drew (fun hHeld => ?_);have hT3 := hT2.drew;have hF3 := hF2.drew;have hB3 := hB2.drew;have hG3 := hG2.drew;generalize w2.drew = wd at hT3 hF3 hB3 hG3 hHeld;clear hG2 hT2 hF2 hB2
    (refine htk 0 15 ?_ rfl ?_ ?_;rotate_left;(intro w hSw;clear hSw;go_simp);(try with_reducible rfl);simp only [lsz,lss])
    (refine htk 1 16 (.agg ([.int .i64 q0.err,.int .i64 q0.at'] : List Value).toArray) rfl ?_ ?_;(intro w hSw;have q0 := hSw.cell 0 _ rfl;have q1 := hSw.cell 1 _ rfl;go_simp);simp only [lsz,lss])
    refine held_store 2 rfl (by kernel_rfl) (by kernel_rfl) rfl 42 _ _ rfl w.heap.size ZQr ZQr 42 rfl rfl hT3 (by kernel_rfl) rfl (by kernel_rfl) ((setRow_far _ _ _ (show w1.heap.size + 1 ≠ w.heap.size by omega)).trans hG3) (fun hHeld => ?_);have hT4 : Blk (wd.setRow w.heap.size ZQr.toArray) w.heap.size 42 ZQr := setRow_at hT3 _;have hF4 : Blk (wd.setRow w.heap.size ZQr.toArray) (w.heap.size + 1) 31 [.int .i64 0,.int .i64 0] := (setRow_far _ _ _ (show w.heap.size + 1 ≠ w.heap.size by omega)).trans hF3;have hG4 : Blk (wd.setRow w.heap.size ZQr.toArray) (w1.heap.size + 1) 31 [.int .i64 q0.err,.int .i64 q0.at'] := (setRow_far _ _ _ (show w1.heap.size + 1 ≠ w.heap.size by omega)).trans hG3;have hB4 := below_setRow hB3 (Nat.le_refl _) ZQr.toArray;generalize wd.setRow w.heap.size ZQr.toArray = we at hT4 hF4 hB4 hG4 hHeld;refine held_store 3 rfl (by kernel_rfl) (by kernel_rfl) rfl 31 _ _ rfl (w.heap.size + 1) [.int .i64 q0.err,.int .i64 q0.at'] [.int .i64 0,.int .i64 0] 31 rfl rfl hF4 (by kernel_rfl) rfl (by kernel_rfl) ((setRow_far _ _ _ (show w1.heap.size + 1 ≠ w.heap.size + 1 by omega)).trans hG4) (fun hHeld => ?_);refine wpAnyH_done (by kernel_rfl) ?_ _;go_wp2;exact bodyPost_agg2 (d := _) (d2 := _) rfl rfl ((setRow_far _ _ _ (show w.heap.size ≠ w.heap.size + 1 by omega)).trans hT4) Tryz.underlying42 rfl (by kernel_rfl) rfl (setRow_at hF4 _) Tryz.underlying31 rfl (by kernel_rfl) rfl ⟨below_setRow hB4 (by omega) _,Or.inr ⟨by rw [D1.out];exact H0.out,by rw [D1.out,D2.out];(try rfl)⟩⟩
def MtR (ms : List Mat) (q : PS) (w : World) (e' : Ending) (w' : World) : Prop := Below w.heap.size w w' ∧
  ((q.err = 0 ∧ ∃ v,e' = .returned (.tuple #[v,.agg #[.int .i64 0,.int .i64 q.at']]) ∧ IsMats w'.heap.size w' v ms) ∨
   (q.err ≠ 0 ∧ e' = .returned (.tuple #[.slice none 0 0,.agg #[.int .i64 q.err,.int .i64 q.at']])))
end Go.Proofs.YtpmbamfpmmdhcaaGreat
