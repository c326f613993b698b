/- The reference's Needed; Keep of both sides. -/
import Derived.Test.YtdmojmadklckbaaGr9
namespace Go.Proofs.Ytdmojmadklckbaa
open Go.RowKit
set_option linter.unusedSimpArgs false
set_option linter.unusedVariables false

set_option maxRecDepth 100000 in
set_option maxHeartbeats 2000000 in
theorem rNeeded (ev mark time : Int) (e : Ex) (cs : List Value) (n : Nat) (w : World) (hn : n ≤ w.heap.size) (he : IsEx n w e cs) (hsz : e.size ≤ 1000000) (hmk : i64 mark) (hti : i64 time) :
    Calls Try.prog 28 #[.agg (.int .i64 ev :: cs).toArray, .int .i64 mark, .int .i64 time] w fun e' w' => e' = .returned (.bool (neededT ev e mark time)) ∧ Below w.heap.size w w' := by
  have He := Lib.hid he
  have hn1 : i64 (max mark (wrap64 (time - 1))) := by unfold i64 at *; unfold wrap64; omega
  have HN := Lib.hid (fun wx => rNext ev (max mark (wrap64 (time - 1))) e cs wx he.qc hn1)
  have HC := Lib.hid (fun (N : Nat) (W : World) (h1 : N ≤ W.heap.size) (h : IsEx N W e cs) => rCheck ev e cs N W h1 h hsz)
  have HLv := Lib.hid (fun (N : Nat) (W : World) (h1 : N ≤ W.heap.size) (h : IsEx N W e cs) => rHorizon e cs N W h1 h hsz)
  obtain ⟨pm, cm, pn, cn, pk, ck, rfl, -⟩ := he.cellsE
  clear he
  obtain ⟨hm1, hm2⟩ := hmk
  have hti' := Lib.hid hti
  obtain ⟨ht1, ht2⟩ := hti
  have hcase : ((¬ checkQuery ev e = 0 ∧ neededT ev e mark time = false) ∨ (checkQuery ev e = 0 ∧ nextT ev (max mark (wrap64 (time - 1))) = none ∧ neededT ev e mark time = false) ∨ (checkQuery ev e = 0 ∧ ∃ t, nextT ev (max mark (wrap64 (time - 1))) = some t ∧ neededT ev e mark time = inW e.hor t time)) := by
    by_cases hck : checkQuery ev e = 0
    · cases hnx : nextT ev (max mark (wrap64 (time - 1))) with
      | none => exact .inr (.inl ⟨hck, rfl, by unfold neededT; rw [hnx]; simp⟩)
      | some t => exact .inr (.inr ⟨hck, t, rfl, by unfold neededT; rw [hnx, decide_eq_true hck]; rfl⟩)
    · exact .inl ⟨hck, by unfold neededT; rw [decide_eq_false hck]; rfl⟩
  have hmax : max mark (wrap64 (time - 1)) = if mark < wrap64 (time - 1) then wrap64 (time - 1) else mark := by split <;> omega
  rw [hmax] at hcase HN hn1
  have Hcase := Lib.hid hcase; clear hcase hmax
  unfold nextV at HN
  go_enter Try.func28, Try.ntmps28; (try simp only [List.append_eq, List.cons_append, List.nil_append])
  go_upto_region 0 with fail
  go_cut [3, 6] (fun s3 s6 wx => s3 = .pointer (some ⟨w.heap.size, 0, none⟩) ∧ s6 = .bool false ∧ Below w.heap.size w wx ∧ Blk wx w.heap.size 28 [.int .i64 ev, .int .i64 e.kind, .int .i64 e.fn, .int .i64 e.op, .int .i64 e.num, .string e.metric, .slice pm e.mats.length cm, .int .i64 e.span, .slice pn e.names.length cn, .slice pk e.kids.length ck])
  case first =>
    go_wp2
    go_meet
    exact ⟨rfl, rfl, (Below.refl _ _).alloc (Nat.le_refl _) _, Blk.new _ _ _⟩
  case rest =>
    obtain ⟨rfl, rfl, hw0, hq⟩ := hcut
    obtain ⟨W, rfl⟩ : ∃ W : World, W = wc := ⟨_, rfl⟩
    have HW0 := Lib.hid hw0; clear hw0
    have c0 := hq.cell 0 _ rfl; have c1 := hq.cell 1 _ rfl; have c2 := hq.cell 2 _ rfl; have c3 := hq.cell 3 _ rfl; have c4 := hq.cell 4 _ rfl; have c5 := hq.cell 5 _ rfl; have c6 := hq.cell 6 _ rfl; have c7 := hq.cell 7 _ rfl; have c8 := hq.cell 8 _ rfl; have c9 := hq.cell 9 _ rfl
    have hl1 := hq.lt
    have HQ := Lib.hid hq; clear hq
    rcases Hcase.out with ⟨hck, hr⟩ | ⟨hck, hnx, hr⟩ | ⟨hck, t, hnx, hr⟩
    · have hck' : (checkQuery ev e != 0) = true := by simpa using hck
      have Hr := Lib.hid hr; clear hr hck
      go_wp2_with (go_at_call 9; refine (HC.out n _ (Nat.le_trans hn HW0.out.size) (He.out.mono (HW0.out.mono hn) (Nat.le_refl _))).mono ?_; rintro e' w1 ⟨rfl, hb1⟩; have HB := Lib.hid hb1; clear hb1)
      go_ret
      exact ⟨ret_bool Hr.out.symm, HW0.out.trans (HB.out.mono HW0.out.size)⟩
    · have Hr := Lib.hid hr; clear hr
      rw [hnx] at HN
      clear hnx
      go_wp2_with (first
        | (go_at_call 9; refine (HC.out n _ (Nat.le_trans hn HW0.out.size) (He.out.mono (HW0.out.mono hn) (Nat.le_refl _))).mono ?_; rintro e' w1 ⟨rfl, hb1⟩; rw [hck]; have HB := Lib.hid hb1; clear hb1; have hq1 := HQ.out.mono HB.out HQ.out.lt; have d0 := hq1.cell 0 _ rfl; have d1 := hq1.cell 1 _ rfl; have d2 := hq1.cell 2 _ rfl; have d3 := hq1.cell 3 _ rfl; have d4 := hq1.cell 4 _ rfl; have d5 := hq1.cell 5 _ rfl; have d6 := hq1.cell 6 _ rfl; have d7 := hq1.cell 7 _ rfl; have d8 := hq1.cell 8 _ rfl; have d9 := hq1.cell 9 _ rfl; clear hq1; have hs1 := HB.out.size)
        | (go_at_call 21; refine (HN.out _).mono ?_; rintro e' w2 ⟨rfl, hb2⟩; have HB2 := Lib.hid (HB.out.trans (hb2.mono HB.out.size)); clear hb2))
      all_goals go_ret
      all_goals exact ⟨ret_bool Hr.out.symm, HW0.out.trans (HB2.out.mono HW0.out.size)⟩
    · have Hr := Lib.hid hr; clear hr
      have hb := nextT_bd hnx
      have HTb : Hid (i64 t) := by have h1 := hb.2.2.1; have h2 := hb.2.2.2.1; unfold MT at h2; show _ ∧ _; omega
      have HHb : Hid (i64 e.hor) := by have := hor_bd (check_expr hck); show _ ∧ _; omega
      rw [hnx] at HN
      clear hnx hb
      go_wp2_with (first
        | (go_at_call 9; refine (HC.out n _ (Nat.le_trans hn HW0.out.size) (He.out.mono (HW0.out.mono hn) (Nat.le_refl _))).mono ?_; rintro e' w1 ⟨rfl, hb1⟩; rw [hck]; have HB := Lib.hid hb1; clear hb1; have hq1 := HQ.out.mono HB.out HQ.out.lt; have d0 := hq1.cell 0 _ rfl; have d1 := hq1.cell 1 _ rfl; have d2 := hq1.cell 2 _ rfl; have d3 := hq1.cell 3 _ rfl; have d4 := hq1.cell 4 _ rfl; have d5 := hq1.cell 5 _ rfl; have d6 := hq1.cell 6 _ rfl; have d7 := hq1.cell 7 _ rfl; have d8 := hq1.cell 8 _ rfl; have d9 := hq1.cell 9 _ rfl; clear hq1; have hs1 := HB.out.size)
        | (go_at_call 21; refine (HN.out _).mono ?_; rintro e' w2 ⟨rfl, hb2⟩; have HB2 := Lib.hid (HB.out.trans (hb2.mono HB.out.size)); clear hb2; have hq2 := HQ.out.mono HB2.out HQ.out.lt; have g0 := hq2.cell 0 _ rfl; have g1 := hq2.cell 1 _ rfl; have g2 := hq2.cell 2 _ rfl; have g3 := hq2.cell 3 _ rfl; have g4 := hq2.cell 4 _ rfl; have g5 := hq2.cell 5 _ rfl; have g6 := hq2.cell 6 _ rfl; have g7 := hq2.cell 7 _ rfl; have g8 := hq2.cell 8 _ rfl; have g9 := hq2.cell 9 _ rfl; clear hq2; have hs2 := HB2.out.size; have hl3 : w.heap.size < w2.heap.size := Nat.lt_of_lt_of_le hl1 hs2)
        | (go_at_call 10; refine (HLv.out n _ (by have := HW0.out.size; omega) (He.out.mono ((HW0.out.trans (HB2.out.mono HW0.out.size)).mono hn) (Nat.le_refl _))).mono ?_; rintro e' w3 ⟨rfl, hb3⟩; have HB3 := Lib.hid hb3; clear hb3)
        | (go_at_call 27; refine (rIn e.hor t time _ HHb.out HTb.out hti'.out).mono ?_; rintro e' w' ⟨rfl, rfl⟩))
      all_goals go_ret
      all_goals refine ⟨ret_bool Hr.out.symm, ?_⟩
      all_goals have h1 := HW0.out.trans (HB2.out.mono HW0.out.size)
      all_goals exact h1.trans (HB3.out.mono h1.size)

/-- Up to which time a query needs nothing. -/
def keepT (ev : Int) (e : Ex) (mark : Int) : Int := match nextT ev mark with
  | some t => min mark (max 0 (t - e.hor))
  | none => mark

set_option maxRecDepth 100000 in
set_option maxHeartbeats 2000000 in
theorem gKeep1 (ev mark : Int) (e : Ex) (cs : List Value) (n : Nat) (w : World) (hn : n ≤ w.heap.size) (he : IsEx n w e cs) (hsz : e.size ≤ 1000000) (hmk : i64 mark) (hck : checkQuery ev e = 0) :
    Calls Try.prog 37 #[.agg (.int .i64 ev :: cs).toArray, .int .i64 mark] w fun e' w' => e' = .returned (.int .i64 (keepT ev e mark)) ∧ Below w.heap.size w w' := by
  have He := Lib.hid he
  have HN := Lib.hid (fun wx => gNext ev mark e cs wx he.qc hmk)
  have HLv := Lib.hid (fun (N : Nat) (W : World) (h1 : N ≤ W.heap.size) (h : IsEx N W e cs) => aHorizon e cs N W h1 h hsz)
  obtain ⟨pm, cm, pn, cn, pk, ck, rfl, -⟩ := he.cellsE
  clear he
  obtain ⟨hm1, hm2⟩ := hmk
  have hh := hor_bd (check_expr hck)
  obtain ⟨hh1, hh2⟩ := hh
  clear hck
  unfold nextV at HN
  have h1 := Box.new w ([.int .i64 ev, .int .i64 e.kind, .int .i64 e.fn, .int .i64 e.op, .int .i64 e.num, .string e.metric, .slice pm e.mats.length cm, .int .i64 e.span, .slice pn e.names.length cn, .slice pk e.kids.length ck]) 28
  cases hnx : nextT ev mark with
  | none =>
    have Hr : Hid (keepT ev e mark = mark) := by show _ = _; unfold keepT; rw [hnx]
    rw [hnx] at HN
    clear hnx h1
    go_enter Try.func37, Try.ntmps37; (try simp only [List.append_eq, List.cons_append, List.nil_append])
    go_wp2_with (go_at_call 15; refine (HN.out _).mono ?_; rintro e' w1 ⟨rfl, hb⟩; have HB := Lib.hid hb; clear hb)
    go_ret
    exact ⟨ret_int Hr.out.symm, ((Below.refl _ _).alloc (Nat.le_refl _) _).trans (HB.out.mono (by simp))⟩
  | some t =>
    have hb := nextT_bd hnx
    have ht0 := hb.2.2.1
    have ht1 := hb.2.2.2.1
    unfold MT at ht1
    have Hr : Hid (keepT ev e mark = min mark (max 0 (t - e.hor))) := by show _ = _; unfold keepT; rw [hnx]
    rw [hnx] at HN
    clear hnx h1 hb
    go_enter Try.func37, Try.ntmps37; (try simp only [List.append_eq, List.cons_append, List.nil_append])
    go_wp2_with (first
      | (go_at_call 15; refine (HN.out _).mono ?_; rintro e' w1 ⟨rfl, hb⟩; have hq := (Blk.new w ([.int .i64 ev, .int .i64 e.kind, .int .i64 e.fn, .int .i64 e.op, .int .i64 e.num, .string e.metric, .slice pm e.mats.length cm, .int .i64 e.span, .slice pn e.names.length cn, .slice pk e.kids.length ck]) 28).keep hb; have c0 := hq.cell 0 _ rfl; have c1 := hq.cell 1 _ rfl; have c2 := hq.cell 2 _ rfl; have c3 := hq.cell 3 _ rfl; have c4 := hq.cell 4 _ rfl; have c5 := hq.cell 5 _ rfl; have c6 := hq.cell 6 _ rfl; have c7 := hq.cell 7 _ rfl; have c8 := hq.cell 8 _ rfl; have c9 := hq.cell 9 _ rfl; clear hq; have HB := Lib.hid (((Below.refl w.heap.size w).alloc (Nat.le_refl _) _).trans (hb.mono (by simp))); clear hb)
      | (go_at_call 53; refine (HLv.out n _ (Nat.le_trans hn HB.out.size) (He.out.mono (HB.out.mono hn) (Nat.le_refl _))).mono ?_; rintro e' w2 ⟨rfl, hb2⟩; have HB2 := Lib.hid (HB.out.trans (hb2.mono HB.out.size)); clear hb2))
    all_goals go_ret
    all_goals refine ⟨ret_int ?_, HB2.out⟩
    all_goals rw [Hr.out]
    all_goals (repeat' split)
    all_goals omega

end Go.Proofs.Ytdmojmadklckbaa
