/- grid.Needed, grid.keep; the reference's Needed. -/
import Derived.Test.YtdmojmadklckbaaGr8
import Derived.Test.YtdmojmadklckbaaHor
import Derived.Test.YtdmojmadklckbaaAst6
namespace Go.Proofs.Ytdmojmadklckbaa
open Go.RowKit
set_option linter.unusedSimpArgs false
set_option linter.unusedVariables false

def i64 (x : Int) : Prop := -9223372036854775808 ≤ x ∧ x ≤ 9223372036854775807

/-- Of a tree that may be, the windows' spans are from 1 to 2^30. -/
theorem leaf_span {e : Ex} (h : checkExpr e = 0) : ∀ x ∈ e.leaves, 1 ≤ x.span ∧ x.span ≤ 1073741824 := by
  intro x hx
  rw [leaves_filter, List.mem_filter] at hx
  have hk : x.kind = 1 := by simpa using hx.2
  have hr : e.flat.all rightB = true := by
    unfold checkExpr at h
    split at h
    · cases h
    · split at h
      · assumption
      · cases h
  have h1 := List.all_eq_true.1 hr x hx.1
  unfold rightB at h1
  simp only [Bool.and_eq_true] at h1
  have h2 := h1.2
  rw [hk] at h2
  exact ((rightH_1 _ _ _ _ _ _ _ _).1 h2).2.2.2.2.2.2
theorem check_expr {ev : Int} {e : Ex} (h : checkQuery ev e = 0) : checkExpr e = 0 := by
  unfold checkQuery at h
  split at h
  · exact h
  · cases h
theorem horTo_le {l : List Ex} {b : Int} (hb : 0 ≤ b) (h : ∀ x ∈ l, x.span ≤ b) : horTo l ≤ b := by
  have key : ∀ (l : List Ex) (a : Int), a ≤ b → (∀ x ∈ l, x.span ≤ b) → l.foldl (fun n x => max n x.span) a ≤ b := by
    intro l
    induction l with
    | nil => intro a h _; exact h
    | cons x l ih => intro a h0 h; rw [List.foldl_cons]; exact ih _ (by have := h x (by simp); omega) (fun y hy => h y (by simp [hy]))
  exact key l 0 hb h
theorem hor_bd {e : Ex} (h : checkExpr e = 0) : 0 ≤ e.hor ∧ e.hor ≤ 1073741824 := ⟨horTo_bd _, horTo_le (by omega) fun x hx => (leaf_span h x hx).2⟩
/-- A window of the greatest span, or of any. -/
theorem any_inW (l : List Ex) (t time : Int) : (l.any fun x => inW x.span t time) = inW (horTo l) t time := by
  have key : ∀ (l : List Ex) (a : Int), (inW a t time || l.any fun x => inW x.span t time) = inW (l.foldl (fun n x => max n x.span) a) t time := by
    intro l
    induction l with
    | nil => intro a; simp
    | cons x l ih =>
      intro a
      rw [List.foldl_cons, ← ih, List.any_cons, ← Bool.or_assoc]
      congr 1
      unfold inW
      rw [Bool.eq_iff_iff]
      simp only [Bool.or_eq_true, decide_eq_true_eq]
      omega
  have := key l 0
  have h0 : inW 0 t time = false := by unfold inW; simp
  rw [h0, Bool.false_or] at this
  exact this

/-- Is a sample needed? -/
def neededT (ev : Int) (e : Ex) (mark time : Int) : Bool := decide (checkQuery ev e = 0) && (match nextT ev (max mark (wrap64 (time - 1))) with
  | some t => inW e.hor t time
  | none => false)

set_option maxRecDepth 100000 in
set_option maxHeartbeats 1000000 in
theorem gNeed1 (t time : Int) (e : Ex) (cs : List Value) (tB mB n : Nat) (w : World) (he : IsEx n w e cs) (hsp : i64 e.span) (ht : i64 t) (hti : i64 time) (h1 : w.cell? ⟨tB, 0, none⟩ = some (.int .i64 t)) (h2 : w.cell? ⟨mB, 0, none⟩ = some (.int .i64 time)) :
    Calls Try.prog 36 #[.agg cs.toArray, .pointer (some ⟨tB, 0, none⟩), .pointer (some ⟨mB, 0, none⟩)] w fun e' w' => e' = .returned (.bool (inW e.span t time)) ∧ Below w.heap.size w w' := by
  have HI := Lib.hid (fun wx => gIn e.span t time wx hsp ht hti)
  obtain ⟨pm, cm, pn, cn, pk, ck, rfl, -⟩ := he.cellsE
  clear he hsp ht hti
  have hl1 := World.block_lt_of_cell? w _ h1
  have hl2 := World.block_lt_of_cell? w _ h2
  go_enter Try.func36, Try.ntmps36; (try simp only [List.append_eq, List.cons_append, List.nil_append])
  go_wp2_with (go_at_call 12; refine (HI.out _).mono ?_; rintro e' w' ⟨rfl, rfl⟩)
  go_ret
  exact ⟨rfl, (Below.refl _ _).alloc (Nat.le_refl _) _⟩

def FoundE (l : List Ex) (t time : Int) (w : World) (e : Ending) (w' : World) : Prop := ∃ i : Int, e = .returned (.int .i64 i) ∧ decide (0 ≤ i) = (l.any fun x => inW x.span t time) ∧ Below w.heap.size w w'
set_option maxRecDepth 100000 in
set_option maxHeartbeats 2000000 in
theorem sIndexE (l : List Ex) (t time : Int) (v : Value) (tB mB n : Nat) (w : World) (hn : n ≤ w.heap.size) (h : IsExs n w v l) (hsp : ∀ x ∈ l, i64 x.span) (ht : i64 t) (hti : i64 time) (h1 : w.cell? ⟨tB, 0, none⟩ = some (.int .i64 t)) (h2 : w.cell? ⟨mB, 0, none⟩ = some (.int .i64 time)) :
    Calls Try.prog 51 #[v, .func (.func 36) #[] #[.pointer (some ⟨tB, 0, none⟩), .pointer (some ⟨mB, 0, none⟩)]] w (FoundE l t time w) := by
  obtain ⟨p, cap, rfl, _, _, hl⟩ := h.open
  unfold maxLen at hl
  have H := Lib.hid h; clear h
  have HS := Lib.hid hsp; clear hsp
  have HT := Lib.hid ht; clear ht
  have HTI := Lib.hid hti; clear hti
  have hl1 := World.block_lt_of_cell? w _ h1
  have hl2 := World.block_lt_of_cell? w _ h2
  have H1 := Lib.hid h1; clear h1
  have H2 := Lib.hid h2; clear h2
  go_enter Try.func51, Try.ntmps51; (try simp only [List.append_eq, List.cons_append, List.nil_append])
  go_wp2
  go_loopw [8] (fun i wr => ∃ k : Nat, k ≤ l.length ∧ i = .int .i64 k ∧ ((l.take k).any fun x => inW x.span t time) = false ∧ Below w.heap.size w wr) (fun i _ => l.length - (intOf i).toNat)
  case atStart => exact ⟨0, Nat.zero_le _, rfl, by simp, Below.refl _ _⟩
  case round =>
    obtain ⟨k, hk, rfl, hr, hb⟩ := hrel
    have Hr := Lib.hid hr; clear hr
    have Hb := Lib.hid hb; clear hb
    have hsz := Hb.out.size
    by_cases hlt : k < l.length
    · obtain ⟨b, off, pm', cm', pn', cn', pk', ck', rfl, hbn, hei, e0, e1, e2, e3, e4, e5, e6, e7, e8⟩ := (H.out.mono (Hb.out.mono hn) (Nat.le_refl _)).getE (Cells.refl _ _) hlt
      have HC := Lib.hid (gNeed1 t time l[k] _ tB mB n wr hei (HS.out _ (List.getElem_mem hlt)) HT.out HTI.out ((Hb.out.cell (p := ⟨tB, 0, none⟩) hl1).trans H1.out) ((Hb.out.cell (p := ⟨mB, 0, none⟩) hl2).trans H2.out))
      have Hsn : Hid (((l.take (k + 1)).any fun x => inW x.span t time) = inW l[k].span t time) := by
        show _ = _
        rw [List.take_succ_eq_append_getElem hlt, List.any_append, Hr.out]; simp
      have Hyes : Hid (inW l[k].span t time = true → (l.any fun x => inW x.span t time) = true) := fun h => List.any_eq_true.2 ⟨_, List.getElem_mem hlt, h⟩
      clear hei
      cases hbb : inW l[k].span t time
      all_goals
        rw [hbb] at HC Hsn Hyes
        clear hbb
        go_wp2_with (go_at_call 36; refine HC.out.mono ?_; rintro e' w2 ⟨rfl, hb2⟩; have Hb2 := Lib.hid hb2; clear hb2)
      · exact ⟨⟨k + 1, by omega, by go_num, Hsn.out, Hb.out.trans (Hb2.out.mono hsz)⟩, by simp [intOf]; omega⟩
      · go_ret
        exact ⟨_, rfl, by rw [Hyes.out (by first | rfl | trivial)]; simp, Hb.out.trans (Hb2.out.mono hsz)⟩
    · have hk' : k = l.length := by omega
      subst hk'
      rw [List.take_length] at Hr
      go_wp2
      go_ret
      exact ⟨_, rfl, by rw [Hr.out]; rfl, Hb.out⟩

theorem sContE (l : List Ex) (t time : Int) (v : Value) (tB mB n : Nat) (w : World) (hn : n ≤ w.heap.size) (h : IsExs n w v l) (hsp : ∀ x ∈ l, i64 x.span) (ht : i64 t) (hti : i64 time) (h1 : w.cell? ⟨tB, 0, none⟩ = some (.int .i64 t)) (h2 : w.cell? ⟨mB, 0, none⟩ = some (.int .i64 time)) :
    Calls Try.prog 34 #[v, .func (.func 36) #[] #[.pointer (some ⟨tB, 0, none⟩), .pointer (some ⟨mB, 0, none⟩)]] w fun e' w' => e' = .returned (.bool (inW (horTo l) t time)) ∧ Below w.heap.size w w' := by
  have HS := Lib.hid (fun wx (hw : w = wx) => sIndexE l t time v tB mB n wx (by rw [← hw]; exact hn) (by rw [← hw]; exact h) hsp ht hti (by rw [← hw]; exact h1) (by rw [← hw]; exact h2))
  have HA := Lib.hid (any_inW l t time)
  clear h hsp ht hti h1 h2
  go_enter Try.func34, Try.ntmps34; (try simp only [List.append_eq, List.cons_append, List.nil_append])
  go_wp2_with (go_at_call 51; refine (HS.out _ rfl).mono ?_; rintro e w' ⟨i, rfl, hi, hb⟩; have Hi := Lib.hid hi; clear hi; have Hb := Lib.hid hb; clear hb)
  all_goals go_ret
  all_goals exact ⟨ret_bool (by rw [← HA.out, ← Hi.out]), Hb.out⟩

set_option maxRecDepth 100000 in
set_option maxHeartbeats 2000000 in
theorem gNeeded (ev mark time : Int) (e : Ex) (cs : List Value) (n : Nat) (w : World) (hn : n ≤ w.heap.size) (he : IsEx n w e cs) (hsz : e.size ≤ 1000000) (hmk : i64 mark) (hti : i64 time) :
    Calls Try.prog 13 #[.agg (.int .i64 ev :: cs).toArray, .int .i64 mark, .int .i64 time] w fun e' w' => e' = .returned (.bool (neededT ev e mark time)) ∧ Below w.heap.size w w' := by
  have He := Lib.hid he
  have hn1 : i64 (max mark (wrap64 (time - 1))) := by unfold i64 at *; unfold wrap64; omega
  have HN := Lib.hid (fun wx => gNext ev (max mark (wrap64 (time - 1))) e cs wx he.qc hn1)
  have HC := Lib.hid (fun (N : Nat) (W : World) (h1 : N ≤ W.heap.size) (h : IsEx N W e cs) => aCheck ev e cs N W h1 h hsz)
  have HLv := Lib.hid (fun (N : Nat) (W : World) (h1 : N ≤ W.heap.size) (h : IsEx N W e cs) => aLeaves e cs N W h1 h hsz)
  obtain ⟨pm, cm, pn, cn, pk, ck, rfl, -⟩ := he.cellsE
  clear he
  obtain ⟨hm1, hm2⟩ := hmk
  have hti' := Lib.hid hti
  obtain ⟨ht1, ht2⟩ := hti
  have Hsp : Hid (checkQuery ev e = 0 → ∀ x ∈ e.leaves, i64 x.span) := fun h x hx => by have := leaf_span (check_expr h) x hx; unfold i64; omega
  have hcase : ((¬ checkQuery ev e = 0 ∧ neededT ev e mark time = false) ∨ (checkQuery ev e = 0 ∧ nextT ev (max mark (wrap64 (time - 1))) = none ∧ neededT ev e mark time = false) ∨ (checkQuery ev e = 0 ∧ ∃ t, nextT ev (max mark (wrap64 (time - 1))) = some t ∧ neededT ev e mark time = inW (horTo e.leaves) t time)) := by
    by_cases hck : checkQuery ev e = 0
    · cases hnx : nextT ev (max mark (wrap64 (time - 1))) with
      | none => exact .inr (.inl ⟨hck, rfl, by unfold neededT; rw [hnx]; simp⟩)
      | some t => exact .inr (.inr ⟨hck, t, rfl, by unfold neededT; rw [hnx, decide_eq_true hck]; rfl⟩)
    · exact .inl ⟨hck, by unfold neededT; rw [decide_eq_false hck]; rfl⟩
  have hmax : max mark (wrap64 (time - 1)) = if mark < wrap64 (time - 1) then wrap64 (time - 1) else mark := by split <;> omega
  rw [hmax] at hcase HN hn1
  have Hcase := Lib.hid hcase; clear hcase hmax
  unfold nextV at HN
  go_enter Try.func13, Try.ntmps13; (try simp only [List.append_eq, List.cons_append, List.nil_append])
  go_upto_region 0 with fail
  go_cut [3, 5, 6] (fun s3 s5 s6 wx => s3 = .pointer (some ⟨w.heap.size, 0, none⟩) ∧ s5 = .pointer (some ⟨w.heap.size + 1, 0, none⟩) ∧ s6 = .bool false ∧ Below w.heap.size w wx ∧ Blk wx w.heap.size 28 [.int .i64 ev, .int .i64 e.kind, .int .i64 e.fn, .int .i64 e.op, .int .i64 e.num, .string e.metric, .slice pm e.mats.length cm, .int .i64 e.span, .slice pn e.names.length cn, .slice pk e.kids.length ck] ∧ Blk wx (w.heap.size + 1) 2 [.int .i64 time])
  case first =>
    go_wp2
    go_meet
    exact ⟨rfl, rfl, rfl, two_below w _ _, two_at w _ _ _ _, two_at' w _ _ _⟩
  case rest =>
    obtain ⟨rfl, rfl, rfl, hw0, hq, ht⟩ := hcut
    obtain ⟨W, rfl⟩ : ∃ W : World, W = wc := ⟨_, rfl⟩
    have HW0 := Lib.hid hw0; clear hw0
    have c0 := hq.cell 0 _ rfl; have c1 := hq.cell 1 _ rfl; have c2 := hq.cell 2 _ rfl; have c3 := hq.cell 3 _ rfl; have c4 := hq.cell 4 _ rfl; have c5 := hq.cell 5 _ rfl; have c6 := hq.cell 6 _ rfl; have c7 := hq.cell 7 _ rfl; have c8 := hq.cell 8 _ rfl; have c9 := hq.cell 9 _ rfl
    have e0 := ht.cell 0 _ rfl
    have hl1 := hq.lt
    have hl2 := ht.lt
    have HQ := Lib.hid hq; clear hq
    have HT := Lib.hid ht; clear ht
    rcases Hcase.out with ⟨hck, hr⟩ | ⟨hck, hnx, hr⟩ | ⟨hck, t, hnx, hr⟩
    · have hck' : (checkQuery ev e != 0) = true := by simpa using hck
      have Hr := Lib.hid hr; clear hr hck
      go_wp2_with (go_at_call 33; refine (HC.out n _ (Nat.le_trans hn HW0.out.size) (He.out.mono (HW0.out.mono hn) (Nat.le_refl _))).mono ?_; rintro e' w1 ⟨rfl, hb1⟩; have HB := Lib.hid hb1; clear hb1)
      go_ret
      exact ⟨ret_bool Hr.out.symm, HW0.out.trans (HB.out.mono HW0.out.size)⟩
    · have Hr := Lib.hid hr; clear hr
      rw [hnx] at HN
      clear hnx
      go_wp2_with (first
        | (go_at_call 33; refine (HC.out n _ (Nat.le_trans hn HW0.out.size) (He.out.mono (HW0.out.mono hn) (Nat.le_refl _))).mono ?_; rintro e' w1 ⟨rfl, hb1⟩; rw [hck]; have HB := Lib.hid hb1; clear hb1; have hq1 := HQ.out.mono HB.out HQ.out.lt; have d0 := hq1.cell 0 _ rfl; have d1 := hq1.cell 1 _ rfl; have d2 := hq1.cell 2 _ rfl; have d3 := hq1.cell 3 _ rfl; have d4 := hq1.cell 4 _ rfl; have d5 := hq1.cell 5 _ rfl; have d6 := hq1.cell 6 _ rfl; have d7 := hq1.cell 7 _ rfl; have d8 := hq1.cell 8 _ rfl; have d9 := hq1.cell 9 _ rfl; clear hq1; have ht1 := HT.out.mono HB.out HT.out.lt; have f0 := ht1.cell 0 _ rfl; clear ht1; have hs1 := HB.out.size)
        | (go_at_call 15; refine (HN.out _).mono ?_; rintro e' w2 ⟨rfl, hb2⟩; have HB2 := Lib.hid (HB.out.trans (hb2.mono HB.out.size)); clear hb2))
      all_goals go_ret
      all_goals exact ⟨ret_bool Hr.out.symm, (HW0.out.trans (HB2.out.mono HW0.out.size)).alloc (by have := HB2.out.size; have := HW0.out.size; omega) _⟩
    · have Hr := Lib.hid hr; clear hr
      have hb := nextT_bd hnx
      have HTb : Hid (i64 t) := by have h1 := hb.2.2.1; have h2 := hb.2.2.2.1; unfold MT at h2; show _ ∧ _; omega
      rw [hnx] at HN
      clear hnx hb
      go_wp2_with (first
        | (go_at_call 33; refine (HC.out n _ (Nat.le_trans hn HW0.out.size) (He.out.mono (HW0.out.mono hn) (Nat.le_refl _))).mono ?_; rintro e' w1 ⟨rfl, hb1⟩; rw [hck]; have HB := Lib.hid hb1; clear hb1; have hq1 := HQ.out.mono HB.out HQ.out.lt; have d0 := hq1.cell 0 _ rfl; have d1 := hq1.cell 1 _ rfl; have d2 := hq1.cell 2 _ rfl; have d3 := hq1.cell 3 _ rfl; have d4 := hq1.cell 4 _ rfl; have d5 := hq1.cell 5 _ rfl; have d6 := hq1.cell 6 _ rfl; have d7 := hq1.cell 7 _ rfl; have d8 := hq1.cell 8 _ rfl; have d9 := hq1.cell 9 _ rfl; clear hq1; have ht1 := HT.out.mono HB.out HT.out.lt; have f0 := ht1.cell 0 _ rfl; clear ht1; have hs1 := HB.out.size)
        | (go_at_call 15; refine (HN.out _).mono ?_; rintro e' w2 ⟨rfl, hb2⟩; have HB2 := Lib.hid (HB.out.trans (hb2.mono HB.out.size)); clear hb2; have hq2 := HQ.out.mono HB2.out HQ.out.lt; have g0 := hq2.cell 0 _ rfl; have g1 := hq2.cell 1 _ rfl; have g2 := hq2.cell 2 _ rfl; have g3 := hq2.cell 3 _ rfl; have g4 := hq2.cell 4 _ rfl; have g5 := hq2.cell 5 _ rfl; have g6 := hq2.cell 6 _ rfl; have g7 := hq2.cell 7 _ rfl; have g8 := hq2.cell 8 _ rfl; have g9 := hq2.cell 9 _ rfl; clear hq2; have ht2 := HT.out.mono HB2.out HT.out.lt; have p0 := ht2.cell 0 _ rfl; clear ht2; have hs2 := HB2.out.size; have hl3 : w.heap.size < w2.heap.size := Nat.lt_of_lt_of_le hl1 hs2; have hl4 : w.heap.size + 1 < w2.heap.size := Nat.lt_of_lt_of_le hl2 hs2)
        | (go_at_call 35; refine (HLv.out n _ (by have := HW0.out.size; simp; omega) (He.out.mono (((HW0.out.trans (HB2.out.mono HW0.out.size)).mono hn).alloc (by have := HW0.out.size; omega) _) (Nat.le_refl _))).mono ?_; rintro e' w3 ⟨v3, rfl, hown3, hb3⟩; have hex3 := hown3.exs (Nat.le_refl _) (by have := HW0.out.size; have := hb3.size; simp at this; omega); have HX3 := Lib.hid hex3; clear hex3 hown3; have HTc := Lib.hid (((Blk.new w2 [.int .i64 t] 2).mono hb3 (by simp)).cell 0 _ rfl); have HMc := Lib.hid ((((HT.out.mono HB2.out HT.out.lt).alloc (.cells #[.int .i64 t] 2)).mono hb3 (by simp; omega)).cell 0 _ rfl); have HB3 := Lib.hid hb3; clear hb3; have hs3 := HB3.out.size; simp at hs3)
        | (go_at_call 34; refine (sContE e.leaves t time v3 w2.heap.size (w.heap.size + 1) _ _ (Nat.le_refl _) HX3.out (Hsp.out hck) HTb.out hti'.out HTc.out HMc.out).mono ?_; rintro e' w4 ⟨rfl, hb4⟩; have HB4 := Lib.hid hb4; clear hb4))
      all_goals go_ret
      all_goals refine ⟨ret_bool Hr.out.symm, ?_⟩
      all_goals have h1 := ((HW0.out.trans (HB2.out.mono HW0.out.size)).alloc (by have := HB2.out.size; have := HW0.out.size; omega) (.cells #[.int .i64 t] 2)).trans (HB3.out.mono (by have := HB2.out.size; have := HW0.out.size; simp; omega))
      all_goals exact h1.trans (HB4.out.mono h1.size)

end Go.Proofs.Ytdmojmadklckbaa
