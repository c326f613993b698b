/- The reference's show.Expr, show.Query (printed by wip/gen_rshow3.py). -/
import Derived.Test.YtobelmipjanibaaDoorRs2
import Derived.Test.YtobelmipjanibaaDoorSh6
import Derived.Test.YtobelmipjanibaaDoorAst6
namespace Go.Proofs.YtobelmipjanibaaDoor
open Go.RowKit
set_option linter.unusedSimpArgs false
set_option linter.unusedVariables false

set_option maxRecDepth 100000 in
set_option maxHeartbeats 4000000 in
theorem rShowExpr (e : Ex) (cs : List Value) (n : Nat) (w : World) (hn : n ≤ w.heap.size) (he : IsEx n w e cs) (h64 : e.num64) (hsz : e.size ≤ 1000000) :
    Calls Tryd.prog 15 #[.agg cs.toArray] w fun e' w' => e' = .returned (.tuple #[.string ⟨(exprO e).toArray⟩, .int .i64 (checkExpr e)]) ∧ Below w.heap.size w w' := by
  have hC := fun W (hb : Below w.heap.size w W) => rCheckExpr e cs n W (Nat.le_trans hn hb.size) (he.mono (hb.mono hn) (Nat.le_refl _)) hsz
  have hE := fun W (hb : Below w.heap.size w W) (hv : e.flat.all rightB = true) (hl : (exT e).length ≤ 1000000) => rText e hv h64 cs n W (he.mono (hb.mono hn) (Nat.le_refl _)) (Nat.le_trans hn hb.size) hl
  obtain ⟨pm, cm, pn, cn, pk, ck, rfl, -⟩ := he.cellsE
  have HC := Lib.hid hC; clear hC
  have HE := Lib.hid hE; clear hE he
  have H64 := Lib.hid h64; clear h64
  go_enter Tryd.func15, Tryd.ntmps15; (try simp only [List.append_eq, List.cons_append, List.nil_append])
  go_upto_region 2 with (go_at_call 29; refine (HC.out _ ((Below.refl _ _).alloc (Nat.le_refl _) _)).mono ?_; rintro e' w1 ⟨rfl, hb1⟩; have Hb1 := Lib.hid (((Below.refl _ _).alloc (Nat.le_refl _) _).trans (hb1.mono (by simp))); have hblk1 := (Blk.new w [.int .i64 e.kind, .int .i64 e.fn, .int .i64 e.op, .int .i64 e.num, .string e.metric, .slice pm e.mats.length cm, .int .i64 e.span, .slice pn e.names.length cn, .slice pk e.kids.length ck] 26).keep hb1; clear hb1)
  by_cases hck : checkExpr e = 0
  · have HO : Hid (exprO e = exT e) := by show _ = _; unfold exprO; rw [if_pos hck]
    have hlen := exT_short hck H64.out
    obtain ⟨-, hv⟩ := check_ok hck
    have CE := Lib.hid (HE.out w1 Hb1.out hv (by omega))
    clear hv hlen
    obtain ⟨d0, d1, d2, d3, d4, d5, d6, d7, d8⟩ : w1.cell? ⟨w.heap.size, 0, none⟩ = some (.int .i64 e.kind) ∧ w1.cell? ⟨w.heap.size, 1, none⟩ = some (.int .i64 e.fn) ∧ w1.cell? ⟨w.heap.size, 2, none⟩ = some (.int .i64 e.op) ∧ w1.cell? ⟨w.heap.size, 3, none⟩ = some (.int .i64 e.num) ∧ w1.cell? ⟨w.heap.size, 4, none⟩ = some (.string e.metric) ∧ w1.cell? ⟨w.heap.size, 5, none⟩ = some (.slice pm e.mats.length cm) ∧ w1.cell? ⟨w.heap.size, 6, none⟩ = some (.int .i64 e.span) ∧ w1.cell? ⟨w.heap.size, 7, none⟩ = some (.slice pn e.names.length cn) ∧ w1.cell? ⟨w.heap.size, 8, none⟩ = some (.slice pk e.kids.length ck) := ⟨hblk1.cell 0 _ rfl, hblk1.cell 1 _ rfl, hblk1.cell 2 _ rfl, hblk1.cell 3 _ rfl, hblk1.cell 4 _ rfl, hblk1.cell 5 _ rfl, hblk1.cell 6 _ rfl, hblk1.cell 7 _ rfl, hblk1.cell 8 _ rfl⟩
    clear hblk1
    have Hck := Lib.hid hck
    have hckb : (checkExpr e != 0) = false := by rw [hck]; rfl
    clear hck
    go_wp2_with (go_at_call 30; refine CE.out.mono ?_; rintro e' w2 ⟨rfl, hb2⟩; have Hb2 := Lib.hid (Hb1.out.trans (hb2.mono Hb1.out.size)); clear hb2)
    refine bodyPost_ret (results_tmp2 rfl _ _ _) rfl ?_
    exact ⟨by rw [HO.out, Hck.out]; rfl, Hb2.out⟩
  · have HO : Hid (exprO e = []) := by show _ = _; unfold exprO; rw [if_neg hck]
    have hb : (checkExpr e != 0) = true := by simpa using hck
    go_wp2
    refine bodyPost_ret (results_tmp2 rfl _ _ _) rfl ?_
    exact ⟨by rw [HO.out]; rfl, Hb1.out⟩

set_option maxRecDepth 100000 in
set_option maxHeartbeats 4000000 in
theorem rShowQuery (every : Int) (e : Ex) (cs : List Value) (n : Nat) (w : World) (hn : n ≤ w.heap.size) (he : IsEx n w e cs) (h64 : e.num64) (hev : -9223372036854775808 ≤ every ∧ every ≤ 9223372036854775807) (hsz : e.size ≤ 1000000) :
    Calls Tryd.prog 17 #[.agg (.int .i64 every :: cs).toArray] w fun e' w' => e' = .returned (.tuple #[.string ⟨(queryO every e).toArray⟩, .int .i64 (checkQuery every e)]) ∧ Below w.heap.size w w' := by
  have hCQ := fun W (hb : Below w.heap.size w W) => rCheck every e cs n W (Nat.le_trans hn hb.size) (he.mono (hb.mono hn) (Nat.le_refl _)) hsz
  have hE := fun W (hb : Below w.heap.size w W) (hv : e.flat.all rightB = true) (hl : (exT e).length ≤ 1000000) => rText e hv h64 cs n W (he.mono (hb.mono hn) (Nat.le_refl _)) (Nat.le_trans hn hb.size) hl
  obtain ⟨pm, cm, pn, cn, pk, ck, rfl, -⟩ := he.cellsE
  have HCQ := Lib.hid hCQ; clear hCQ
  have HE := Lib.hid hE; clear hE he
  have H64 := Lib.hid h64; clear h64
  have HEV := Lib.hid hev; clear hev
  go_enter Tryd.func17, Tryd.ntmps17; (try simp only [List.append_eq, List.cons_append, List.nil_append])
  go_upto_region 2 with (go_at_call 22; refine (HCQ.out _ ((Below.refl _ _).alloc (Nat.le_refl _) _)).mono ?_; rintro e' w1 ⟨rfl, hb1⟩; have Hb1 := Lib.hid (((Below.refl _ _).alloc (Nat.le_refl _) _).trans (hb1.mono (by simp))); have hblk1 := (Blk.new w (.int .i64 every :: [.int .i64 e.kind, .int .i64 e.fn, .int .i64 e.op, .int .i64 e.num, .string e.metric, .slice pm e.mats.length cm, .int .i64 e.span, .slice pn e.names.length cn, .slice pk e.kids.length ck]) 38).keep hb1; clear hb1)
  by_cases hck : checkQuery every e = 0
  · have hck2 : checkExpr e = 0 := by
      unfold checkQuery at hck
      split at hck
      · exact hck
      · cases hck
    have HO : Hid (queryO every e = queryT every e) := by show _ = _; unfold queryO; rw [if_pos hck]
    have hlen := exT_short hck2 H64.out
    obtain ⟨-, hv⟩ := check_ok hck2
    have hil := itoa_len every HEV.out
    obtain ⟨T, hT⟩ : ∃ T : ByteArray, (⟨(exT e).toArray⟩ : ByteArray) = T := ⟨_, rfl⟩
    have hTs : T.size ≤ 800000 := by rw [← hT]; exact hlen
    have hTl : T.data.toList = exT e := by rw [← hT]
    obtain ⟨I, hI⟩ : ∃ I : ByteArray, (⟨(Lib.itoa every).toArray⟩ : ByteArray) = I := ⟨_, rfl⟩
    have hIs : I.size ≤ 21 := by rw [← hI]; exact hil
    have hIl : I.data.toList = Lib.itoa every := by rw [← hI]
    have hs1 := Hb1.out.size
    have CE := Lib.hid (fun X (h : Below w1.heap.size w1 X) => show Calls Tryd.prog 30 #[.agg #[.int .i64 e.kind, .int .i64 e.fn, .int .i64 e.op, .int .i64 e.num, .string e.metric, .slice pm e.mats.length cm, .int .i64 e.span, .slice pn e.names.length cn, .slice pk e.kids.length ck]] X (fun e' w' => e' = .returned (.string T) ∧ Below w1.heap.size w1 w') from (HE.out X (Hb1.out.trans (h.mono hs1)) hv (by omega)).mono fun e' w' ⟨h1, h2⟩ => ⟨by rw [h1, hT], h.trans (h2.mono h.size)⟩)
    have CD := Lib.hid (fun X (h : Below w1.heap.size w1 X) => show Calls Tryd.prog 33 #[.int .i64 every] X (fun e' w' => e' = .returned (.string I) ∧ Below w1.heap.size w1 w') from (rDigits every X HEV.out).mono fun e' w' ⟨h1, h2⟩ => ⟨by rw [h1, hI], h.trans (h2.mono h.size)⟩)
    have HQ := Lib.hid hblk1; clear hblk1
    have HS := Lib.hid (fun (X : World) (h : Below w1.heap.size w1 X) => show X.cell? ⟨w.heap.size, 0, none⟩ = some (.int .i64 every) ∧ X.cell? ⟨w.heap.size, 1, none⟩ = some (.int .i64 e.kind) ∧ X.cell? ⟨w.heap.size, 2, none⟩ = some (.int .i64 e.fn) ∧ X.cell? ⟨w.heap.size, 3, none⟩ = some (.int .i64 e.op) ∧ X.cell? ⟨w.heap.size, 4, none⟩ = some (.int .i64 e.num) ∧ X.cell? ⟨w.heap.size, 5, none⟩ = some (.string e.metric) ∧ X.cell? ⟨w.heap.size, 6, none⟩ = some (.slice pm e.mats.length cm) ∧ X.cell? ⟨w.heap.size, 7, none⟩ = some (.int .i64 e.span) ∧ X.cell? ⟨w.heap.size, 8, none⟩ = some (.slice pn e.names.length cn) ∧ X.cell? ⟨w.heap.size, 9, none⟩ = some (.slice pk e.kids.length ck) from
      have q := HQ.out.mono h HQ.out.lt
      ⟨q.cell 0 _ rfl, q.cell 1 _ rfl, q.cell 2 _ rfl, q.cell 3 _ rfl, q.cell 4 _ rfl, q.cell 5 _ rfl, q.cell 6 _ rfl, q.cell 7 _ rfl, q.cell 8 _ rfl, q.cell 9 _ rfl⟩)
    have Hck := Lib.hid hck
    have hckb : (checkQuery every e != 0) = false := by rw [hck]; rfl
    clear hck hck2 hv hlen hil hT hI
    have hX := Below.refl w1.heap.size w1
    go_upto_region 4 with fail
    refine wp_region_held_drew (S := (fun X => X.cell? ⟨w.heap.size, 0, none⟩ = some (.int .i64 every) ∧ X.cell? ⟨w.heap.size, 1, none⟩ = some (.int .i64 e.kind) ∧ X.cell? ⟨w.heap.size, 2, none⟩ = some (.int .i64 e.fn) ∧ X.cell? ⟨w.heap.size, 3, none⟩ = some (.int .i64 e.op) ∧ X.cell? ⟨w.heap.size, 4, none⟩ = some (.int .i64 e.num) ∧ X.cell? ⟨w.heap.size, 5, none⟩ = some (.string e.metric) ∧ X.cell? ⟨w.heap.size, 6, none⟩ = some (.slice pm e.mats.length cm) ∧ X.cell? ⟨w.heap.size, 7, none⟩ = some (.int .i64 e.span) ∧ X.cell? ⟨w.heap.size, 8, none⟩ = some (.slice pn e.names.length cn) ∧ X.cell? ⟨w.heap.size, 9, none⟩ = some (.slice pk e.kids.length ck))) (by kernel_rfl) ?_ (fun hHeld => ?_)
    · exact HS.out _ (Below.drew hX)
    (refine held_take 0 10 ?_ rfl (by kernel_rfl) (by kernel_rfl) (by kernel_rfl) (by kernel_rfl) (fun _ _ _ h => h) (by kernel_rfl) ?_ (by assumption) ?_; rotate_left; (intro w hSw; clear hSw; go_simp); (try with_reducible rfl); simp only [List.set_cons_zero, List.set_cons_succ])
    (refine held_take 1 11 (.int .i64 every) rfl rfl (by kernel_rfl) (by kernel_rfl) (by kernel_rfl) (fun _ _ _ h => h) (by kernel_rfl) ?_ (by assumption) ?_; (intro w hSw; obtain ⟨q0, q1, q2, q3, q4, q5, q6, q7, q8, q9⟩ := hSw; go_simp); simp only [List.set_cons_zero, List.set_cons_succ])
    (refine held_take 5 15 ?_ rfl (by kernel_rfl) (by kernel_rfl) (by kernel_rfl) (by kernel_rfl) (fun _ _ _ h => h) (by kernel_rfl) ?_ (by assumption) ?_; rotate_left; (intro w hSw; clear hSw; go_simp); (try with_reducible rfl); simp only [List.set_cons_zero, List.set_cons_succ])
    (refine held_take 6 16 (.agg #[.int .i64 e.kind, .int .i64 e.fn, .int .i64 e.op, .int .i64 e.num, .string e.metric, .slice pm e.mats.length cm, .int .i64 e.span, .slice pn e.names.length cn, .slice pk e.kids.length ck]) rfl rfl (by kernel_rfl) (by kernel_rfl) (by kernel_rfl) (fun _ _ _ h => h) (by kernel_rfl) ?_ (by assumption) ?_; (intro w hSw; obtain ⟨q0, q1, q2, q3, q4, q5, q6, q7, q8, q9⟩ := hSw; go_simp); simp only [List.set_cons_zero, List.set_cons_succ])
    (refine wpAnyH_ready (rs := [2]) (by kernel_rfl) (by simp) (.cons rfl (fun K hK => ?_) .nil))
    rw [if_pos (by kernel_rfl)]
    go_simp
    refine (CD.out _ (Below.drew hX)).mono ?_
    rintro e' X1 ⟨rfl, hA1⟩
    dsimp only
    refine hK.out _ _ (HS.out _ hA1) (fun hHeld => ?_)
    clear hK K
    (try simp only [Act.put, List.setIfInBounds_toArray, List.set_cons_zero, List.set_cons_succ])
    (refine held_take 3 13 (.string (⟨#[101, 118, 101, 114, 121, 32]⟩ ++ I)) rfl rfl (by kernel_rfl) (by kernel_rfl) (by kernel_rfl) (fun _ _ _ h => h) (by kernel_rfl) ?_ (by assumption) ?_; (intro w hSw; clear hSw; go_simp; (try simp only [ByteArray.size_append]); omega); simp only [List.set_cons_zero, List.set_cons_succ])
    (refine held_take 4 14 (.string (⟨#[101, 118, 101, 114, 121, 32]⟩ ++ I ++ ⟨#[58, 32]⟩)) rfl rfl (by kernel_rfl) (by kernel_rfl) (by kernel_rfl) (fun _ _ _ h => h) (by kernel_rfl) ?_ (by assumption) ?_; (intro w hSw; clear hSw; go_simp; (try simp only [ByteArray.size_append]); omega); simp only [List.set_cons_zero, List.set_cons_succ])
    (refine wpAnyH_ready (rs := [7]) (by kernel_rfl) (by simp) (.cons rfl (fun K hK => ?_) .nil))
    rw [if_pos (by kernel_rfl)]
    go_simp
    refine (CE.out _ hA1).mono ?_
    rintro e' X2 ⟨rfl, hA2⟩
    dsimp only
    refine hK.out _ _ (HS.out _ hA2) (fun hHeld => ?_)
    clear hK K
    (try simp only [Act.put, List.setIfInBounds_toArray, List.set_cons_zero, List.set_cons_succ])
    (refine held_take 8 18 (.string (⟨#[101, 118, 101, 114, 121, 32]⟩ ++ I ++ ⟨#[58, 32]⟩ ++ T)) rfl rfl (by kernel_rfl) (by kernel_rfl) (by kernel_rfl) (fun _ _ _ h => h) (by kernel_rfl) ?_ (by assumption) ?_; (intro w hSw; clear hSw; go_simp; (try simp only [ByteArray.size_append]); omega); simp only [List.set_cons_zero, List.set_cons_succ])
    (refine held_take 9 2 ?_ rfl (by kernel_rfl) (by kernel_rfl) (by kernel_rfl) (by kernel_rfl) (fun _ _ _ h => h) (by kernel_rfl) ?_ (by assumption) ?_; rotate_left; (intro w hSw; clear hSw; go_simp); (try with_reducible rfl); simp only [List.set_cons_zero, List.set_cons_succ])
    (refine held_take 10 3 ?_ rfl (by kernel_rfl) (by kernel_rfl) (by kernel_rfl) (by kernel_rfl) (fun _ _ _ h => h) (by kernel_rfl) ?_ (by assumption) ?_; rotate_left; (intro w hSw; clear hSw; go_simp); (try with_reducible rfl); simp only [List.set_cons_zero, List.set_cons_succ])
    refine wpAnyH_done (by kernel_rfl) ?_ _
    all_goals go_wp2
    all_goals refine bodyPost_ret (results_tmp2 rfl _ _ _) rfl ?_
    all_goals
      refine ⟨?_, Hb1.out.trans (hA2.mono hs1)⟩
      have hfin : (⟨#[101, 118, 101, 114, 121, 32]⟩ : ByteArray) ++ I ++ ⟨#[58, 32]⟩ ++ T = ⟨(queryO every e).toArray⟩ := ba_of (by
        rw [HO.out]
        simp [queryT, ba_add, hIl, hTl])
      rw [← hfin, Hck.out]; rfl
  · have HO : Hid (queryO every e = []) := by show _ = _; unfold queryO; rw [if_neg hck]
    have hb : (checkQuery every e != 0) = true := by simpa using hck
    go_wp2
    refine bodyPost_ret (results_tmp2 rfl _ _ _) rfl ?_
    exact ⟨by rw [HO.out]; rfl, Hb1.out⟩
end Go.Proofs.YtobelmipjanibaaDoor
