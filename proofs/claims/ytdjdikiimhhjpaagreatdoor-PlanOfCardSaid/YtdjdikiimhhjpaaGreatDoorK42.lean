/- The reference's right, all kinds; the reference's CheckExpr. -/
import Derived.Test.YtdjdikiimhhjpaaGreatDoorK41
import Derived.Test.YtdjdikiimhhjpaaGreatDoorK9
set_option maxRecDepth 100000
set_option maxHeartbeats 16000000
namespace Go.Proofs.YtdjdikiimhhjpaaGreatDoor
open Go.RowKit
set_option linter.unusedSimpArgs false
set_option linter.unusedVariables false
theorem rRight_no (kind fn op num : Int) (metric : ByteArray) (vm vn : Value) (span : Int) (pk : Option Addr) (lk ck : Nat) (w : World) (hlk : lk ≤ 2 ^ 63 - 1) (hno : ¬ (1 ≤ kind ∧ kind ≤ 5)) :
    Calls Tryz.prog 48 #[.agg #[.int .i64 kind, .int .i64 fn, .int .i64 op, .int .i64 num, .string metric, vm, .int .i64 span, vn, .slice pk lk ck]] w
      fun e w' => e = .returned (.bool false) ∧ Below w.heap.size w w' := by
  have hK : ∀ w : World, Calls Tryz.prog 71 #[.int .i64 kind] w fun e w' => e = .returned (.int .i64 (-1)) ∧ w' = w := fun w => (rKids kind w).mono fun e w' ⟨h1, h2⟩ => ⟨by rw [h1, show kidsOf kind = -1 by unfold kidsOf; rw [show kindOk kind = false from decide_eq_false hno]; rfl], h2.symm⟩
  have HK := Lib.hid hK; clear hK
  have hne : ((-1 : Int) != (lk : Int)) = true := by simp
  go_enter Tryz.func48, Tryz.ntmps48; (try simp only [List.append_eq, List.cons_append, List.nil_append])
  go_upto_region 0 with fail
  go_cut [0, 1, 2] (fun s0 s1 s2 wx => s1 = .pointer (some ⟨w.heap.size, 0, none⟩) ∧ s2 = .bool false ∧ Below w.heap.size w wx ∧ Box wx w.heap.size [.int .i64 kind, .int .i64 fn, .int .i64 op, .int .i64 num, .string metric, vm, .int .i64 span, vn, .slice pk lk ck])
  case first =>
    go_wp2
    go_meet
    exact ⟨rfl, rfl, (Below.refl _ _).alloc (Nat.le_refl _) _, Box.new _ _ _⟩
  case rest =>
    obtain ⟨rfl, rfl, hbw, hbox⟩ := hcut; obtain ⟨W, rfl⟩ : ∃ W : World, W = wc := ⟨_, rfl⟩; have hszb := hbox.1; have Hbox := Lib.hid hbox; clear hbox; have Hbw := Lib.hid hbw; clear hbw
    go_upto_region 1 with fail
    go_cut [3, 4, 5] (fun s3 s4 s5 wx => s3 = .bool false ∧ s4 = .bool false ∧ s5 = .bool false ∧ Below W.heap.size W wx)
    case first =>
      have c0 := Hbox.out.2 0 _ rfl; have k1 : (kind == 1) = false := by simp; omega
      have k2 : (kind == 2) = false := by simp; omega
      have k3 : (kind == 3) = false := by simp; omega
      have k4 : (kind == 4) = false := by simp; omega
      have k5 : (kind == 5) = false := by simp; omega
      go_quiet (fail)
      go_wp2
      all_goals go_meet
      all_goals first
        | exact ⟨rfl, rfl, rfl, below_drewN (Below.refl _ _) _⟩
        | (exfalso; simp_all; done)
    case rest =>
      obtain ⟨rfl, rfl, rfl, hb1⟩ := hcut; obtain ⟨W1, rfl⟩ : ∃ W1 : World, W1 = wc := ⟨_, rfl⟩; have Hbox1 := Lib.hid (Hbox.out.keep hb1); have hbw1 := Hbw.out.trans (hb1.mono (by omega)); have hszb1 := Hbox1.out.1; clear hb1; have Hbw1 := Lib.hid hbw1; clear hbw1
      go_upto_region 2 with fail
      go_cut [72] (fun s72 wx => s72 = .bool true ∧ Below W1.heap.size W1 wx)
      case first =>
        have c0 := Hbox1.out.2 0 _ rfl; have c8 := Hbox1.out.2 8 _ rfl
        go_quiet ((go_at_call 71; exact Calls.quiet_of_same (HK.out _)))
        go_wp2
        all_goals go_meet
        all_goals exact ⟨rfl, below_drewN (Below.refl _ _) _⟩
      case rest =>
        obtain ⟨rfl, hb2⟩ := hcut; go_wp2; go_ret; exact ⟨rfl, Hbw1.out.trans (hb2.mono (by omega))⟩
theorem rRight : ∀ (e : Ex) (cs : List Value) (n : Nat) (w : World), n ≤ w.heap.size → IsEx n w e cs →
    Calls Tryz.prog 48 #[.agg cs.toArray] w fun e' w' => e' = .returned (.bool (rightAll e)) ∧ Below w.heap.size w w' := by
  refine Ex.ind fun e ih => ?_
  intro cs n w hn he
  cases he with
  | @mk kind fn op num metric mats span names kids vm vn vk rows hs hm hna hk hl hr =>
    rw [rightAll_eq]; simp only [rightB, Ex.kind, Ex.kids, Ex.fn, Ex.op, Ex.num, Ex.metric, Ex.mats, Ex.span, Ex.names]
    by_cases hok : 1 ≤ kind ∧ kind ≤ 5
    · have hkk : kind = 1 ∨ kind = 2 ∨ kind = 3 ∨ kind = 4 ∨ kind = 5 := by omega
      rw [show kindOk kind = true from decide_eq_true hok, Bool.true_and]; rcases hkk with rfl | rfl | rfl | rfl | rfl
      · exact rRight_1 fn op num metric mats span names kids vm vn vk n w hn hs hm hna ⟨rows, hk, hl, hr⟩ ih
      · exact rRight_2 fn op num metric mats span names kids vm vn vk n w hn hs hm hna ⟨rows, hk, hl, hr⟩ ih
      · exact rRight_3 fn op num metric mats span names kids vm vn vk n w hn hs hm hna ⟨rows, hk, hl, hr⟩ ih
      · exact rRight_4 fn op num metric mats span names kids vm vn vk n w hn hs hm hna ⟨rows, hk, hl, hr⟩ ih
      · exact rRight_5 fn op num metric mats span names kids vm vn vk n w hn hs hm hna ⟨rows, hk, hl, hr⟩ ih
    · have hz : kindOk kind = false := decide_eq_false hok
      rw [hz, Bool.false_and, Bool.false_and]; obtain ⟨pk, ck, rfl, h1, h2⟩ := hk; exact rRight_no kind fn op num metric vm vn span pk _ ck w (by unfold maxLen at *; omega) hok
end Go.Proofs.YtdjdikiimhhjpaaGreatDoor
namespace Go.Proofs.YtdjdikiimhhjpaaGreatDoor
open Go.RowKit
set_option linter.unusedSimpArgs false
set_option linter.unusedVariables false
theorem rCheckExpr (e : Ex) (cs : List Value) (n : Nat) (w : World) (hn : n ≤ w.heap.size) (he : IsEx n w e cs) (hsz : e.size ≤ 1000000) :
    Calls Tryz.prog 30 #[.agg cs.toArray] w fun e' w' => e' = .returned (.int .i64 (checkExpr e)) ∧ Below w.heap.size w w' := by
  obtain ⟨pm, cm, pn, cn, pk, ck, rfl, -⟩ := he.cellsE
  have He := Lib.hid he; clear he
  have hdp := deep_le_size e
  go_enter Tryz.func30, Tryz.ntmps30; (try simp only [List.append_eq, List.cons_append, List.nil_append])
  go_upto_region 0 with fail
  go_cut [1, 2] (fun s1 s2 wx => s1 = .pointer (some ⟨w.heap.size, 0, none⟩) ∧ s2 = .int .i64 0 ∧ Below w.heap.size w wx ∧ Box wx w.heap.size [.int .i64 e.kind, .int .i64 e.fn, .int .i64 e.op, .int .i64 e.num, .string e.metric, .slice pm e.mats.length cm, .int .i64 e.span, .slice pn e.names.length cn, .slice pk e.kids.length ck])
  case first =>
    go_wp2
    go_meet
    exact ⟨rfl, rfl, (Below.refl _ _).alloc (Nat.le_refl _) _, Box.new _ _ _⟩
  case rest =>
    obtain ⟨rfl, rfl, hbw, hbox⟩ := hcut; obtain ⟨W, rfl⟩ : ∃ W : World, W = wc := ⟨_, rfl⟩; have hszb := hbox.1; have Hbox := Lib.hid hbox; clear hbox; have Hbw := Lib.hid hbw; clear hbw; have heW := He.out.mono (Hbw.out.mono hn) (Nat.le_refl _); have HeW := Lib.hid heW; clear heW; have hnW : n ≤ W.heap.size := by omega
    have c0 := Hbox.out.2 0 _ rfl; have c1 := Hbox.out.2 1 _ rfl; have c2 := Hbox.out.2 2 _ rfl; have c3 := Hbox.out.2 3 _ rfl; have c4 := Hbox.out.2 4 _ rfl; have c5 := Hbox.out.2 5 _ rfl; have c6 := Hbox.out.2 6 _ rfl; have c7 := Hbox.out.2 7 _ rfl; have c8 := Hbox.out.2 8 _ rfl
    by_cases h200 : 200 < e.size
    · have g1 : decide ((200 : Int) < (e.size : Int)) = true := decide_eq_true (by omega)
      go_wp2_with (go_at_call 46; refine (rSize e _ n _ hnW HeW.out hsz).mono ?_; rintro e' w1 ⟨rfl, hb1⟩; have Hb1 := Lib.hid hb1; clear hb1)
      go_ret; exact ⟨ret_int (checkExpr_long (.inl h200)).symm, Hbw.out.trans (Hb1.out.mono (by omega))⟩
    · by_cases h16 : 16 < e.deep
      · go_wp2_with (first
          | (go_at_call 46; refine (rSize e _ n _ hnW HeW.out hsz).mono ?_; rintro e' w1 ⟨rfl, hb1⟩; have Hb1 := Lib.hid hb1; clear hb1; have x0 := (Hbox.out.keep Hb1.out).2 0 _ rfl; have x1 := (Hbox.out.keep Hb1.out).2 1 _ rfl; have x2 := (Hbox.out.keep Hb1.out).2 2 _ rfl; have x3 := (Hbox.out.keep Hb1.out).2 3 _ rfl; have x4 := (Hbox.out.keep Hb1.out).2 4 _ rfl; have x5 := (Hbox.out.keep Hb1.out).2 5 _ rfl; have x6 := (Hbox.out.keep Hb1.out).2 6 _ rfl; have x7 := (Hbox.out.keep Hb1.out).2 7 _ rfl; have x8 := (Hbox.out.keep Hb1.out).2 8 _ rfl)
          | (go_at_call 47; refine (rDeep e _ n _ (Nat.le_trans hnW Hb1.out.size) (HeW.out.mono (Hb1.out.mono hnW) (Nat.le_refl _)) hsz).mono ?_; rintro e' w2 ⟨rfl, hb2⟩; have Hb2 := Lib.hid (Hb1.out.trans (hb2.mono Hb1.out.size)); clear hb2))
        go_ret; exact ⟨ret_int (checkExpr_long (.inr h16)).symm, Hbw.out.trans (Hb2.out.mono (by omega))⟩
      · have g16 : decide ((16 : Int) < (e.deep : Int)) = false := decide_eq_false (by omega)
        have g200 : decide ((200 : Int) < (e.size : Int)) = false := decide_eq_false (by omega); cases hr : rightAll e with
        | true =>
          go_wp2_with (first
            | (go_at_call 46; refine (rSize e _ n _ hnW HeW.out hsz).mono ?_; rintro e' w1 ⟨rfl, hb1⟩; have Hb1 := Lib.hid hb1; clear hb1; have x0 := (Hbox.out.keep Hb1.out).2 0 _ rfl; have x1 := (Hbox.out.keep Hb1.out).2 1 _ rfl; have x2 := (Hbox.out.keep Hb1.out).2 2 _ rfl; have x3 := (Hbox.out.keep Hb1.out).2 3 _ rfl; have x4 := (Hbox.out.keep Hb1.out).2 4 _ rfl; have x5 := (Hbox.out.keep Hb1.out).2 5 _ rfl; have x6 := (Hbox.out.keep Hb1.out).2 6 _ rfl; have x7 := (Hbox.out.keep Hb1.out).2 7 _ rfl; have x8 := (Hbox.out.keep Hb1.out).2 8 _ rfl)
            | (go_at_call 47; refine (rDeep e _ n _ (Nat.le_trans hnW Hb1.out.size) (HeW.out.mono (Hb1.out.mono hnW) (Nat.le_refl _)) hsz).mono ?_; rintro e' w2 ⟨rfl, hb2⟩; have Hb2 := Lib.hid (Hb1.out.trans (hb2.mono Hb1.out.size)); clear hb2; have y0 := (Hbox.out.keep Hb2.out).2 0 _ rfl; have y1 := (Hbox.out.keep Hb2.out).2 1 _ rfl; have y2 := (Hbox.out.keep Hb2.out).2 2 _ rfl; have y3 := (Hbox.out.keep Hb2.out).2 3 _ rfl; have y4 := (Hbox.out.keep Hb2.out).2 4 _ rfl; have y5 := (Hbox.out.keep Hb2.out).2 5 _ rfl; have y6 := (Hbox.out.keep Hb2.out).2 6 _ rfl; have y7 := (Hbox.out.keep Hb2.out).2 7 _ rfl; have y8 := (Hbox.out.keep Hb2.out).2 8 _ rfl)
            | (go_at_call 48; refine (rRight e _ n _ (Nat.le_trans hnW Hb2.out.size) (HeW.out.mono (Hb2.out.mono hnW) (Nat.le_refl _))).mono ?_; rw [hr]; rintro e' w3 ⟨rfl, hb3⟩; have Hb3 := Lib.hid (Hb2.out.trans (hb3.mono Hb2.out.size)); clear hb3))
          go_ret; exact ⟨ret_int (checkExpr_ok (by omega) hr).symm, Hbw.out.trans (Hb3.out.mono (by omega))⟩
        | false =>
          go_wp2_with (first
            | (go_at_call 46; refine (rSize e _ n _ hnW HeW.out hsz).mono ?_; rintro e' w1 ⟨rfl, hb1⟩; have Hb1 := Lib.hid hb1; clear hb1; have x0 := (Hbox.out.keep Hb1.out).2 0 _ rfl; have x1 := (Hbox.out.keep Hb1.out).2 1 _ rfl; have x2 := (Hbox.out.keep Hb1.out).2 2 _ rfl; have x3 := (Hbox.out.keep Hb1.out).2 3 _ rfl; have x4 := (Hbox.out.keep Hb1.out).2 4 _ rfl; have x5 := (Hbox.out.keep Hb1.out).2 5 _ rfl; have x6 := (Hbox.out.keep Hb1.out).2 6 _ rfl; have x7 := (Hbox.out.keep Hb1.out).2 7 _ rfl; have x8 := (Hbox.out.keep Hb1.out).2 8 _ rfl)
            | (go_at_call 47; refine (rDeep e _ n _ (Nat.le_trans hnW Hb1.out.size) (HeW.out.mono (Hb1.out.mono hnW) (Nat.le_refl _)) hsz).mono ?_; rintro e' w2 ⟨rfl, hb2⟩; have Hb2 := Lib.hid (Hb1.out.trans (hb2.mono Hb1.out.size)); clear hb2; have y0 := (Hbox.out.keep Hb2.out).2 0 _ rfl; have y1 := (Hbox.out.keep Hb2.out).2 1 _ rfl; have y2 := (Hbox.out.keep Hb2.out).2 2 _ rfl; have y3 := (Hbox.out.keep Hb2.out).2 3 _ rfl; have y4 := (Hbox.out.keep Hb2.out).2 4 _ rfl; have y5 := (Hbox.out.keep Hb2.out).2 5 _ rfl; have y6 := (Hbox.out.keep Hb2.out).2 6 _ rfl; have y7 := (Hbox.out.keep Hb2.out).2 7 _ rfl; have y8 := (Hbox.out.keep Hb2.out).2 8 _ rfl)
            | (go_at_call 48; refine (rRight e _ n _ (Nat.le_trans hnW Hb2.out.size) (HeW.out.mono (Hb2.out.mono hnW) (Nat.le_refl _))).mono ?_; rw [hr]; rintro e' w3 ⟨rfl, hb3⟩; have Hb3 := Lib.hid (Hb2.out.trans (hb3.mono Hb2.out.size)); clear hb3))
          go_ret; exact ⟨ret_int (checkExpr_bad (by omega) (by rw [show e.flat.all rightB = rightAll e from rfl, hr]; simp)).symm, Hbw.out.trans (Hb3.out.mono (by omega))⟩
theorem rCheck (every : Int) (e : Ex) (cs : List Value) (n : Nat) (w : World) (hn : n ≤ w.heap.size) (he : IsEx n w e cs) (hsz : e.size ≤ 1000000) :
    Calls Tryz.prog 16 #[.agg (.int .i64 every :: cs).toArray] w fun e' w' => e' = .returned (.int .i64 (checkQuery every e)) ∧ Below w.heap.size w w' := by
  have hR := rCheckExpr e cs n (w.alloc (.cells (.int .i64 every :: cs).toArray 44)) (by simp; omega) (he.mono ((Below.refl _ _).alloc hn _) (Nat.le_refl _)) hsz
  obtain ⟨pm, cm, pn, cn, pk, ck, rfl, -⟩ := he.cellsE
  have HR := Lib.hid hR; clear hR
  go_enter Tryz.func16, Tryz.ntmps16; (try simp only [List.append_eq, List.cons_append, List.nil_append])
  by_cases hev : 1 ≤ every ∧ every ≤ 1073741824
  · have g1 : decide (every < 1) = false := decide_eq_false (by omega)
    have g2 : decide (1073741824 < every) = false := decide_eq_false (by omega)
    go_wp2_with (go_at_call 30; refine HR.out.mono ?_; rintro e' w1 ⟨rfl, hb1⟩; have Hb1 := Lib.hid hb1; clear hb1)
    go_ret; exact ⟨ret_int (by unfold checkQuery; rw [if_pos hev]), ((Below.refl _ _).alloc (Nat.le_refl _) _).trans (Hb1.out.mono (by simp))⟩
  · go_wp2
    all_goals first
      | (exfalso; omega)
      | (go_ret; exact ⟨ret_int (by unfold checkQuery; rw [if_neg hev]), (Below.refl _ _).alloc (Nat.le_refl _) _⟩)
end Go.Proofs.YtdjdikiimhhjpaaGreatDoor
