/- waterwheellaw06.fits; what is made of expressions. -/
import Derived.Test.YtikaiiamoaahdaaKeep
import Derived.Test.YtikaiiamoaahdaaHor
import Derived.Test.YtikaiiamoaahdaaAst3
import Derived.Test.YtikaiiamoaahdaaChk
namespace Go.Proofs.Ytikaiiamoaahdaa
open Go.RowKit
set_option linter.unusedSimpArgs false
set_option linter.unusedVariables false

/-- A scale of one; a join of both. -/
def scaleEx (m : Int) (a : Ex) : Ex := .mk 4 0 3 m ⟨#[]⟩ [] 0 [] [a]
def joinEx (a b : Ex) : Ex := .mk 3 0 2 0 ⟨#[]⟩ [] 0 [] [a, b]
theorem scale_size (m : Int) (a : Ex) : (scaleEx m a).size = a.size + 1 := by simp [scaleEx, Ex.size, sizes]; omega
theorem scale_deep (m : Int) (a : Ex) : (scaleEx m a).deep = a.deep + 1 := by simp [scaleEx, Ex.deep, deeps]
theorem scale_leaves (m : Int) (a : Ex) : (scaleEx m a).leaves = a.leaves := by simp [scaleEx, Ex.leaves, leavess]
theorem scale_hor (m : Int) (a : Ex) : (scaleEx m a).hor = a.hor := by unfold Ex.hor; rw [scale_leaves]
theorem join_size (a b : Ex) : (joinEx a b).size = a.size + b.size + 1 := by simp [joinEx, Ex.size, sizes]; omega
theorem join_deep (a b : Ex) : (joinEx a b).deep = max a.deep b.deep + 1 := by simp [joinEx, Ex.deep, deeps]
theorem join_leaves (a b : Ex) : (joinEx a b).leaves = a.leaves ++ b.leaves := by simp [joinEx, Ex.leaves, leavess]
theorem horTo_append (l m : List Ex) : horTo (l ++ m) = max (horTo l) (horTo m) := by
  have key : ∀ (m : List Ex) (a : Int), 0 ≤ a → m.foldl (fun n x => max n x.span) a = max a (horTo m) := by
    intro m
    unfold horTo
    induction m with
    | nil => intro a h; simp; omega
    | cons x m ih =>
      intro a h
      rw [List.foldl_cons, List.foldl_cons, ih (max a x.span) (by omega), ih (max 0 x.span) (by omega)]
      omega
  unfold horTo
  rw [List.foldl_append]
  exact key m _ (horTo_bd l)
theorem join_hor (a b : Ex) : (joinEx a b).hor = max a.hor b.hor := by unfold Ex.hor; rw [join_leaves, horTo_append]
theorem hor_bd (a : Ex) : 0 ≤ a.hor := horTo_bd _
theorem scale_flat (m : Int) (a : Ex) : (scaleEx m a).flat = scaleEx m a :: a.flat := by simp [scaleEx, Ex.flat, flats]
theorem join_flat (a b : Ex) : (joinEx a b).flat = joinEx a b :: (a.flat ++ b.flat) := by simp [joinEx, Ex.flat, flats]
theorem ok_parts {a : Ex} (h : checkExpr a = 0) : a.size ≤ 200 ∧ a.deep ≤ 16 ∧ a.flat.all rightB = true := by
  by_cases h1 : 200 < a.size ∨ 16 < a.deep
  · rw [checkExpr_long h1] at h; omega
  · by_cases h2 : a.flat.all rightB = true
    · exact ⟨by omega, by omega, h2⟩
    · rw [checkExpr_bad h1 h2] at h; omega
theorem scale_right (m : Int) (a : Ex) : rightB (scaleEx m a) = true := by
  unfold rightB
  rw [Bool.and_eq_true]
  exact ⟨show kindOk 4 = true by decide, (rightH_4 _ _ _ _ _ _ _ _).2 (by simp [scaleEx, Ex.kids, Ex.fn, Ex.op, Ex.num, Ex.metric, Ex.mats, Ex.span, Ex.names]; try decide)⟩
theorem join_right (a b : Ex) : rightB (joinEx a b) = true := by
  unfold rightB
  rw [Bool.and_eq_true]
  exact ⟨show kindOk 3 = true by decide, (rightH_3 _ _ _ _ _ _ _ _).2 (by simp [joinEx, Ex.kids, Ex.fn, Ex.op, Ex.num, Ex.metric, Ex.mats, Ex.span, Ex.names]; try decide)⟩
theorem scale_all (m : Int) {a : Ex} (h : a.flat.all rightB = true) : (scaleEx m a).flat.all rightB = true := by
  rw [scale_flat, List.all_cons, scale_right, h]; rfl
theorem join_all {a b : Ex} (h : a.flat.all rightB = true) (k : b.flat.all rightB = true) : (joinEx a b).flat.all rightB = true := by
  rw [join_flat, List.all_cons, join_right, List.all_append, h, k]; rfl

set_option maxRecDepth 100000 in
set_option maxHeartbeats 2000000 in
theorem wFits (e : Ex) (cs : List Value) (n : Nat) (w : World) (hn : n ≤ w.heap.size) (he : IsEx n w e cs) (hsz : e.size ≤ 1000000) (hr : e.flat.all rightB = true) :
    Calls Try.prog 22 #[.agg cs.toArray] w fun e' w' => e' = .returned (.bool true) ∧ Below w.heap.size w w' := by
  obtain ⟨pm, cm, pn, cn, pk, ck, rfl, -⟩ := he.cellsE
  have He := Lib.hid he; clear he
  have Hr := Lib.hid hr; clear hr
  go_enter Try.func22, Try.ntmps22; (try simp only [List.append_eq, List.cons_append, List.nil_append])
  go_upto_region 0 with fail
  go_cut [0, 1, 2] (fun s0 s1 s2 wx => s1 = .pointer (some ⟨w.heap.size, 0, none⟩) ∧ Below w.heap.size w wx ∧ Blk wx w.heap.size 26 [.int .i64 e.kind, .int .i64 e.fn, .int .i64 e.op, .int .i64 e.num, .string e.metric, .slice pm e.mats.length cm, .int .i64 e.span, .slice pn e.names.length cn, .slice pk e.kids.length ck])
  case first =>
    go_wp2
    go_meet
    exact ⟨rfl, (Below.refl _ _).alloc (Nat.le_refl _) _, Blk.new _ _ _⟩
  case rest =>
    obtain ⟨rfl, hbw, hbox⟩ := hcut
    obtain ⟨W, rfl⟩ : ∃ W : World, W = wc := ⟨_, rfl⟩
    have hlt := hbox.lt
    have hsw := hbw.size
    have Hbox := Lib.hid hbox
    have c0 := hbox.cell 0 _ rfl
    have c1 := hbox.cell 1 _ rfl
    have c2 := hbox.cell 2 _ rfl
    have c3 := hbox.cell 3 _ rfl
    have c4 := hbox.cell 4 _ rfl
    have c5 := hbox.cell 5 _ rfl
    have c6 := hbox.cell 6 _ rfl
    have c7 := hbox.cell 7 _ rfl
    have c8 := hbox.cell 8 _ rfl
    clear hbox
    have Hbw := Lib.hid hbw; clear hbw
    have hd := deep_le_size e
    go_wp2_with fail
    refine (aSize e _ n _ (by omega) (He.out.mono (Hbw.out.mono hn) (Nat.le_refl _)) hsz).mono ?_
    rintro e' W1 ⟨rfl, hb1⟩
    have hs1 := hb1.size
    have Hb1 := Lib.hid hb1; clear hb1
    clear c0 c1 c2 c3 c4 c5 c6 c7 c8
    have hx1 := Hbox.out.keep Hb1.out
    have c0 := hx1.cell 0 _ rfl
    have c1 := hx1.cell 1 _ rfl
    have c2 := hx1.cell 2 _ rfl
    have c3 := hx1.cell 3 _ rfl
    have c4 := hx1.cell 4 _ rfl
    have c5 := hx1.cell 5 _ rfl
    have c6 := hx1.cell 6 _ rfl
    have c7 := hx1.cell 7 _ rfl
    have c8 := hx1.cell 8 _ rfl
    clear hx1
    by_cases h1 : 200 < e.size
    · have hck : checkExpr e = 3 := checkExpr_long (.inl h1)
      have hd1 : decide ((200 : Int) < (e.size : Int)) = true := by simp; omega
      go_wp2_with (go_at_call 16; refine (aCheckExpr e _ n _ (by omega) (He.out.mono ((Hbw.out.trans (Hb1.out.mono hsw)).mono hn) (Nat.le_refl _)) hsz).mono ?_; rintro e' W2 ⟨rfl, hb2⟩; have Hb2 := Lib.hid hb2; clear hb2)
      go_ret
      exact ⟨by first | rfl | exact ret_bool (by rw [hck]; rfl), Hbw.out.trans ((Hb1.out.mono hsw).trans (Hb2.out.mono (by omega)))⟩
    · have hd1 : decide ((200 : Int) < (e.size : Int)) = false := by simp; omega
      go_wp2_with fail
      refine (aDeep e _ n _ (by omega) (He.out.mono ((Hbw.out.trans (Hb1.out.mono hsw)).mono hn) (Nat.le_refl _)) hsz).mono ?_
      rintro e' W2 ⟨rfl, hb2⟩
      have hs2 := hb2.size
      have Hb2 := Lib.hid hb2; clear hb2
      clear c0 c1 c2 c3 c4 c5 c6 c7 c8
      have hx2 := (Hbox.out.keep Hb1.out).keep Hb2.out
      have c0 := hx2.cell 0 _ rfl
      have c1 := hx2.cell 1 _ rfl
      have c2 := hx2.cell 2 _ rfl
      have c3 := hx2.cell 3 _ rfl
      have c4 := hx2.cell 4 _ rfl
      have c5 := hx2.cell 5 _ rfl
      have c6 := hx2.cell 6 _ rfl
      have c7 := hx2.cell 7 _ rfl
      have c8 := hx2.cell 8 _ rfl
      clear hx2
      by_cases h2 : 16 < e.deep
      · have hck : checkExpr e = 3 := checkExpr_long (.inr h2)
        have hd2 : decide ((16 : Int) < (e.deep : Int)) = true := by simp; omega
        go_wp2_with (go_at_call 16; refine (aCheckExpr e _ n _ (by omega) (He.out.mono (((Hbw.out.trans (Hb1.out.mono hsw)).trans (Hb2.out.mono (by omega))).mono hn) (Nat.le_refl _)) hsz).mono ?_; rintro e' W3 ⟨rfl, hb3⟩; have Hb3 := Lib.hid hb3; clear hb3)
        go_ret
        exact ⟨by first | rfl | exact ret_bool (by rw [hck]; rfl), Hbw.out.trans ((Hb1.out.mono hsw).trans ((Hb2.out.mono (by omega)).trans (Hb3.out.mono (by omega))))⟩
      · have hd2 : decide ((16 : Int) < (e.deep : Int)) = false := by simp; omega
        have hck : checkExpr e = 0 := checkExpr_ok (by omega) Hr.out
        go_wp2_with (go_at_call 16; refine (aCheckExpr e _ n _ (by omega) (He.out.mono (((Hbw.out.trans (Hb1.out.mono hsw)).trans (Hb2.out.mono (by omega))).mono hn) (Nat.le_refl _)) hsz).mono ?_; rintro e' W3 ⟨rfl, hb3⟩; have Hb3 := Lib.hid hb3; clear hb3)
        go_ret
        exact ⟨by first | rfl | exact ret_bool (by rw [hck]; rfl), Hbw.out.trans ((Hb1.out.mono hsw).trans ((Hb2.out.mono (by omega)).trans (Hb3.out.mono (by omega))))⟩

end Go.Proofs.Ytikaiiamoaahdaa
