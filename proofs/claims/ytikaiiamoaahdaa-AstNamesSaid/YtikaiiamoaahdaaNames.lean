/- AstNames: the walk. -/
import Derived.Test.YtikaiiamoaahdaaLives
namespace Go.Proofs.Ytikaiiamoaahdaa
open Go.RowKit
set_option linter.unusedSimpArgs false
set_option linter.unusedVariables false

/-- The chapter's expression with names that are not sorted. -/
def badEx : Ex := .mk 5 0 6 3 ⟨#[]⟩ [] 0 [] [firstG [⟨#[98]⟩, ⟨#[97]⟩]]
def zeroEx : Ex := .mk 0 0 0 0 ⟨#[]⟩ [] 0 [] []
theorem bad_bad : checkExpr badEx = 2 := by decide +kernel
theorem zero_bad : checkExpr zeroEx = 2 := by decide +kernel
theorem zero_is (n : Nat) (w : World) : IsEx n w zeroEx [.int .i64 0, .int .i64 0, .int .i64 0, .int .i64 0, .string ⟨#[]⟩, .slice none 0 0, .int .i64 0, .slice none 0 0, .slice none 0 0] :=
  .mk (rows := []) (by decide) ⟨Arr.nil _ _ _, by simp⟩ ⟨Arr.nil _ _ _, by simp⟩ (Arr.nil _ _ _) rfl (fun k r e hr _ => by simp at hr)
theorem first_leaves : firstEx.leaves.length = 1 := by
  simp [firstEx, firstG, winEx, Ex.leaves, leavess]

/-- One row of its own. -/
theorem arr1 {m : Nat} {w : World} {g t : Nat} {r : List Value} (h : Blk w g t r) (hm : w.heap.size ≤ m) : Arr m w (.slice (some ⟨g, 0, none⟩) 1 1) r.length [r] := by
  refine ⟨_, 1, rfl, Nat.le_refl _, by decide, fun _ => ⟨g, 0, rfl, Nat.lt_of_lt_of_le h.lt hm, fun k r' hr j x hx => ?_⟩⟩
  match k, hr with
  | 0, hr =>
    simp only [List.getElem?_cons_zero, Option.some.injEq] at hr
    subst hr
    simpa using h.cell j x hx
  | k + 1, hr => simp at hr
theorem isEx1 {m : Nat} {w : World} {g : Nat} {e : Ex} {r : List Value} (h : Blk w g 26 r) (hm : w.heap.size ≤ m) (he : IsEx m w e r) : Arr m w (.slice (some ⟨g, 0, none⟩) 1 1) 9 [r] := by
  have := arr1 h hm
  rwa [he.length] at this

theorem bad_is {w : World} {gg gw gb : Nat} (h1 : Blk w gg 26 [.int .i64 2, .int .i64 1, .int .i64 0, .int .i64 0, .string ⟨#[]⟩, .slice none 0 0, .int .i64 0, .slice (some ⟨gb, 0, none⟩) 2 2, .slice (some ⟨gw, 0, none⟩) 1 1])
    (h2 : Blk w gw 26 [.int .i64 1, .int .i64 1, .int .i64 0, .int .i64 0, .string ⟨#[99, 112, 117]⟩, .slice none 0 0, .int .i64 10, .slice none 0 0, .slice none 0 0]) (h3 : Blk w gb 9 [.string ⟨#[98]⟩, .string ⟨#[97]⟩]) :
    IsEx w.heap.size w badEx [.int .i64 5, .int .i64 0, .int .i64 6, .int .i64 3, .string ⟨#[]⟩, .slice none 0 0, .int .i64 0, .slice none 0 0, .slice (some ⟨gg, 0, none⟩) 1 1] := by
  have hw : IsEx w.heap.size w (winEx 1 10) [.int .i64 1, .int .i64 1, .int .i64 0, .int .i64 0, .string ⟨#[99, 112, 117]⟩, .slice none 0 0, .int .i64 10, .slice none 0 0, .slice none 0 0] :=
    .mk (rows := []) (by decide) ⟨Arr.nil _ _ _, by simp⟩ ⟨Arr.nil _ _ _, by simp⟩ (Arr.nil _ _ _) rfl (fun k r e hr _ => by simp at hr)
  have hn : IsStrs w.heap.size w (.slice (some ⟨gb, 0, none⟩) 2 2) [⟨#[98]⟩, ⟨#[97]⟩] := by
    refine ⟨⟨_, 2, rfl, Nat.le_refl _, by decide, fun _ => ⟨gb, 0, rfl, h3.lt, fun k r hr j x hx => ?_⟩⟩, by intro s hs; simp only [List.mem_cons, List.not_mem_nil, or_false] at hs; rcases hs with rfl | rfl <;> decide⟩
    match k, hr with
    | 0, hr =>
      simp at hr; subst hr
      match j, hx with
      | 0, hx => simp at hx; subst hx; exact h3.cell 0 _ rfl
      | j + 1, hx => simp at hx
    | 1, hr =>
      simp at hr; subst hr
      match j, hx with
      | 0, hx => simp at hx; subst hx; exact h3.cell 1 _ rfl
      | j + 1, hx => simp at hx
    | k + 2, hr => simp at hr
  have hg : IsEx w.heap.size w (firstG [⟨#[98]⟩, ⟨#[97]⟩]) [.int .i64 2, .int .i64 1, .int .i64 0, .int .i64 0, .string ⟨#[]⟩, .slice none 0 0, .int .i64 0, .slice (some ⟨gb, 0, none⟩) 2 2, .slice (some ⟨gw, 0, none⟩) 1 1] := by
    refine .mk (by decide) ⟨Arr.nil _ _ _, by simp⟩ hn (isEx1 h2 (Nat.le_refl _) hw) rfl (fun k r e hr he => ?_)
    match k, hr, he with
    | 0, hr, he =>
      simp at hr he; subst hr he; exact hw
    | k + 1, hr, he => simp at hr
  refine .mk (by decide) ⟨Arr.nil _ _ _, by simp⟩ ⟨Arr.nil _ _ _, by simp⟩ (isEx1 h1 (Nat.le_refl _) hg) rfl (fun k r e hr he => ?_)
  match k, hr, he with
  | 0, hr, he =>
    simp at hr he; subst hr he; exact hg
  | k + 1, hr, he => simp at hr

/-- Walk with nothing to call. -/
theorem aWalk_nil (e : Ex) (cs : List Value) (n : Nat) (w : World) (he : IsEx n w e cs) : Calls Try.prog 12 #[.agg cs.toArray, .nilFunc] w fun e' w' => e' = .returned (.bool false) ∧ Below w.heap.size w w' := by
  obtain ⟨pm, cm, pn, cn, pk, ck, rfl, _⟩ := he.cellsE
  have hq : ∀ w, (binOp .eql 32 .nilFunc .nilFunc).run Try.prog w = .ok (.bool true) w := fun w => by kernel_rfl
  go_enter Try.func12, Try.ntmps12; (try simp only [List.append_eq, List.cons_append, List.nil_append])
  go_wp2
  have r0 : (((w.alloc (.cells #[.int .i64 e.kind, .int .i64 e.fn, .int .i64 e.op, .int .i64 e.num, .string e.metric, .slice pm e.mats.length cm, .int .i64 e.span, .slice pn e.names.length cn, .slice pk e.kids.length ck] 26)).alloc (.cells #[.nilFunc] 32)).alloc (.cells #[.bool false] 4)).cell? ⟨w.heap.size + 1 + 1, 0, none⟩ = some (.bool false) := by simp [go_sem]
  exact bodyPost_ret (results_cell rfl _ rfl (Try.isAgg4 _) (by first | exact r0 | (simp [go_sem]))) rfl ⟨rfl, (((Below.refl _ _).alloc (Nat.le_refl _) _).alloc (by simp) _).alloc (by simp; omega) _⟩

set_option maxRecDepth 100000 in
set_option maxHeartbeats 4000000 in
theorem wNames (w : World) : Calls Try.prog 4 #[] w fun e' w' => e' = .returned (.bool true) ∧ Below w.heap.size w w' := by
  go_enter Try.func4, Try.ntmps4; (try simp only [List.append_eq, List.cons_append, List.nil_append])
  go_wp2_with fail
  refine (wFirst _).mono ?_
  rintro e' w2 ⟨_, rfl, -, hb2, gg, gw, ga, rfl, hgg, hgw, hga, hne, hng, hnw, hna⟩
  have a7 : ∀ o o', ((w2.alloc o).alloc o').cell? ⟨gg, 7, none⟩ = some (.slice (some ⟨ga, 0, none⟩) 1 1) := fun o o' => ((((hgg.keep ((Below.refl _ _).alloc (Nat.le_refl _) o)).keep ((Below.refl _ _).alloc (Nat.le_refl _) o'))).cell 7 _ rfl)
  have f7 : ∀ o o', ((w2.alloc o).alloc o').frozen? ⟨gg, 7, none⟩ = false := fun o o' => ((((hgg.keep ((Below.refl _ _).alloc (Nat.le_refl _) o)).keep ((Below.refl _ _).alloc (Nat.le_refl _) o'))).free 7)
  have hlg := hgg.lt
  have hlw := hgw.lt
  have Hgg := Lib.hid hgg; clear hgg
  have Hgw := Lib.hid hgw; clear hgw
  have Hb2 := Lib.hid hb2; clear hb2
  clear hga
  go_upto_region 3 with fail
  have hs2 := Hb2.out.size
  have hsx : (w2.setCell ⟨gg, 7, none⟩ (.slice (some ⟨w2.heap.size + 1, 0, none⟩) 2 2)).heap.size = w2.heap.size := by simp
  have hgg2 := Hgg.out.set 7 (.slice (some ⟨w2.heap.size + 1, 0, none⟩) 2 2)
  have hgw2 := Hgw.out.other (p := ⟨gg, 7, none⟩) (fun e => hne e.symm) (.slice (some ⟨w2.heap.size + 1, 0, none⟩) 2 2)
  have hb2' := Hb2.out.setCell (p := ⟨gg, 7, none⟩) (by simp; omega) (.slice (some ⟨w2.heap.size + 1, 0, none⟩) 2 2)
  generalize w2.setCell ⟨gg, 7, none⟩ (.slice (some ⟨w2.heap.size + 1, 0, none⟩) 2 2) = X2 at hsx hgg2 hgw2 hb2' ⊢
  have hbox : Blk ((X2.alloc (.cells #[.int .i64 5, .int .i64 0, .int .i64 6, .int .i64 3, .string ⟨#[]⟩, .slice none 0 0, .int .i64 0, .slice none 0 0, .slice (some ⟨gg, 0, none⟩) 1 1] 26)).alloc (.cells #[.string ⟨#[98]⟩, .string ⟨#[97]⟩] 9)) w2.heap.size 26 [.int .i64 5, .int .i64 0, .int .i64 6, .int .i64 3, .string ⟨#[]⟩, .slice none 0 0, .int .i64 0, .slice none 0 0, .slice (some ⟨gg, 0, none⟩) 1 1] := by
    rw [← hsx]
    exact (Blk.new X2 [.int .i64 5, .int .i64 0, .int .i64 6, .int .i64 3, .string ⟨#[]⟩, .slice none 0 0, .int .i64 0, .slice none 0 0, .slice (some ⟨gg, 0, none⟩) 1 1] 26).keep ((Below.refl _ _).alloc (Nat.le_refl _) _)
  have hba : Blk ((X2.alloc (.cells #[.int .i64 5, .int .i64 0, .int .i64 6, .int .i64 3, .string ⟨#[]⟩, .slice none 0 0, .int .i64 0, .slice none 0 0, .slice (some ⟨gg, 0, none⟩) 1 1] 26)).alloc (.cells #[.string ⟨#[98]⟩, .string ⟨#[97]⟩] 9)) (w2.heap.size + 1) 9 [.string ⟨#[98]⟩, .string ⟨#[97]⟩] := by
    have := Blk.new (X2.alloc (.cells #[.int .i64 5, .int .i64 0, .int .i64 6, .int .i64 3, .string ⟨#[]⟩, .slice none 0 0, .int .i64 0, .slice none 0 0, .slice (some ⟨gg, 0, none⟩) 1 1] 26)) [.string ⟨#[98]⟩, .string ⟨#[97]⟩] 9
    simpa [hsx] using this
  have hb5 : Below w.heap.size w ((X2.alloc (.cells #[.int .i64 5, .int .i64 0, .int .i64 6, .int .i64 3, .string ⟨#[]⟩, .slice none 0 0, .int .i64 0, .slice none 0 0, .slice (some ⟨gg, 0, none⟩) 1 1] 26)).alloc (.cells #[.string ⟨#[98]⟩, .string ⟨#[97]⟩] 9)) := (hb2'.alloc (by omega) _).alloc (by simp; omega) _
  have hbad := bad_is (gg := gg) (gw := gw) (gb := w2.heap.size + 1) ((hgg2.keep ((Below.refl _ _).alloc (Nat.le_refl _) (.cells #[.int .i64 5, .int .i64 0, .int .i64 6, .int .i64 3, .string ⟨#[]⟩, .slice none 0 0, .int .i64 0, .slice none 0 0, .slice (some ⟨gg, 0, none⟩) 1 1] 26))).keep ((Below.refl _ _).alloc (Nat.le_refl _) (.cells #[.string ⟨#[98]⟩, .string ⟨#[97]⟩] 9)))
    ((hgw2.keep ((Below.refl _ _).alloc (Nat.le_refl _) _)).keep ((Below.refl _ _).alloc (Nat.le_refl _) _)) hba
  clear a7 f7 hgg2 hgw2 hba hb2'
  generalize (X2.alloc (.cells #[.int .i64 5, .int .i64 0, .int .i64 6, .int .i64 3, .string ⟨#[]⟩, .slice none 0 0, .int .i64 0, .slice none 0 0, .slice (some ⟨gg, 0, none⟩) 1 1] 26)).alloc (.cells #[.string ⟨#[98]⟩, .string ⟨#[97]⟩] 9) = X at hbox hb5 hbad ⊢
  clear hsx
  have HB := Lib.hid hb5; clear hb5
  have Hbox := Lib.hid hbox; clear hbox
  have Hbad := Lib.hid hbad; clear hbad
  have k2 : kidsOf 3 = 2 := by decide
  have k9 : kidsOf 9 = -1 := by decide
  go_wp2_with (first
    | (go_at_call 8; refine (wLives _).mono ?_; rintro e' wl ⟨rfl, hb⟩; have Hbl := Lib.hid hb; have HB := Lib.hid (HB.out.trans (hb.mono HB.out.size)); clear hb; have q0 := (Hbox.out.keep Hbl.out).cell 0 _ rfl; have q1 := (Hbox.out.keep Hbl.out).cell 1 _ rfl; have q2 := (Hbox.out.keep Hbl.out).cell 2 _ rfl; have q3 := (Hbox.out.keep Hbl.out).cell 3 _ rfl; have q4 := (Hbox.out.keep Hbl.out).cell 4 _ rfl; have q5 := (Hbox.out.keep Hbl.out).cell 5 _ rfl; have q6 := (Hbox.out.keep Hbl.out).cell 6 _ rfl; have q7 := (Hbox.out.keep Hbl.out).cell 7 _ rfl; have q8 := (Hbox.out.keep Hbl.out).cell 8 _ rfl; have tk1 : True := trivial)
    | (go_at_call 16; have _t := tk1; refine (aCheckExpr badEx _ _ _ Hbl.out.size (Hbad.out.mono Hbl.out (Nat.le_refl _)) (by decide +kernel)).mono ?_; rintro e' w' ⟨rfl, hb⟩; have HB := Lib.hid (HB.out.trans (hb.mono HB.out.size)); clear hb tk1 q0 q1 q2 q3 q4 q5 q6 q7 q8; rw [bad_bad]; have tk2 : True := trivial)
    | (go_at_call 17; have _t := tk2; refine (aKids 3 _).mono ?_; rintro e' w' ⟨rfl, hb⟩; have HB := Lib.hid (HB.out.trans (hb.mono HB.out.size)); clear hb tk2; rw [k2]; have tk3 : True := trivial)
    | (go_at_call 17; have _t := tk3; refine (aKids 9 _).mono ?_; rintro e' w' ⟨rfl, hb⟩; have HB := Lib.hid (HB.out.trans (hb.mono HB.out.size)); clear hb tk3; rw [k9])
    | (go_at_call 15; refine (wFirst2 _).mono ?_; rintro e' w' ⟨Am, An, Ak, cm, cn, ck, rfl, hf, hb⟩; have HB := Lib.hid (HB.out.trans (hb.mono HB.out.size)); clear hb; have HE := Lib.hid (hf.isEx (Nat.le_refl _)); clear hf)
    | (go_at_call 18; refine (aLeaves firstEx _ _ _ (Nat.le_refl _) HE.out (by decide +kernel)).mono ?_; rintro e' w' ⟨v, rfl, ⟨rows, ho, -⟩, hb⟩; obtain ⟨A, c, rfl⟩ := ownsRow_slice ho; clear ho; have HB := Lib.hid (HB.out.trans (hb.mono HB.out.size)); clear hb; rw [first_leaves])
    | (go_at_call 12; refine (aWalk_nil firstEx _ _ _ HE.out).mono ?_; rintro e' w' ⟨rfl, hb⟩; have HB := Lib.hid (HB.out.trans (hb.mono HB.out.size)); clear hb; have tk4 : True := trivial)
    | (go_at_call 16; have _t := tk4; refine (aCheckExpr zeroEx _ _ _ (Nat.le_refl _) (zero_is _ _) (by decide +kernel)).mono ?_; rintro e' w' ⟨rfl, hb⟩; have HB := Lib.hid (HB.out.trans (hb.mono HB.out.size)); clear hb; rw [zero_bad]))
  go_ret
  exact ⟨rfl, HB.out⟩

end Go.Proofs.Ytikaiiamoaahdaa
