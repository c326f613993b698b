/- The chapter's examples. -/
import Derived.Test.YtikaiiamoaahdaaFirst
import Derived.Test.YtikaiiamoaahdaaHor
import Derived.Test.YtikaiiamoaahdaaChk
namespace Go.Proofs.Ytikaiiamoaahdaa
open Go.RowKit
set_option linter.unusedSimpArgs false
set_option linter.unusedVariables false

theorem wFirst2 (w : World) : Calls Try.prog 15 #[] w fun e' w' => ∃ (Am An Ak : Option Addr) (cm cn ck : Nat), e' = .returned (.agg #[.int .i64 5, .int .i64 0, .int .i64 6, .int .i64 3, .string ⟨#[]⟩, .slice Am 0 cm, .int .i64 0, .slice An 0 cn, .slice Ak 1 ck]) ∧
    Fresh w.heap.size w'.heap.size w' firstEx [.int .i64 5, .int .i64 0, .int .i64 6, .int .i64 3, .string ⟨#[]⟩, .slice Am 0 cm, .int .i64 0, .slice An 0 cn, .slice Ak 1 ck] ∧ Below w.heap.size w w' := by
  refine (wFirst w).mono ?_
  rintro e' w' ⟨cs, rfl, hf, hb, -⟩
  obtain ⟨vm, vn, vk, rows, rfl, h1, h2, h3, -⟩ := hf.cells
  obtain ⟨Am, cm, rfl⟩ := ownsRow_slice h1.1
  obtain ⟨An, cn, rfl⟩ := ownsRow_slice h2.1
  obtain ⟨Ak, ck, rfl⟩ := ownsRow_slice h3.1
  exact ⟨Am, An, Ak, cm, cn, ck, rfl, hf, hb⟩

theorem first_size : firstEx.size = 3 := by decide +kernel
theorem first_deep : firstEx.deep = 3 := by decide +kernel
theorem first_hor : firstEx.hor = 10 := by
  have : firstEx.leaves = [winEx 1 10] := by
    simp [firstEx, firstG, winEx, Ex.leaves, leavess]
  unfold Ex.hor
  rw [this]
  rfl
theorem first_ok : checkQuery 5 firstEx = 0 := by decide +kernel
theorem first_bad : checkQuery 0 firstEx = 2 := by decide +kernel

set_option maxRecDepth 100000 in
set_option maxHeartbeats 2000000 in
theorem wLives (w : World) : Calls Try.prog 8 #[] w fun e' w' => e' = .returned (.bool true) ∧ Below w.heap.size w w' := by
  have HB := Lib.hid (Below.refl w.heap.size w)
  go_enter Try.func8, Try.ntmps8; (try simp only [List.append_eq, List.cons_append, List.nil_append])
  go_wp2_with (first
    | (go_at_call 15; refine (wFirst2 _).mono ?_; rintro e' w' ⟨Am, An, Ak, cm, cn, ck, rfl, hf, hb⟩; have HB := Lib.hid (HB.out.trans (hb.mono HB.out.size)); clear hb; have HE := Lib.hid (hf.isEx (Nat.le_refl _)); clear hf)
    | (go_at_call 19; refine (aSize firstEx _ _ _ (Nat.le_refl _) HE.out (by decide +kernel)).mono ?_; rintro e' w' ⟨rfl, hb⟩; have HB := Lib.hid (HB.out.trans (hb.mono HB.out.size)); clear hb; rw [first_size])
    | (go_at_call 20; refine (aDeep firstEx _ _ _ (Nat.le_refl _) HE.out (by decide +kernel)).mono ?_; rintro e' w' ⟨rfl, hb⟩; have HB := Lib.hid (HB.out.trans (hb.mono HB.out.size)); clear hb; rw [first_deep])
    | (go_at_call 21; refine (aHorizon firstEx _ _ _ (Nat.le_refl _) HE.out (by decide +kernel)).mono ?_; rintro e' w' ⟨rfl, hb⟩; have HB := Lib.hid (HB.out.trans (hb.mono HB.out.size)); clear hb; rw [first_hor]; have tk1 : True := trivial)
    | (go_at_call 25; have _t := tk1; clear tk1; refine (aCheck 5 firstEx _ _ _ (Nat.le_refl _) HE.out (by decide +kernel)).mono ?_; rintro e' w' ⟨rfl, hb⟩; have HB := Lib.hid (HB.out.trans (hb.mono HB.out.size)); clear hb; rw [first_ok]; have tk2 : True := trivial)
    | (go_at_call 25; have _t := tk2; refine (aCheck 0 firstEx _ _ _ (Nat.le_refl _) HE.out (by decide +kernel)).mono ?_; rintro e' w' ⟨rfl, hb⟩; have HB := Lib.hid (HB.out.trans (hb.mono HB.out.size)); clear hb; rw [first_bad]))
  go_ret
  exact ⟨rfl, HB.out⟩

end Go.Proofs.Ytikaiiamoaahdaa
