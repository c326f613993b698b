/- The function that AstWalks hands to Walk. -/
import Derived.Test.YtikaiiamoaahdaaLvs
import Derived.Test.YtikaiiamoaahdaaWalk0
namespace Go.Proofs.Ytikaiiamoaahdaa
open Go.Shelf
open Go.RowKit
set_option linter.unusedSimpArgs false
set_option linter.unusedVariables false
attribute [local go_sem] Oper.semAt_some

set_option maxRecDepth 100000 in
set_option maxHeartbeats 4000000 in
theorem lWalks1 (x : Ex) (r : List Value) (n base lb kb : Nat) (k : Int) (v : Value) (l : List Ex) (W : World) (hx : IsEx n W x r) (hbl : Boxed W lb 24 v) (hbk : Boxed W kb 3 (.int .i64 k)) (ho : Own n base W v l) (hlk : lb ≠ kb)
    (hn : n ≤ base) (hbb : base ≤ lb) (hbs : base ≤ W.heap.size) (hl : l.length ≤ 1000000) :
    Calls Try.prog 13 #[.agg r.toArray, .pointer (some ⟨lb, 0, none⟩), .pointer (some ⟨kb, 0, none⟩)] W fun e' W' =>
      e' = .returned (.bool (decide ((l.length : Int) + 1 < k))) ∧ Post1 n base lb v.ownBlock (l ++ [x]) W W' := by
  refine (callsIn_wide (n := 9)).1 ?_
  obtain ⟨pm', cm', pn', cn', pk', ck', rfl, _⟩ := hx.cellsE
  have Hx := Lib.hid hx; clear hx
  obtain ⟨i0, hi, hz0, hz1, hz2⟩ := info_parts infoE
  obtain ⟨rows, hor, hl1, hg1⟩ := ho
  obtain ⟨A, cap, rfl⟩ := ownsRow_slice hor
  have Hor := Lib.hid hor; clear hor
  have Hl1 := Lib.hid hl1; clear hl1
  have Hg1 := Lib.hid hg1; clear hg1
  refine callsIn_of_wp Try.func13 rfl trivial ?_ rfl; simp only [Try.ntmps13, List.size_toArray, List.length_cons, List.length_nil, Nat.reduceAdd, Nat.reduceSub, Array.replicate_succ, Array.replicate_zero, List.push_toArray, List.append_toArray, List.nil_append, List.cons_append]; (try simp only [List.append_eq, List.cons_append, List.nil_append])
  gi_wp2
  obtain ⟨X, hX⟩ : ∃ X, W.alloc (.cells #[.int .i64 x.kind, .int .i64 x.fn, .int .i64 x.op, .int .i64 x.num, .string x.metric, .slice pm' x.mats.length cm', .int .i64 x.span, .slice pn' x.names.length cn', .slice pk' x.kids.length ck'] 26) = X := ⟨_, rfl⟩
  have hB : Blk X W.heap.size 26 [.int .i64 x.kind, .int .i64 x.fn, .int .i64 x.op, .int .i64 x.num, .string x.metric, .slice pm' x.mats.length cm', .int .i64 x.span, .slice pn' x.names.length cn', .slice pk' x.kids.length ck'] := by rw [← hX]; exact Blk.new _ _ _
  have hbX : Below W.heap.size W X := by rw [← hX]; exact (Below.refl _ _).alloc (Nat.le_refl _) _
  have hsX : X.heap.size = W.heap.size + 1 := by rw [← hX]; simp
  have hbl2 : Boxed X lb 24 _ := Boxed.keepB hbl hbX
  have hbk2 : Boxed X kb 3 _ := Boxed.keepB hbk hbX
  rw [hX]
  clear hX
  have hbc := hbl2.cell
  have hkc := hbk2.cell
  have hll := hbl2.lt
  have hlk2 := hbk2.lt
  have x0 := hB.cell 0 _ rfl
  have x1 := hB.cell 1 _ rfl
  have x2 := hB.cell 2 _ rfl
  have x3 := hB.cell 3 _ rfl
  have x4 := hB.cell 4 _ rfl
  have x5 := hB.cell 5 _ rfl
  have x6 := hB.cell 6 _ rfl
  have x7 := hB.cell 7 _ rfl
  have x8 := hB.cell 8 _ rfl
  have ac : ∀ o, (X.alloc o).cell? ⟨lb, 0, none⟩ = some (.slice A l.length cap) := fun o => (World.cell?_alloc_lt X o _ (World.block_lt_of_cell? X _ hbc)).trans hbc
  have a0 : ∀ o, (X.alloc o).cell? ⟨W.heap.size, 0, none⟩ = _ := fun o => (World.cell?_alloc_lt X o _ (World.block_lt_of_cell? X _ x0)).trans x0
  have a1 : ∀ o, (X.alloc o).cell? ⟨W.heap.size, 1, none⟩ = _ := fun o => (World.cell?_alloc_lt X o _ (World.block_lt_of_cell? X _ x1)).trans x1
  have a2 : ∀ o, (X.alloc o).cell? ⟨W.heap.size, 2, none⟩ = _ := fun o => (World.cell?_alloc_lt X o _ (World.block_lt_of_cell? X _ x2)).trans x2
  have a3 : ∀ o, (X.alloc o).cell? ⟨W.heap.size, 3, none⟩ = _ := fun o => (World.cell?_alloc_lt X o _ (World.block_lt_of_cell? X _ x3)).trans x3
  have a4 : ∀ o, (X.alloc o).cell? ⟨W.heap.size, 4, none⟩ = _ := fun o => (World.cell?_alloc_lt X o _ (World.block_lt_of_cell? X _ x4)).trans x4
  have a5 : ∀ o, (X.alloc o).cell? ⟨W.heap.size, 5, none⟩ = _ := fun o => (World.cell?_alloc_lt X o _ (World.block_lt_of_cell? X _ x5)).trans x5
  have a6 : ∀ o, (X.alloc o).cell? ⟨W.heap.size, 6, none⟩ = _ := fun o => (World.cell?_alloc_lt X o _ (World.block_lt_of_cell? X _ x6)).trans x6
  have a7 : ∀ o, (X.alloc o).cell? ⟨W.heap.size, 7, none⟩ = _ := fun o => (World.cell?_alloc_lt X o _ (World.block_lt_of_cell? X _ x7)).trans x7
  have a8 : ∀ o, (X.alloc o).cell? ⟨W.heap.size, 8, none⟩ = _ := fun o => (World.cell?_alloc_lt X o _ (World.block_lt_of_cell? X _ x8)).trans x8
  have HsX := Lib.hid hsX; clear hsX
  have HB := Lib.hid hB; clear hB
  have HbX := Lib.hid hbX; clear hbX
  have Hbl2 := Lib.hid hbl2; clear hbl2
  have Hbk2 := Lib.hid hbk2; clear hbk2
  have Hbl := Lib.hid hbl; clear hbl
  have Hbk := Lib.hid hbk; clear hbk
  refine wpIn_region_any (by kernel_rfl) ?_
  change wpAnyIn _ _ _ _ _ _ _ _ _ (World.drew _)
  refine regPhase 4 #[true, true, true, true, false, false, false, false] { tmps := #[.agg #[.int .i64 x.kind, .int .i64 x.fn, .int .i64 x.op, .int .i64 x.num, .string x.metric, .slice pm' x.mats.length cm', .int .i64 x.span, .slice pn' x.names.length cn', .slice pk' x.kids.length ck'], .pointer (some ⟨lb, 0, none⟩), .pointer (some ⟨kb, 0, none⟩), .pointer (some ⟨W.heap.size, 0, none⟩), .bool false, .slice A l.length cap, .agg #[.int .i64 x.kind, .int .i64 x.fn, .int .i64 x.op, .int .i64 x.num, .string x.metric, .slice pm' x.mats.length cm', .int .i64 x.span, .slice pn' x.names.length cn', .slice pk' x.kids.length ck'], .int .i64 l.length, .slice (some ⟨X.heap.size, 0, none⟩) 1 1, undef, undef, undef, undef, undef, undef], defers := [] } (X.alloc (.cells #[.int .i64 0, .int .i64 0, .int .i64 0, .int .i64 0, .string ⟨#[]⟩, .slice none 0 0, .int .i64 0, .slice none 0 0, .slice none 0 0] 26)).drew ?h4 (fun H4 => ?_)
  case h4 =>
    refine wpAnyIn_ready (rs := [4]) (by decide +kernel) (by simp) ?_
    refine AllReadyIn.cons rfl (fun K hK => ?_) AllReadyIn.nil
    have hor2 := ownsRow_keep Hor.out HbX.out
    refine stepIn_append_src _ rfl _ _ _ rfl base 26 i0 _ 9 128 Try.underlying24 hi hz0 hz1 hz2 rfl (by decide) _ _ rows.flatten rfl (hor2.alloc _) _ 1 [.int .i64 0, .int .i64 0, .int .i64 0, .int .i64 0, .string ⟨#[]⟩, .slice none 0 0, .int .i64 0, .slice none 0 0, .slice none 0 0] rfl (Src.of_own (base := 0) (e := 26) ⟨rfl, .inr ⟨_, 1, _, rfl, Nat.zero_le _, heap_alloc_new X _, Nat.le_refl _, by decide, rfl, rfl⟩⟩) (by decide) (by unfold maxLen; omega) (by omega) (by have := HsX.out; simp; omega) ?_
    intro v3 w3 hown3 hgr3 hat3
    obtain ⟨g, cap3, rfl⟩ := ownsRow_succ hown3
    go_simp
    refine hK _ _ ?_; clear hK K
    have fz := fun j => hown3.frozenAt (g := g) j
    have cz : ∀ (j : Nat) (u : Value), [Value.int .i64 0, .int .i64 0, .int .i64 0, .int .i64 0, .string ⟨#[]⟩, .slice none 0 0, .int .i64 0, .slice none 0 0, .slice none 0 0][j]? = some u → w3.cell? ⟨g, l.length * 9 + j, none⟩ = some u := by
      intro j u hu
      have hj : j < 9 := (List.getElem?_eq_some_iff.1 hu).1
      rw [hown3.cellAt (l.length * 9 + j) (by omega), List.getElem?_append_right (by rw [Hor.out.1]; omega), Hor.out.1, Nat.add_sub_cancel_left]
      exact hu
    have cz0 : w3.cell? ⟨g, l.length * 9, none⟩ = _ := cz 0 _ rfl
    have cz1 := cz 1 _ rfl
    have cz2 := cz 2 _ rfl
    have cz3 := cz 3 _ rfl
    have cz4 := cz 4 _ rfl
    have cz5 := cz 5 _ rfl
    have cz6 := cz 6 _ rfl
    have cz7 := cz 7 _ rfl
    have cz8 := cz 8 _ rfl
    clear cz
    have hb3 : Boxed w3 lb 24 (.slice A l.length cap) := Boxed.kept (W := (X.alloc (.cells #[.int .i64 0, .int .i64 0, .int .i64 0, .int .i64 0, .string ⟨#[]⟩, .slice none 0 0, .int .i64 0, .slice none 0 0, .slice none 0 0] 26)).drew) (Hbl2.out.alloc _) hgr3 (Hbl2.out.not_row (by decide) hor2)
    have hbk3 : Boxed w3 kb 3 (.int .i64 k) := Boxed.kept (W := (X.alloc (.cells #[.int .i64 0, .int .i64 0, .int .i64 0, .int .i64 0, .string ⟨#[]⟩, .slice none 0 0, .int .i64 0, .slice none 0 0, .slice none 0 0] 26)).drew) (Hbk2.out.alloc _) hgr3 (Hbk2.out.not_row (by decide) hor2)
    have hgc : g ≠ lb := fun e => hb3.not_row (by decide) hown3 (by rw [e]; rfl)
    have hgk : g ≠ kb := fun e => hbk3.not_row (by decide) hown3 (by rw [e]; rfl)
    have bc3 := hb3.cell
    have bf3 := hb3.frozen
    have bk3 := hbk3.cell
    have Hb3 := Lib.hid hb3; clear hb3
    have Hbk3 := Lib.hid hbk3; clear hbk3
    have hlt1 : (l.length : Int) < (l.length : Int) + 1 := by omega
    have Hown3 := Lib.hid hown3; clear hown3
    have Hgr3 := Lib.hid hgr3; clear hgr3
    have Hat3 := Lib.hid hat3; clear hat3
    iterate 12 all_goals (first
      | with_reducible exact AllReadyIn.nil
      | (with_reducible refine AllReadyIn.cons rfl (fun K hK => ?_) ?_)
      | (refine wpAnyIn_ready (rs := [5, 7]) (by decide +kernel) (by simp) ?_)
      | (refine wpAnyIn_ready (rs := [6, 7]) (by decide +kernel) (by simp) ?_)
      | (refine wpAnyIn_ready (rs := [5]) (by decide +kernel) (by simp) ?_)
      | (refine wpAnyIn_ready (rs := [6]) (by decide +kernel) (by simp) ?_)
      | (refine wpAnyIn_ready (rs := [7]) (by decide +kernel) (by simp) ?_)
      | (refine wpAnyIn_done (by decide +kernel) ?_ _)
      | (go_simp; refine hK _ _ ?_; clear hK K)
      | skip)
    all_goals gi_wp2
    all_goals go_ret
    all_goals
      have hgw : some g = (Value.slice A l.length cap).ownBlock ∨ W.heap.size ≤ g := by
        rcases Hat3.out with h | h
        · exact .inl h
        · simp [Value.ownBlock] at h
          exact .inr (by have := HsX.out; omega)
      have t0 : Two W X lb (Value.slice A l.length cap).ownBlock := ⟨HbX.out.os, HbX.out.tape, HbX.out.output, HbX.out.size, fun k hk _ _ => HbX.out.block k hk⟩
      have t3 : Two W w3 lb (Value.slice A l.length cap).ownBlock := (t0.grown (World.grownBy_alloc X _ none) (by simp)).drew.grown Hgr3.out (fun k h => .inr (.inl h.symm))
      have pa := Lib.hid (fin9a Hl1.out Hor.out.1 Hg1.out Hx.out t3 Hb3.out Hown3.out hgw (by omega) (by omega) (fun k h => Nat.le_trans hn (ownsRow_block Hor.out k h).1))
      have pb := Lib.hid (fin9b Hl1.out Hor.out.1 Hg1.out Hx.out t3 Hb3.out Hown3.out hgw (by omega) (by omega) (fun k h => Nat.le_trans hn (ownsRow_block Hor.out k h).1))
      refine ⟨rfl, ?_⟩
      first
        | with_reducible exact pa.out
        | with_reducible exact pb.out
  iterate 16 all_goals (first
    | with_reducible exact AllReadyIn.nil
    | ((with_reducible refine H4 _ _ ?_ ?_) <;> decide +kernel)
    | (with_reducible refine AllReadyIn.cons rfl (fun K hK => ?_) ?_)
    | (refine wpAnyIn_ready (rs := [0, 1, 3]) (by decide +kernel) (by simp) ?_)
    | (refine wpAnyIn_ready (rs := [1, 2, 3]) (by decide +kernel) (by simp) ?_)
    | (refine wpAnyIn_ready (rs := [0, 3]) (by decide +kernel) (by simp) ?_)
    | (refine wpAnyIn_ready (rs := [0, 1]) (by decide +kernel) (by simp) ?_)
    | (refine wpAnyIn_ready (rs := [1, 3]) (by decide +kernel) (by simp) ?_)
    | (refine wpAnyIn_ready (rs := [2, 3]) (by decide +kernel) (by simp) ?_)
    | (refine wpAnyIn_ready (rs := [1, 2]) (by decide +kernel) (by simp) ?_)
    | (refine wpAnyIn_ready (rs := [0]) (by decide +kernel) (by simp) ?_)
    | (refine wpAnyIn_ready (rs := [1]) (by decide +kernel) (by simp) ?_)
    | (refine wpAnyIn_ready (rs := [2]) (by decide +kernel) (by simp) ?_)
    | (refine wpAnyIn_ready (rs := [3]) (by decide +kernel) (by simp) ?_)
    | (go_simp; refine hK _ _ ?_; clear hK K))

end Go.Proofs.Ytikaiiamoaahdaa
