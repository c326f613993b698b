/- ast.Leaves. -/
import Derived.Test.YtdmojmadklckbaaTwo
import Derived.RegionIn
import Derived.Deep.MidRow
namespace Go.Proofs.Ytdmojmadklckbaa
open Go.Shelf
open Go.RowKit
set_option linter.unusedSimpArgs false
set_option linter.unusedVariables false
attribute [local go_sem] Oper.semAt_some

/-- A state that many orders lead to is shown once. -/
theorem regPhase {F : Fence} {m : Nat} {P : Program} {md : Region.Mode} {ops : Array Oper} {Q : Exit → Act → World → Prop} {fuel : Nat} {listed : Array Bool} {a : Act} {w : World} (n4 : Nat) (l4 : Array Bool) (a4 : Act) (w4 : World)
    (h4 : wpAnyIn F m P md ops Q n4 l4 a4 w4) (h : (∀ f l, f = n4 → l = l4 → wpAnyIn F m P md ops Q f l a4 w4) → wpAnyIn F m P md ops Q fuel listed a w) : wpAnyIn F m P md ops Q fuel listed a w :=
  h (fun f l hf hl => by rw [hf, hl]; exact h4)

/-- What holds between two rounds: the box holds the windows so far. -/
def LvI (n base c : Nat) (l : List Ex) (W : World) : Prop := ∃ v, Boxed W c 24 v ∧ Own n base W v l

theorem LvI.own {n base c B : Nat} (hn : n ≤ B) (hcc : n ≤ c) : OwnFrom B (fun (l : List Ex) W => LvI n base c l W) := fun l W W' row ⟨v, hb, rows, h1, h2, h3⟩ hg hr => by
  have hno : ∀ (k : Nat) (cs : Array Value) (e : TypeId), W.heap[k]? = some (.cells cs e (0, 0)) → some k ≠ row := by
    intro k cs e hk ek
    obtain ⟨_, o, ho, hc⟩ := hr k ek.symm
    rw [hk] at ho; cases ho; cases hc
  refine ⟨v, hb.kept hg (hno _ _ _ hb), rows, h1.kept hg ?_, h2, fun k r e hr' he => (h3 k r e hr' he).mono ⟨hg.os, hg.tape, hg.output, hg.size, fun k hk => ?_⟩ (Nat.le_refl _)⟩
  · cases ho : v.ownBlock with
    | none => exact .inl rfl
    | some g =>
      obtain ⟨cs, hcs⟩ := ownsRow_cells h1 g ho
      exact .inr (hno _ _ _ hcs)
  · exact hg.block k (by have := hb.lt; omega) (fun e => by have := (hr k e.symm).1; omega)

theorem lvEnd {n base B : Nat} {pre : List Ex} {x : Ex} {w W W' : World} {v : Value} {l : List Ex} {rows : List (List Value)} {k : Nat} (h : Post1 n base (base + 1) v.ownBlock (l ++ [x]) W W') (hn : n ≤ base) (hb : Below base w W) (hbx : Boxed W (base + 1) 24 v)
    (ho : W.ownsRow base 26 9 v k rows.flatten) (hbase : base ≤ W.heap.size) (hf : pre.filter (fun x => decide (x.kind = 1)) = l ++ [x]) :
    KeepsFrom B W W' ∧ KpX (Vl n (base + 1) 24) (Xl (base + 1)) W W' ∧ LvI n base (base + 1) (pre.filter (fun x => decide (x.kind = 1))) W' ∧ Below base w W' := by
  obtain ⟨v', h1, h2, h3, h4⟩ := h
  obtain ⟨rows', g1, g2, g3⟩ := h2
  have h5 := two_post (n₀ := n) (B := B) h3 hbx h1 ho g1 h4 (by omega) hn
  exact ⟨h5.1, h5.2, ⟨v', h1, by rw [hf]; exact ⟨rows', g1, g2, g3⟩⟩, h3.below hb hbase (by omega) (fun k hk => (ownsRow_block ho k hk).1)⟩

set_option maxRecDepth 100000 in
set_option maxHeartbeats 4000000 in
theorem aLeaves (e : Ex) (cs : List Value) (n : Nat) (w : World) (hn : n ≤ w.heap.size) (he : IsEx n w e cs) (hsz : e.size ≤ 1000000) :
    Calls Try.prog 35 #[.agg cs.toArray] w fun e' w' => ∃ v, e' = .returned v ∧ Own n w.heap.size w' v e.leaves ∧ Below w.heap.size w w' := by
  refine (callsIn_wide (n := 9)).1 ?_
  obtain ⟨pm, cm, pn, cn, pk, ck, rfl, _⟩ := he.cellsE
  have He := Lib.hid he; clear he
  have hall := fun W (h : Below n w W) => aAll e _ n W (He.out.mono h (Nat.le_refl _))
  have Hall := Lib.hid hall; clear hall
  obtain ⟨i0, hi, hz0, hz1, hz2⟩ := info_parts infoE
  refine callsIn_of_wp_marks Try.func35 rfl trivial ?_ rfl; simp only [Try.ntmps35, List.size_toArray, List.length_cons, List.length_nil, Nat.reduceAdd, Nat.reduceSub, Array.replicate_succ, Array.replicate_zero, List.push_toArray, List.append_toArray, List.nil_append, List.cons_append]; (try simp only [List.append_eq, List.cons_append, List.nil_append])
  gi_wp2_with ((try refine ⟨trivial, ?_⟩); gi_at_call 52; refine (callsIn_wide.2 (Hall.out _ (((Below.refl n w).alloc hn _).alloc (by simp; omega) _))).mono ?_; rintro e' w' ⟨rfl, rfl⟩)
  obtain ⟨W3, hW3⟩ : ∃ W3, ((w.alloc (.cells ([.int .i64 e.kind, .int .i64 e.fn, .int .i64 e.op, .int .i64 e.num, .string e.metric, .slice pm e.mats.length cm, .int .i64 e.span, .slice pn e.names.length cn, .slice pk e.kids.length ck]).toArray 26)).alloc (.cells #[.slice none 0 0] 24)).alloc (.cells ([.int .i64 e.kind, .int .i64 e.fn, .int .i64 e.op, .int .i64 e.num, .string e.metric, .slice pm e.mats.length cm, .int .i64 e.span, .slice pn e.names.length cn, .slice pk e.kids.length ck]).toArray 26) = W3 := ⟨_, rfl⟩
  have hbw : Below w.heap.size w W3 := by rw [← hW3]; exact (((Below.refl _ _).alloc (Nat.le_refl _) _).alloc (by simp) _).alloc (by simp; omega) _
  have hsz3 : W3.heap.size = w.heap.size + 3 := by rw [← hW3]; simp
  have hc0 : Boxed W3 (w.heap.size + 1) 24 (.slice none 0 0) := by
    have := ((Boxed.new (w.alloc (.cells ([.int .i64 e.kind, .int .i64 e.fn, .int .i64 e.op, .int .i64 e.num, .string e.metric, .slice pm e.mats.length cm, .int .i64 e.span, .slice pn e.names.length cn, .slice pk e.kids.length ck]).toArray 26)) 24 (.slice none 0 0)).alloc (.cells ([.int .i64 e.kind, .int .i64 e.fn, .int .i64 e.op, .int .i64 e.num, .string e.metric, .slice pm e.mats.length cm, .int .i64 e.span, .slice pn e.names.length cn, .slice pk e.kids.length ck]).toArray 26))
    rw [hW3] at this
    simpa using this
  have hB3 : Box W3 (w.heap.size + 2) ([.int .i64 e.kind, .int .i64 e.fn, .int .i64 e.op, .int .i64 e.num, .string e.metric, .slice pm e.mats.length cm, .int .i64 e.span, .slice pn e.names.length cn, .slice pk e.kids.length ck]) := by
    have := Box.new ((w.alloc (.cells ([.int .i64 e.kind, .int .i64 e.fn, .int .i64 e.op, .int .i64 e.num, .string e.metric, .slice pm e.mats.length cm, .int .i64 e.span, .slice pn e.names.length cn, .slice pk e.kids.length ck]).toArray 26)).alloc (.cells #[.slice none 0 0] 24)) ([.int .i64 e.kind, .int .i64 e.fn, .int .i64 e.op, .int .i64 e.num, .string e.metric, .slice pm e.mats.length cm, .int .i64 e.span, .slice pn e.names.length cn, .slice pk e.kids.length ck]) 26
    rw [hW3] at this
    simpa using this
  rw [hW3]
  have HW3 := Lib.hid hW3; clear hW3
  have Hsz3 := Lib.hid hsz3; clear hsz3
  have hn3 : n ≤ W3.heap.size := by have := Hsz3.out; omega
  have hc3 : w.heap.size + 1 < W3.heap.size := by have := Hsz3.out; omega
  have hV : ∀ W, Below W3.heap.size W3 W → Vl n (w.heap.size + 1) 24 W := fun W hW => ⟨by omega, _, (hW.block _ hc3).trans hc0, fun k hk => by simp [Value.ownBlock] at hk⟩
  refine wpIn_rangeFunc_ownH rfl (by omega) (gf := 64) (lb := #[.pointer (some ⟨w.heap.size + 2, 0, none⟩)]) rfl trivial (enters_of Try.func64 (by kernel_rfl) rfl)
    (allStops (dirtyL (n₀ := n) (c := w.heap.size + 1) (t := 24)) 8 e _ W3 (w.heap.size + 2) He.out (Cells.of_below (hbw.mono hn)) hB3 hn3 hV) (fun h k => h.trans k)
    (fun W l o o' _ ho hcl _ => KpX.put (dirtyL (n₀ := n)) W l o o' ho hcl) (Below.refl _ _) (fun _ => rfl)
    (fun pre W => LvI n w.heap.size (w.heap.size + 1) ((exs pre).filter fun x => decide (x.kind = 1)) W ∧ Below w.heap.size w W)
    (fun _ _ _ => False)
    (OwnFrom.and ?ownI (ownFrom_below (Nat.le_refl _) (by have := Hsz3.out; omega)))
    (fun _ _ _ _ _ hs _ _ => hs)
    ⟨?start, hbw⟩
    (fun x a' W => ∃ Bx, w.heap.size + 1 < Bx ∧ Blk W Bx 26 x.1.2 ∧ a' = { tmps := #[.agg ([.int .i64 e.kind, .int .i64 e.fn, .int .i64 e.op, .int .i64 e.num, .string e.metric, .slice pm e.mats.length cm, .int .i64 e.span, .slice pn e.names.length cn, .slice pk e.kids.length ck]).toArray, .pointer (some ⟨w.heap.size, 0, none⟩), .slice none 0 0, .pointer (some ⟨w.heap.size + 1, 0, none⟩), .pointer (some ⟨Bx, 0, none⟩), .agg ([.int .i64 e.kind, .int .i64 e.fn, .int .i64 e.op, .int .i64 e.num, .string e.metric, .slice pm e.mats.length cm, .int .i64 e.span, .slice pn e.names.length cn, .slice pk e.kids.length ck]).toArray, .func (.func 64) #[] #[.pointer (some ⟨w.heap.size + 2, 0, none⟩)], .agg x.1.2.toArray, undef, undef, undef, undef, undef, undef, undef, undef, undef, undef], defers := [] })
    (fun x a' => fun s W W' row hs hg hr => by
      obtain ⟨Bx, h1, h2, h3⟩ := hs
      exact ⟨Bx, h1, Blk.own () W W' row h2 hg hr, h3⟩)
    ?assign ?body ?done ?stop
  case ownI => exact fun pre W W' row hs hg hr => LvI.own (by omega) (by omega) _ W W' row hs hg hr
  case start => exact ⟨_, hc0, Own.nil⟩
  case assign =>
    rintro l pre ⟨⟨ex, cx⟩, hx⟩ W K ⟨hI, hb⟩ hK
    change IsEx n w ex cx at hx
    obtain ⟨pm', cm', pn', cn', pk', ck', rfl, _⟩ := hx.cellsE
    obtain ⟨v, hbx, hov⟩ := hI
    have hRl := hbx.lt
    gi_wp2
    refine hK _ _ (KeepsFrom.of_below ((Below.refl _ _).alloc (Nat.le_refl _) _)) (KpX.alloc dirtyL _ _) ⟨⟨v, hbx.alloc _, hov.keep (by have := hb.size; omega) ((Below.refl _ _).alloc (Nat.le_refl _) _)⟩, hb.alloc hb.size _⟩ ⟨W.heap.size, hRl, Blk.new _ _ _, ?_⟩
    simp
  case body =>
    rintro l pre ⟨⟨ex, cx⟩, hx⟩ a' W hl hr ⟨hI, hb⟩ ⟨Bx, hBx, hX, rfl⟩ hlen
    clear hr
    change IsEx n w ex cx at hx
    have Hx := Lib.hid hx
    obtain ⟨pm', cm', pn', cn', pk', ck', rfl, _⟩ := hx.cellsE
    change Blk W Bx 26 [.int .i64 ex.kind, .int .i64 ex.fn, .int .i64 ex.op, .int .i64 ex.num, .string ex.metric, .slice pm' ex.mats.length cm', .int .i64 ex.span, .slice pn' ex.names.length cn', .slice pk' ex.kids.length ck'] at hX
    have x0 := hX.cell 0 _ rfl
    have HI := Lib.hid hI; clear hI
    have Hb := Lib.hid hb; clear hb
    by_cases hkd : ex.kind = 1
    · have hd : (ex.kind == 1) = true := by simp [hkd]
      have Hkd := Lib.hid hkd; clear hkd
      have Hx' := Lib.hid hX
      have x1 := hX.cell 1 _ rfl
      have x2 := hX.cell 2 _ rfl
      have x3 := hX.cell 3 _ rfl
      have x4 := hX.cell 4 _ rfl
      have x5 := hX.cell 5 _ rfl
      have x6 := hX.cell 6 _ rfl
      have x7 := hX.cell 7 _ rfl
      have x8 := hX.cell 8 _ rfl
      clear hX
      obtain ⟨fl, hfl⟩ : ∃ fl, (exs pre).filter (fun x => decide (x.kind = 1)) = fl := ⟨_, rfl⟩
      obtain ⟨v, hbx, hov⟩ := HI.out
      rw [hfl] at hov
      have Hfs := Lib.hid (show fl.length ≤ 1000000 from by
        have := List.length_filter_le (fun x : Ex => decide (x.kind = 1)) (exs pre)
        rw [hfl] at this
        simp only [exs, List.length_map] at this
        omega)
      have Hfl := Lib.hid hfl; clear hfl
      have hbc := hbx.cell
      have Hbx := Lib.hid hbx; clear hbx
      obtain ⟨rows, hor, hl1, hg1⟩ := hov
      obtain ⟨A, cap, rfl⟩ := ownsRow_slice hor
      have Hor := Lib.hid hor; clear hor
      have Hl1 := Lib.hid hl1; clear hl1
      have Hg1 := Lib.hid hg1; clear hg1
      have nn1 : W.heap.size ≠ w.heap.size + 1 := Nat.ne_of_gt (World.block_lt_of_cell? W _ hbc)
      have nn2 : W.heap.size ≠ Bx := Nat.ne_of_gt (World.block_lt_of_cell? W _ x0)
      have ac : ∀ o, (W.alloc o).cell? ⟨w.heap.size + 1, 0, none⟩ = some (.slice A fl.length cap) := fun o => (World.cell?_alloc_lt W o _ (World.block_lt_of_cell? W _ hbc)).trans hbc
      have a0 : ∀ o, (W.alloc o).cell? ⟨Bx, 0, none⟩ = _ := fun o => (World.cell?_alloc_lt W o _ (World.block_lt_of_cell? W _ x0)).trans x0
      have a1 : ∀ o, (W.alloc o).cell? ⟨Bx, 1, none⟩ = _ := fun o => (World.cell?_alloc_lt W o _ (World.block_lt_of_cell? W _ x1)).trans x1
      have a2 : ∀ o, (W.alloc o).cell? ⟨Bx, 2, none⟩ = _ := fun o => (World.cell?_alloc_lt W o _ (World.block_lt_of_cell? W _ x2)).trans x2
      have a3 : ∀ o, (W.alloc o).cell? ⟨Bx, 3, none⟩ = _ := fun o => (World.cell?_alloc_lt W o _ (World.block_lt_of_cell? W _ x3)).trans x3
      have a4 : ∀ o, (W.alloc o).cell? ⟨Bx, 4, none⟩ = _ := fun o => (World.cell?_alloc_lt W o _ (World.block_lt_of_cell? W _ x4)).trans x4
      have a5 : ∀ o, (W.alloc o).cell? ⟨Bx, 5, none⟩ = _ := fun o => (World.cell?_alloc_lt W o _ (World.block_lt_of_cell? W _ x5)).trans x5
      have a6 : ∀ o, (W.alloc o).cell? ⟨Bx, 6, none⟩ = _ := fun o => (World.cell?_alloc_lt W o _ (World.block_lt_of_cell? W _ x6)).trans x6
      have a7 : ∀ o, (W.alloc o).cell? ⟨Bx, 7, none⟩ = _ := fun o => (World.cell?_alloc_lt W o _ (World.block_lt_of_cell? W _ x7)).trans x7
      have a8 : ∀ o, (W.alloc o).cell? ⟨Bx, 8, none⟩ = _ := fun o => (World.cell?_alloc_lt W o _ (World.block_lt_of_cell? W _ x8)).trans x8
      gi_wp2
      refine wpIn_region_any (by kernel_rfl) ?_
      change wpAnyIn _ _ _ _ _ _ _ _ _ (World.drew _)
      refine regPhase 4 #[true, true, true, true, false, false, false, false] ( { tmps := #[.agg ([.int .i64 e.kind, .int .i64 e.fn, .int .i64 e.op, .int .i64 e.num, .string e.metric, .slice pm e.mats.length cm, .int .i64 e.span, .slice pn e.names.length cn, .slice pk e.kids.length ck]).toArray, .pointer (some ⟨w.heap.size, 0, none⟩), .slice none 0 0, .pointer (some ⟨w.heap.size + 1, 0, none⟩), .pointer (some ⟨Bx, 0, none⟩), .agg ([.int .i64 e.kind, .int .i64 e.fn, .int .i64 e.op, .int .i64 e.num, .string e.metric, .slice pm e.mats.length cm, .int .i64 e.span, .slice pn e.names.length cn, .slice pk e.kids.length ck]).toArray, .func (.func 64) #[] #[.pointer (some ⟨w.heap.size + 2, 0, none⟩)], .agg #[.int .i64 ex.kind, .int .i64 ex.fn, .int .i64 ex.op, .int .i64 ex.num, .string ex.metric, .slice pm' ex.mats.length cm', .int .i64 ex.span, .slice pn' ex.names.length cn', .slice pk' ex.kids.length ck'], .pointer (some ⟨Bx, 0, none⟩), .int .i64 ex.kind, .bool true, .slice A fl.length cap, .agg #[.int .i64 ex.kind, .int .i64 ex.fn, .int .i64 ex.op, .int .i64 ex.num, .string ex.metric, .slice pm' ex.mats.length cm', .int .i64 ex.span, .slice pn' ex.names.length cn', .slice pk' ex.kids.length ck'], .int .i64 fl.length, .slice (some ⟨W.heap.size, 0, none⟩) 1 1, undef, undef, undef], defers := [] }) (W.alloc (.cells #[.int .i64 0, .int .i64 0, .int .i64 0, .int .i64 0, .string ⟨#[]⟩, .slice none 0 0, .int .i64 0, .slice none 0 0, .slice none 0 0] 26)).drew ?h4 (fun H4 => ?_)
      case h4 =>
        refine wpAnyIn_ready (rs := [4]) (by decide +kernel) (by simp) ?_
        refine AllReadyIn.cons rfl (fun K hK => ?_) AllReadyIn.nil
        refine stepIn_append_src _ rfl _ _ _ rfl w.heap.size 26 i0 _ 9 128 Try.underlying24 hi hz0 hz1 hz2 rfl (by decide) _ _ rows.flatten rfl (Hor.out.alloc _) _ 1 [.int .i64 0, .int .i64 0, .int .i64 0, .int .i64 0, .string ⟨#[]⟩, .slice none 0 0, .int .i64 0, .slice none 0 0, .slice none 0 0] rfl (Src.of_own (base := 0) (e := 26) ⟨rfl, .inr ⟨_, 1, _, rfl, Nat.zero_le _, heap_alloc_new W _, Nat.le_refl _, by decide, rfl, rfl⟩⟩) (by decide) (by have := Hfs.out; unfold maxLen; omega) (by have := Hfs.out; omega) (by have := Hb.out.size; simp; omega) ?_
        intro v3 w3 hown3 hgr3 hat3
        obtain ⟨g, cap3, rfl⟩ := ownsRow_succ hown3
        go_simp
        refine hK _ _ ?_; clear hK K
        have fz := fun j => hown3.frozenAt (g := g) j
        have cz : ∀ j x, [Value.int .i64 0, .int .i64 0, .int .i64 0, .int .i64 0, .string ⟨#[]⟩, .slice none 0 0, .int .i64 0, .slice none 0 0, .slice none 0 0][j]? = some x → w3.cell? ⟨g, fl.length * 9 + j, none⟩ = some x := by
          intro j x hx
          have hj : j < 9 := (List.getElem?_eq_some_iff.1 hx).1
          rw [hown3.cellAt (fl.length * 9 + j) (by omega), List.getElem?_append_right (by rw [Hor.out.1]; omega), Hor.out.1, Nat.add_sub_cancel_left]
          exact hx
        have cz0 : w3.cell? ⟨g, fl.length * 9, none⟩ = _ := cz 0 _ rfl
        have cz1 := cz 1 _ rfl
        have cz2 := cz 2 _ rfl
        have cz3 := cz 3 _ rfl
        have cz4 := cz 4 _ rfl
        have cz5 := cz 5 _ rfl
        have cz6 := cz 6 _ rfl
        have cz7 := cz 7 _ rfl
        have cz8 := cz 8 _ rfl
        clear cz
        have hb3 : Boxed w3 (w.heap.size + 1) 24 (.slice A fl.length cap) := Boxed.kept (W := (W.alloc (.cells #[.int .i64 0, .int .i64 0, .int .i64 0, .int .i64 0, .string ⟨#[]⟩, .slice none 0 0, .int .i64 0, .slice none 0 0, .slice none 0 0] 26)).drew) (Hbx.out.alloc _) hgr3 (Hbx.out.not_row (by decide) Hor.out)
        have hgc : g ≠ w.heap.size + 1 := fun e => hb3.not_row (by decide) hown3 (by rw [e]; rfl)
        have bc3 := hb3.cell
        have bf3 := hb3.frozen
        have Hb3 := Lib.hid hb3; clear hb3
        have hlt1 : (fl.length : Int) < (fl.length : Int) + 1 := by omega
        have Hown3 := Lib.hid hown3; clear hown3
        have Hgr3 := Lib.hid hgr3; clear hgr3
        have Hat3 := Lib.hid hat3; clear hat3
        iterate 12 all_goals (first
          | with_reducible exact AllReadyIn.nil
          | (with_reducible refine AllReadyIn.cons rfl (fun K hK => ?_) ?_)
          | (refine wpAnyIn_ready (rs := [5, 7]) (by decide +kernel) (by simp) ?_)
          | (refine wpAnyIn_ready (rs := [6, 7]) (by decide +kernel) (by simp) ?_)
          | (refine wpAnyIn_ready (rs := [5]) (by decide +kernel) (by simp) ?_)
          | (refine wpAnyIn_ready (rs := [6]) (by decide +kernel) (by simp) ?_)
          | (refine wpAnyIn_ready (rs := [7]) (by decide +kernel) (by simp) ?_)
          | (refine wpAnyIn_done (by decide +kernel) ?_ _)
          | (go_simp; refine hK _ _ ?_; clear hK K)
          | skip)
        all_goals go_simp
        all_goals
          have hgw : some g = (Value.slice A fl.length cap).ownBlock ∨ W.heap.size ≤ g := by
            rcases Hat3.out with h | h
            · exact .inl h
            · simp [Value.ownBlock] at h
              exact .inr (by omega)
          have t3 : Two W w3 (w.heap.size + 1) (Value.slice A fl.length cap).ownBlock := ((Two.refl W _ _).grown (World.grownBy_alloc W _ none) (by simp)).drew.grown Hgr3.out (fun k h => .inr (.inl h.symm))
          have hfin : (exs (pre ++ [(⟨(ex, _), Hx.out⟩ : Node n w)])).filter (fun x => decide (x.kind = 1)) = fl ++ [ex] := by rw [exs_append, List.filter_append, Hfl.out]; simp [exs, Hkd.out]
          have pa := Lib.hid (fin9a Hl1.out Hor.out.1 Hg1.out (Hx.out.mono (Hb.out.mono hn) (Nat.le_refl _)) t3 Hb3.out Hown3.out hgw (by have := Hb.out.size; omega) (by omega) (fun k h => Nat.le_trans hn (ownsRow_block Hor.out k h).1))
          have pb := Lib.hid (fin9b Hl1.out Hor.out.1 Hg1.out (Hx.out.mono (Hb.out.mono hn) (Nat.le_refl _)) t3 Hb3.out Hown3.out hgw (by have := Hb.out.size; omega) (by omega) (fun k h => Nat.le_trans hn (ownsRow_block Hor.out k h).1))
          refine lvEnd ?_ hn Hb.out Hbx.out Hor.out (Hb.out.size) hfin
          first
            | with_reducible exact pa.out
            | with_reducible exact pb.out
      iterate 16 all_goals (first
        | with_reducible exact AllReadyIn.nil
        | ((with_reducible refine H4 _ _ ?_ ?_) <;> decide +kernel)
        | (with_reducible refine AllReadyIn.cons rfl (fun K hK => ?_) ?_)
        | (refine wpAnyIn_ready (rs := [0, 1, 3]) (by decide +kernel) (by simp) ?_)
        | (refine wpAnyIn_ready (rs := [1, 2, 3]) (by decide +kernel) (by simp) ?_)
        | (refine wpAnyIn_ready (rs := [0, 3]) (by decide +kernel) (by simp) ?_)
        | (refine wpAnyIn_ready (rs := [0, 1]) (by decide +kernel) (by simp) ?_)
        | (refine wpAnyIn_ready (rs := [1, 3]) (by decide +kernel) (by simp) ?_)
        | (refine wpAnyIn_ready (rs := [2, 3]) (by decide +kernel) (by simp) ?_)
        | (refine wpAnyIn_ready (rs := [1, 2]) (by decide +kernel) (by simp) ?_)
        | (refine wpAnyIn_ready (rs := [0]) (by decide +kernel) (by simp) ?_)
        | (refine wpAnyIn_ready (rs := [1]) (by decide +kernel) (by simp) ?_)
        | (refine wpAnyIn_ready (rs := [2]) (by decide +kernel) (by simp) ?_)
        | (refine wpAnyIn_ready (rs := [3]) (by decide +kernel) (by simp) ?_)
        | (go_simp; refine hK _ _ ?_; clear hK K))
    · have hd : (ex.kind == 1) = false := by simp [hkd]
      have Hkd := Lib.hid hkd; clear hkd
      clear hX
      gi_wp2
      refine ⟨KeepsFrom.refl _ _, fun hV => ⟨hV, Kept.refl _⟩, ?_, Hb.out⟩
      have : (exs (pre ++ [(⟨(ex, _), Hx.out⟩ : Node n w)])).filter (fun x => decide (x.kind = 1)) = (exs pre).filter (fun x => decide (x.kind = 1)) := by rw [exs_append, List.filter_append]; simp [exs, Hkd.out]
      rw [this]
      exact HI.out
  case done =>
    rintro D ys W hD hys ⟨⟨v, hbx, rows, h1, h2, h3⟩, hb⟩ hK
    obtain ⟨A, cap, rfl⟩ := ownsRow_slice h1
    have hc := hbx.cell
    gi_wp2
    refine ⟨by simp, .inl ⟨_, _, rfl, run_takeDeferred hK, ?_⟩⟩
    refine ⟨_, results_tmp rfl _ _ _, ?_⟩
    have hb2 : Below w.heap.size W (W.putObj D (.deferred none)) := belowK_b (w := w) (Nat.le_refl _) W D _ _ (by have := Hsz3.out; omega) hK rfl rfl
    refine ⟨_, rfl, ?_, hb.trans hb2⟩
    rw [leaves_filter, ← hys]
    exact ⟨rows, ownsRow_putObj h1 _ hK rfl, h2, fun k r e hr he => (h3 k r e hr he).mono (hb2.mono hn) (Nat.le_refl _)⟩
  case stop =>
    rintro D c pre W _ _ h _
    exact h.elim

end Go.Proofs.Ytdmojmadklckbaa
