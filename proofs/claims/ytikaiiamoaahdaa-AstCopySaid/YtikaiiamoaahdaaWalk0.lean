/- ast.Walk, over any function that keeps a word of its own. -/
import Derived.Test.YtikaiiamoaahdaaIter4
namespace Go.Proofs.Ytikaiiamoaahdaa
open Go.Shelf
open Go.RowKit
set_option linter.unusedSimpArgs false
set_option linter.unusedVariables false
attribute [local go_sem] Oper.semAt_some

/-- Nothing below B and nothing of X's has turned. -/
structure SameX (B : Nat) (X : World → Nat → Prop) (W W' : World) : Prop where
  os : W'.os = W.os
  tape : W'.tape = W.tape
  output : W'.output = W.output
  size : W.heap.size ≤ W'.heap.size
  block : ∀ k, k < W.heap.size → (k < B ∨ X W k) → W'.heap[k]? = W.heap[k]?
/-- What a function that Walk calls keeps: J, whether it goes on or not, of what it has been told. -/
structure Watch (B n₀ : Nat) (V : World → Prop) (X : World → Nat → Prop) (J : Bool → List Ex → World → Prop) : Prop where
  dirty : Dirty n₀ V X
  jv : ∀ b l W, J b l W → V W
  cells : ∀ b l W k, J b l W → X W k → ∃ o, W.heap[k]? = some o ∧ o.isCells = true
  keep : ∀ b l W W', J b l W → SameX B X W W' → J b l W'
  xs : ∀ b l W W' k, J b l W → SameX B X W W' → X W' k → X W k

theorem SameX.of_below {B : Nat} {X : World → Nat → Prop} {W W' : World} (h : Below W.heap.size W W') : SameX B X W W' := ⟨h.os, h.tape, h.output, h.size, fun k hk _ => h.block k hk⟩
theorem SameX.of_grown {B B' n₀ : Nat} {V : World → Prop} {X : World → Nat → Prop} {J : Bool → List Ex → World → Prop} (hw : Watch B n₀ V X J) {W W' : World} {row : Option Nat} {b : Bool} {l : List Ex} (hj : J b l W) (hB : B ≤ B') (hg : W.grownBy W' row)
    (hr : ∀ r, row = some r → B' ≤ r ∧ ∃ o : Obj, W.heap[r]? = some o ∧ o.isCells = false) : SameX B X W W' :=
  ⟨hg.os, hg.tape, hg.output, hg.size, fun k hk hx => hg.block k hk (fun e => by
    obtain ⟨h1, o, h2, h3⟩ := hr k e.symm
    rcases hx with hx | hx
    · omega
    · obtain ⟨o', h4, h5⟩ := hw.cells b l W k hj hx
      rw [h2] at h4; cases h4; rw [h3] at h5; cases h5)⟩
theorem SameX.set {B : Nat} {X : World → Nat → Prop} {W : World} {b : Nat} {u : Value} (h : B ≤ b) (hx : ¬ X W b) : SameX B X W (W.setCell ⟨b, 0, none⟩ u) := by
  refine ⟨rfl, rfl, rfl, by simp, fun k _ hk => Below.heap_setCell _ _ _ _ ?_⟩
  rintro rfl
  rcases hk with hk | hk
  · omega
  · exact hx hk

/-- What holds between two rounds of Walk. -/
def WkI (n : Nat) (w : World) (V : World → Prop) (X : World → Nat → Prop) (J : Bool → List Ex → World → Prop) (F : FuncId) (caps : Array Value) (l : List Ex) (W : World) : Prop :=
  J true l W ∧ Boxed W (w.heap.size + 1) 32 (.func (.func F) #[] caps) ∧ (∃ v, Boxed W (w.heap.size + 2) 4 v) ∧ ¬ X W (w.heap.size + 1) ∧ ¬ X W (w.heap.size + 2) ∧ Cells n w W ∧ w.heap.size + 3 ≤ W.heap.size
theorem WkI.own {n : Nat} {w : World} {V : World → Prop} {X : World → Nat → Prop} {J : Bool → List Ex → World → Prop} {F : FuncId} {caps : Array Value} (hw : Watch w.heap.size n V X J) {l : List Ex} {W W' : World} {row : Option Nat} {B' : Nat} (hB : w.heap.size ≤ B') (h : WkI n w V X J F caps l W)
    (hg : W.grownBy W' row) (hr : ∀ r, row = some r → B' ≤ r ∧ ∃ o : Obj, W.heap[r]? = some o ∧ o.isCells = false) : WkI n w V X J F caps l W' := by
  obtain ⟨h1, h2, ⟨v, h3⟩, h4, h5, h6, h7⟩ := h
  have hs := SameX.of_grown hw h1 hB hg hr
  have hno : ∀ (k : Nat) (cs : Array Value) (t : TypeId), W.heap[k]? = some (.cells cs t (0, 0)) → some k ≠ row := by
    intro k cs t hk e
    obtain ⟨_, o, g1, g2⟩ := hr k e.symm
    rw [hk] at g1; cases g1; cases g2
  refine ⟨hw.keep _ _ _ _ h1 hs, h2.kept hg (hno _ _ _ h2), ⟨v, h3.kept hg (hno _ _ _ h3)⟩, fun hx => h4 (hw.xs _ _ _ _ _ h1 hs hx), fun hx => h5 (hw.xs _ _ _ _ _ h1 hs hx), h6.trans fun b off x hb hx => ?_, Nat.le_trans h7 hg.size⟩
  obtain ⟨o, ho, hc⟩ := cells_of_cell hx
  rw [World.cell?_of_block (w := W) (hg.block b (Array.getElem?_eq_some_iff.1 ho).1 (fun e => by
    obtain ⟨_, o', g1, g2⟩ := hr b e.symm
    rw [ho] at g1; cases g1; rw [hc] at g2; cases g2))]
  exact hx
theorem WkI.alloc {n : Nat} {w : World} {V : World → Prop} {X : World → Nat → Prop} {J : Bool → List Ex → World → Prop} {F : FuncId} {caps : Array Value} (hw : Watch w.heap.size n V X J) {l : List Ex} {W : World} (h : WkI n w V X J F caps l W) (o : Obj) : WkI n w V X J F caps l (W.alloc o) :=
  WkI.own (row := none) (B' := w.heap.size) hw (Nat.le_refl _) h (World.grownBy_alloc W o none) (by simp)

set_option maxRecDepth 100000 in
set_option maxHeartbeats 4000000 in
theorem aWalk {V : World → Prop} {X : World → Nat → Prop} {J : Bool → List Ex → World → Prop} (e : Ex) (cs : List Value) (n : Nat) (w : World) (hn : n ≤ w.heap.size) (he : IsEx n w e cs) (hw : Watch w.heap.size n V X J) (F : FuncId) (caps : Array Value) (hF : ∀ args w, (callFunc F args).run Try.prog w = .ok (.enter F args) w)
    (hJ : J true [] w)
    (hEach : ∀ (pre : List Ex) (x : Ex) (r : List Value) (W : World), J true pre W → IsEx n W x r → n ≤ W.heap.size → w.heap.size ≤ W.heap.size → pre.length < e.size → Calls Try.prog F (#[.agg r.toArray] ++ caps) W fun e' W' => ∃ b, e' = .returned (.bool b) ∧ J b (pre ++ [x]) W' ∧ (∀ B, KeepsFrom B W W') ∧ KpX V X W W') :
    Calls Try.prog 12 #[.agg cs.toArray, .func (.func F) #[] caps] w fun e' w' => ∃ b l, e' = .returned (.bool b) ∧ J b l w' ∧ (b = true → l = e.flat) ∧ (b = false → l <+: e.flat) := by
  refine (callsIn_wide (n := 9)).1 ?_
  obtain ⟨pm, cm, pn, cn, pk, ck, rfl, _⟩ := he.cellsE
  have He := Lib.hid he; clear he
  have hall := fun W (h : Below n w W) => aAll e _ n W (He.out.mono h (Nat.le_refl _))
  have Hall := Lib.hid hall; clear hall
  have HJ := Lib.hid hJ; clear hJ
  have HE := Lib.hid hEach; clear hEach
  have hq : ∀ w, (binOp .eql 32 (.func (.func F) #[] caps) .nilFunc).run Try.prog w = .ok (.bool false) w := fun w => by kernel_rfl
  refine callsIn_of_wp_marks Try.func12 rfl trivial ?_ rfl; simp only [Try.ntmps12, List.size_toArray, List.length_cons, List.length_nil, Nat.reduceAdd, Nat.reduceSub, Array.replicate_succ, Array.replicate_zero, List.push_toArray, List.append_toArray, List.nil_append, List.cons_append]; (try simp only [List.append_eq, List.cons_append, List.nil_append])
  gi_wp2_with ((try refine ⟨trivial, ?_⟩); gi_at_call 38; refine (callsIn_wide.2 (Hall.out _ ((((Below.refl n w).alloc hn _).alloc (by simp; omega) _).alloc (by simp; omega) _))).mono ?_; rintro e' w' ⟨rfl, rfl⟩)
  obtain ⟨W4, hW4⟩ : ∃ W4, (((w.alloc (.cells ([.int .i64 e.kind, .int .i64 e.fn, .int .i64 e.op, .int .i64 e.num, .string e.metric, .slice pm e.mats.length cm, .int .i64 e.span, .slice pn e.names.length cn, .slice pk e.kids.length ck]).toArray 26)).alloc (.cells #[.func (.func F) #[] caps] 32)).alloc (.cells #[.bool false] 4)).alloc (.cells ([.int .i64 e.kind, .int .i64 e.fn, .int .i64 e.op, .int .i64 e.num, .string e.metric, .slice pm e.mats.length cm, .int .i64 e.span, .slice pn e.names.length cn, .slice pk e.kids.length ck]).toArray 26) = W4 := ⟨_, rfl⟩
  have hbw : Below w.heap.size w W4 := by rw [← hW4]; exact ((((Below.refl _ _).alloc (Nat.le_refl _) _).alloc (by simp) _).alloc (by simp; omega) _).alloc (by simp; omega) _
  have hsz4 : W4.heap.size = w.heap.size + 4 := by rw [← hW4]; simp
  have hbE : Boxed W4 (w.heap.size + 1) 32 (.func (.func F) #[] caps) := by
    have := (((Boxed.new (w.alloc (.cells ([.int .i64 e.kind, .int .i64 e.fn, .int .i64 e.op, .int .i64 e.num, .string e.metric, .slice pm e.mats.length cm, .int .i64 e.span, .slice pn e.names.length cn, .slice pk e.kids.length ck]).toArray 26)) 32 (.func (.func F) #[] caps)).alloc (.cells #[.bool false] 4)).alloc (.cells ([.int .i64 e.kind, .int .i64 e.fn, .int .i64 e.op, .int .i64 e.num, .string e.metric, .slice pm e.mats.length cm, .int .i64 e.span, .slice pn e.names.length cn, .slice pk e.kids.length ck]).toArray 26))
    rw [hW4] at this
    simpa using this
  have hbR : Boxed W4 (w.heap.size + 2) 4 (.bool false) := by
    have := ((Boxed.new ((w.alloc (.cells ([.int .i64 e.kind, .int .i64 e.fn, .int .i64 e.op, .int .i64 e.num, .string e.metric, .slice pm e.mats.length cm, .int .i64 e.span, .slice pn e.names.length cn, .slice pk e.kids.length ck]).toArray 26)).alloc (.cells #[.func (.func F) #[] caps] 32)) 4 (.bool false)).alloc (.cells ([.int .i64 e.kind, .int .i64 e.fn, .int .i64 e.op, .int .i64 e.num, .string e.metric, .slice pm e.mats.length cm, .int .i64 e.span, .slice pn e.names.length cn, .slice pk e.kids.length ck]).toArray 26))
    rw [hW4] at this
    simpa using this
  have hB4 : Box W4 (w.heap.size + 3) ([.int .i64 e.kind, .int .i64 e.fn, .int .i64 e.op, .int .i64 e.num, .string e.metric, .slice pm e.mats.length cm, .int .i64 e.span, .slice pn e.names.length cn, .slice pk e.kids.length ck]) := by
    have := Box.new (((w.alloc (.cells ([.int .i64 e.kind, .int .i64 e.fn, .int .i64 e.op, .int .i64 e.num, .string e.metric, .slice pm e.mats.length cm, .int .i64 e.span, .slice pn e.names.length cn, .slice pk e.kids.length ck]).toArray 26)).alloc (.cells #[.func (.func F) #[] caps] 32)).alloc (.cells #[.bool false] 4)) ([.int .i64 e.kind, .int .i64 e.fn, .int .i64 e.op, .int .i64 e.num, .string e.metric, .slice pm e.mats.length cm, .int .i64 e.span, .slice pn e.names.length cn, .slice pk e.kids.length ck]) 26
    rw [hW4] at this
    simpa using this
  have hX4 : ∀ k, w.heap.size ≤ k → ¬ X W4 k := by
    intro k hk h
    have h0 := hw.jv _ _ _ HJ.out
    rw [← hW4] at h
    have a1 := hw.dirty.al w (.cells ([.int .i64 e.kind, .int .i64 e.fn, .int .i64 e.op, .int .i64 e.num, .string e.metric, .slice pm e.mats.length cm, .int .i64 e.span, .slice pn e.names.length cn, .slice pk e.kids.length ck]).toArray 26) h0
    have a2 := hw.dirty.al _ (.cells #[.func (.func F) #[] caps] 32) a1.1
    have a3 := hw.dirty.al _ (.cells #[.bool false] 4) a2.1
    have a4 := hw.dirty.al _ (.cells ([.int .i64 e.kind, .int .i64 e.fn, .int .i64 e.op, .int .i64 e.num, .string e.metric, .slice pm e.mats.length cm, .int .i64 e.span, .slice pn e.names.length cn, .slice pk e.kids.length ck]).toArray 26) a3.1
    have := (hw.dirty.lo w k h0 (a1.2 k (a2.2 k (a3.2 k (a4.2 k h))))).2
    omega
  have hJ4 : J true [] W4 := hw.keep _ _ _ _ HJ.out (SameX.of_below hbw)
  rw [show w.heap.size + 1 + 1 = w.heap.size + 2 from rfl] at *
  rw [hW4]
  have HW4 := Lib.hid hW4; clear hW4
  have Hsz4 := Lib.hid hsz4; clear hsz4
  have hn4 : n ≤ W4.heap.size := by have := Hsz4.out; omega
  have hw4 : w.heap.size + 3 < W4.heap.size := by have := Hsz4.out; omega
  have HX4 := Lib.hid hX4; clear hX4
  have hV : ∀ W, Below W4.heap.size W4 W → V W := fun W hW => hw.jv _ _ _ (hw.keep _ _ _ _ hJ4 (SameX.of_below hW))
  refine wpIn_rangeFunc_ownH rfl (by omega) (gf := 52) (lb := #[.pointer (some ⟨w.heap.size + 3, 0, none⟩)]) rfl trivial (enters_of Try.func52 (by kernel_rfl) rfl)
    (allStops hw.dirty 8 e _ W4 (w.heap.size + 3) He.out (Cells.of_below (hbw.mono hn)) hB4 hn4 hV) (fun h k => h.trans k)
    (fun W l o o' _ ho hcl _ => KpX.put hw.dirty W l o o' ho hcl) (Below.refl _ _) (fun _ => rfl)
    (fun pre W => WkI n w V X J F caps (exs pre) W)
    (fun c pre W => c = .ret ∧ J false (exs pre) W ∧ Boxed W (w.heap.size + 2) 4 (.bool false))
    (fun pre W W' row hs hg hr => WkI.own hw (B' := W4.heap.size) (by omega) hs hg hr)
    (fun c pre W W' row hs hg hr => ⟨hs.1, hw.keep _ _ _ _ hs.2.1 (SameX.of_grown hw hs.2.1 (by omega) hg hr), hs.2.2.kept hg (fun e => by
      obtain ⟨_, o, h1, h2⟩ := hr _ e.symm
      rw [show W.heap[w.heap.size + 2]? = _ from hs.2.2] at h1; cases h1; cases h2)⟩)
    ⟨hJ4, hbE, ⟨_, hbR⟩, HX4.out _ (by omega), HX4.out _ (by omega), Cells.of_below (hbw.mono hn), by omega⟩
    (fun x a' W => ∃ Bx, w.heap.size + 2 < Bx ∧ Blk W Bx 26 x.1.2 ∧ a' = { tmps := #[.agg ([.int .i64 e.kind, .int .i64 e.fn, .int .i64 e.op, .int .i64 e.num, .string e.metric, .slice pm e.mats.length cm, .int .i64 e.span, .slice pn e.names.length cn, .slice pk e.kids.length ck]).toArray, .func (.func F) #[] caps, .pointer (some ⟨w.heap.size, 0, none⟩), .pointer (some ⟨w.heap.size + 1, 0, none⟩), .pointer (some ⟨w.heap.size + 2, 0, none⟩), .pointer (some ⟨Bx, 0, none⟩), .func (.func F) #[] caps, .bool false, .agg ([.int .i64 e.kind, .int .i64 e.fn, .int .i64 e.op, .int .i64 e.num, .string e.metric, .slice pm e.mats.length cm, .int .i64 e.span, .slice pn e.names.length cn, .slice pk e.kids.length ck]).toArray, .func (.func 52) #[] #[.pointer (some ⟨w.heap.size + 3, 0, none⟩)], .agg x.1.2.toArray, undef, undef, undef, undef], defers := [] })
    (fun x a' => fun s W W' row hs hg hr => by
      obtain ⟨Bx, h1, h2, h3⟩ := hs
      exact ⟨Bx, h1, Blk.own () W W' row h2 hg hr, h3⟩)
    ?assign ?body ?done ?stop
  case assign =>
    rintro l pre ⟨⟨ex, cx⟩, hx⟩ W K hI hK
    change IsEx n w ex cx at hx
    obtain ⟨pm', cm', pn', cn', pk', ck', rfl, _⟩ := hx.cellsE
    have hIs := hI.2.2.2.2.2.2
    have HI := Lib.hid hI; clear hI
    gi_wp2
    refine hK _ _ (KeepsFrom.of_below ((Below.refl _ _).alloc (Nat.le_refl _) _)) (KpX.alloc hw.dirty _ _) (WkI.alloc hw HI.out _) ⟨W.heap.size, by omega, Blk.new _ _ _, ?_⟩
    simp
  case body =>
    rintro l pre ⟨⟨ex, cx⟩, hx⟩ a' W hl hr hI ⟨Bx, hBx, hX, rfl⟩ hlen
    clear hr
    change IsEx n w ex cx at hx
    have Hx := Lib.hid hx
    obtain ⟨pm', cm', pn', cn', pk', ck', rfl, _⟩ := hx.cellsE
    change Blk W Bx 26 [.int .i64 ex.kind, .int .i64 ex.fn, .int .i64 ex.op, .int .i64 ex.num, .string ex.metric, .slice pm' ex.mats.length cm', .int .i64 ex.span, .slice pn' ex.names.length cn', .slice pk' ex.kids.length ck'] at hX
    have x0 := hX.cell 0 _ rfl
    have x1 := hX.cell 1 _ rfl
    have x2 := hX.cell 2 _ rfl
    have x3 := hX.cell 3 _ rfl
    have x4 := hX.cell 4 _ rfl
    have x5 := hX.cell 5 _ rfl
    have x6 := hX.cell 6 _ rfl
    have x7 := hX.cell 7 _ rfl
    have x8 := hX.cell 8 _ rfl
    have ce := hI.2.1.cell
    have hcall := HE.out (exs pre) ex _ W hI.1 (Hx.out.monoC hI.2.2.2.2.2.1 (Nat.le_refl _)) (by have := hI.2.2.2.2.2.2; omega) (by have := hI.2.2.2.2.2.2; omega) (by simpa [exs] using hlen)
    have Hcall := Lib.hid hcall; clear hcall
    have hpre : exs (pre ++ [(⟨(ex, _), Hx.out⟩ : Node n w)]) = exs pre ++ [ex] := by rw [exs_append]; rfl
    have Hpre := Lib.hid hpre; clear hpre
    have HI := Lib.hid hI; clear hI
    clear hX
    gi_wp2_with ((try refine ⟨trivial, ?_⟩); refine (CallsIn.inRound l (callsIn_wide.2 Hcall.out)).mono ?_; rintro e' w5 ⟨b, rfl, hJ5, hK5, hX5⟩; have hk5 := hX5 (hw.jv _ _ _ HI.out.1); obtain ⟨v5, hbR5⟩ := HI.out.2.2.1; have hr5 : Boxed w5 (w.heap.size + 2) 4 v5 := hk5.2.cells _ _ hbR5 rfl HI.out.2.2.2.2.1; have r5 := hr5.cell; have f5 := hr5.frozen; have HJ5 := Lib.hid hJ5; clear hJ5; have HK5 := Lib.hid hK5; clear hK5; have HX5 := Lib.hid hX5; clear hX5; have Hk5 := Lib.hid hk5; clear hk5; have Hr5 := Lib.hid hr5; clear hr5; have HR5 := Lib.hid hbR5; clear hbR5; cases b)
    · have hp := Hpre.out
      have hnx : ¬ X w5 (w.heap.size + 2) := Kept.not Hk5.out.2 HI.out.2.2.2.2.1 (HR5.out).lt
      refine ⟨(HK5.out _).trans ((KeepsOthers.setCell _ _ _).from _), rfl, ?_, Boxed.set _ Hr5.out⟩
      rw [hp]
      exact hw.keep _ _ _ _ HJ5.out (SameX.set (by omega) hnx)
    · have hp := Hpre.out
      obtain ⟨h1, h2, ⟨v, h3⟩, h4, h5, h6, h7⟩ := HI.out
      refine ⟨HK5.out _, HX5.out, ?_, Hk5.out.2.cells _ _ h2 rfl h4, ⟨_, Hr5.out⟩, Kept.not Hk5.out.2 h4 h2.lt, Kept.not Hk5.out.2 h5 h3.lt, h6.trans (Kept.low hw.dirty Hk5.out.2 (hw.jv _ _ _ h1)), Nat.le_trans h7 Hk5.out.2.size⟩
      rw [hp]
      exact HJ5.out
  case done =>
    rintro D ys W hD hys hI hK
    obtain ⟨h1, h2, ⟨v, h3⟩, h4, h5, h6, h7⟩ := hI
    have hc := h3.cell
    have hf := h3.frozen
    gi_wp2
    have hK' : (W.setCell ⟨w.heap.size + 2, 0, none⟩ (.bool true)).heap[D]? = some (.deferred (some [])) := (KeepsOthers.setCell _ _ _).same D _ hK rfl
    have hJ2 : J true (exs ys) (W.setCell ⟨w.heap.size + 2, 0, none⟩ (.bool true)) := hw.keep _ _ _ _ h1 (SameX.set (by omega) h5)
    refine ⟨by simp, .inl ⟨_, _, rfl, run_takeDeferred hK', ?_⟩⟩
    refine ⟨_, results_cell rfl _ rfl (Try.isAgg4 _) ((h3.set (.bool true)).kept (grownBy_putObj' _ D _) (by simp; omega)).cell, true, e.flat, rfl, ?_, fun _ => rfl, by simp⟩
    rw [← hys]
    exact hw.keep _ _ _ _ hJ2 (SameX.of_grown hw hJ2 (B' := w.heap.size) (Nat.le_refl _) (grownBy_putObj' _ D _) (fun r e => by cases e; exact ⟨by omega, _, hK', rfl⟩))
  case stop =>
    rintro D c pre W hD hpre ⟨rfl, hJ2, hR⟩ hK
    gi_wp2
    refine ⟨by simp, .inl ⟨_, _, rfl, run_takeDeferred hK, ?_⟩⟩
    refine ⟨_, results_cell rfl _ rfl (Try.isAgg4 _) (hR.kept (grownBy_putObj' _ D _) (by simp; omega)).cell, false, exs pre, rfl, ?_, by simp, fun _ => hpre⟩
    exact hw.keep _ _ _ _ hJ2 (SameX.of_grown hw hJ2 (B' := w.heap.size) (Nat.le_refl _) (grownBy_putObj' _ D _) (fun r e => by cases e; exact ⟨by omega, _, hK, rfl⟩))

end Go.Proofs.Ytikaiiamoaahdaa
