/- ast.all: the iterator over an expression, for whatever the loop's body does to memory of its own. -/
import Derived.RangeFuncNested
import Derived.RangeFuncBound
import Derived.RangeFuncCalls
import Derived.RangeFuncLeaves
import Derived.Shelf.Abstract
import Derived.OwnWalkIn
import Derived.TacticsInMore
import Derived.LoopNIn
import Derived.LoopIn
import Derived.Test.YtkheeiipkdeihaaTree2
import Derived.Test.YtkheeiipkdeihaaProg
namespace Go.Proofs.Ytkheeiipkdeihaa
open Go.Shelf
open Go.RowKit
set_option linter.unusedSimpArgs false
set_option linter.unusedVariables false
attribute [local go_sem] Oper.semAt_some

/-- A cell that was there reads as it did, below `n`. -/
def Cells (n : Nat) (w w' : World) : Prop := ∀ b off x, b < n → w.cell? ⟨b, off, none⟩ = some x → w'.cell? ⟨b, off, none⟩ = some x
theorem Cells.refl (n : Nat) (w : World) : Cells n w w := fun _ _ _ _ h => h
theorem Cells.trans {n : Nat} {a b c : World} (h : Cells n a b) (k : Cells n b c) : Cells n a c := fun b o x hb hx => k b o x hb (h b o x hb hx)
theorem Cells.of_below {n : Nat} {w w' : World} (h : Below n w w') : Cells n w w' := fun b o x hb hx => by rw [h.cell (p := ⟨b, o, none⟩) hb]; exact hx

theorem Arr.monoC {n m : Nat} {w w' : World} {v : Value} {sz : Nat} {rows : List (List Value)} (h : Arr n w v sz rows) (hb : Cells n w w') (hm : n ≤ m) : Arr m w' v sz rows := by
  obtain ⟨p, cap, hv, h1, h2, h3⟩ := h
  refine ⟨p, cap, hv, h1, h2, fun hne => ?_⟩
  obtain ⟨b, off, hp, hbn, hc⟩ := h3 hne
  exact ⟨b, off, hp, by omega, fun k r hr j x hx => hb _ _ _ hbn (hc k r hr j x hx)⟩
theorem IsEx.monoC {n m : Nat} {w w' : World} {e : Ex} {cs : List Value} (h : IsEx n w e cs) (hb : Cells n w w') (hm : n ≤ m) : IsEx m w' e cs := by
  induction h with
  | mk hs h1 h2 h3 hl _ ih => exact .mk hs ⟨h1.1.monoC hb hm, h1.2⟩ ⟨h2.1.monoC hb hm, h2.2⟩ (h3.monoC hb hm) hl fun k r e hr he => ih k r e hr he

theorem IsExs.monoC {n m : Nat} {w w' : World} {v : Value} {l : List Ex} (h : IsExs n w v l) (hb : Cells n w w') (hm : n ≤ m) : IsExs m w' v l := by
  obtain ⟨rows, h1, h2, h3⟩ := h
  exact ⟨rows, h1.monoC hb hm, h2, fun k r e hr he => (h3 k r e hr he).monoC hb hm⟩
/-- An element's cells, as they lie in a later world; what it is, as it lay in the first one. -/
theorem IsExs.getE {n : Nat} {w w' : World} {p : Option Addr} {len cap : Nat} {l : List Ex} (h : IsExs n w (.slice p len cap) l) (hc : Cells n w w') {k : Nat} (hk : k < l.length) :
    ∃ b off pm cm pn cn pk ck, p = some ⟨b, off, none⟩ ∧ b < n ∧ IsEx n w l[k] [.int .i64 l[k].kind, .int .i64 l[k].fn, .int .i64 l[k].op, .int .i64 l[k].num, .string l[k].metric, .slice pm l[k].mats.length cm, .int .i64 l[k].span, .slice pn l[k].names.length cn, .slice pk l[k].kids.length ck] ∧
      w'.cell? ⟨b, off + k * 9, none⟩ = some (.int .i64 l[k].kind) ∧ w'.cell? ⟨b, off + k * 9 + 1, none⟩ = some (.int .i64 l[k].fn) ∧ w'.cell? ⟨b, off + k * 9 + 2, none⟩ = some (.int .i64 l[k].op) ∧ w'.cell? ⟨b, off + k * 9 + 3, none⟩ = some (.int .i64 l[k].num) ∧ w'.cell? ⟨b, off + k * 9 + 4, none⟩ = some (.string l[k].metric) ∧ w'.cell? ⟨b, off + k * 9 + 5, none⟩ = some (.slice pm l[k].mats.length cm) ∧ w'.cell? ⟨b, off + k * 9 + 6, none⟩ = some (.int .i64 l[k].span) ∧ w'.cell? ⟨b, off + k * 9 + 7, none⟩ = some (.slice pn l[k].names.length cn) ∧ w'.cell? ⟨b, off + k * 9 + 8, none⟩ = some (.slice pk l[k].kids.length ck) := by
  obtain ⟨b, off, r0, r1, r2, r3, r4, r5, r6, r7, r8, hp, hb, he, h0, h1, h2, h3, h4, h5, h6, h7, h8⟩ := h.get hk
  obtain ⟨vm, vn, vk, hcs, _, hm, hna, hki⟩ := he.cells
  obtain ⟨pm, cm, rfl, _⟩ := hm.open
  obtain ⟨pn, cn, rfl, _⟩ := hna.open
  obtain ⟨pk, ck, rfl, _⟩ := hki.open
  simp only [List.cons.injEq, and_true] at hcs
  obtain ⟨rfl, rfl, rfl, rfl, rfl, rfl, rfl, rfl, rfl⟩ := hcs
  exact ⟨b, off, pm, cm, pn, cn, pk, ck, hp, hb, he, hc _ _ _ hb h0, hc _ _ _ hb h1, hc _ _ _ hb h2, hc _ _ _ hb h3, hc _ _ _ hb h4, hc _ _ _ hb h5, hc _ _ _ hb h6, hc _ _ _ hb h7, hc _ _ _ hb h8⟩

/-- WHAT A ROUND KEEPS for an iterator that reads memory between two rounds: all cells but those that the body owns (`X`, where `V` holds of the world). -/
structure Kept (X : World → Nat → Prop) (W W' : World) : Prop where
  size : W.heap.size ≤ W'.heap.size
  cells : ∀ k o, W.heap[k]? = some o → o.isCells = true → ¬ X W k → W'.heap[k]? = some o
  own : ∀ k, X W' k → X W k ∨ W.heap.size ≤ k
def KpX (V : World → Prop) (X : World → Nat → Prop) (W W' : World) : Prop := V W → V W' ∧ Kept X W W'
/-- What the body owns: blocks from `n₀` on, and its word abides new blocks and turns of records. -/
structure Dirty (n₀ : Nat) (V : World → Prop) (X : World → Nat → Prop) : Prop where
  lo : ∀ W k, V W → X W k → n₀ ≤ k ∧ k < W.heap.size
  al : ∀ W o, V W → V (W.alloc o) ∧ ∀ k, X (W.alloc o) k → X W k
  pu : ∀ W l o o', V W → W.heap[l]? = some o → o.isCells = false → V (W.putObj l o') ∧ ∀ k, X (W.putObj l o') k → X W k

section
variable {n₀ : Nat} {V : World → Prop} {X : World → Nat → Prop}
theorem Kept.refl (W : World) : Kept X W W := ⟨Nat.le_refl _, fun _ _ h _ _ => h, fun _ h => .inl h⟩
theorem Kept.trans {A B C : World} (h : Kept X A B) (k : Kept X B C) : Kept X A C :=
  ⟨Nat.le_trans h.size k.size, fun i o hi hc hx => k.cells i o (h.cells i o hi hc hx) hc (fun hb => (h.own i hb).elim hx (fun hs => by
      have := (Array.getElem?_eq_some_iff.1 hi).1; omega)),
    fun i hi => (k.own i hi).elim (fun hb => h.own i hb) (fun hs => .inr (Nat.le_trans h.size hs))⟩
theorem KpX.trans {A B C : World} (h : KpX V X A B) (k : KpX V X B C) : KpX V X A C := fun hv => ⟨(k (h hv).1).1, (h hv).2.trans (k (h hv).1).2⟩
theorem KpX.put (hd : Dirty n₀ V X) (W : World) (l : Nat) (o o' : Obj) (h : W.heap[l]? = some o) (hc : o.isCells = false) : KpX V X W (W.putObj l o') := fun hv =>
  ⟨(hd.pu W l o o' hv h hc).1, by
    refine ⟨by simp, fun k q hk hq hx => ?_, fun k hk => .inl ((hd.pu W l o o' hv h hc).2 k hk)⟩
    rw [World.putObj_heap_other]
    · exact hk
    · intro e; subst e; rw [hk] at h; cases h; rw [hc] at hq; cases hq⟩
theorem KpX.alloc (hd : Dirty n₀ V X) (W : World) (o : Obj) : KpX V X W (W.alloc o) := fun hv =>
  ⟨(hd.al W o hv).1, ⟨by simp, fun k q hk _ _ => by rw [Below.heap_alloc _ _ _ (Array.getElem?_eq_some_iff.1 hk).1]; exact hk, fun k hk => .inl ((hd.al W o hv).2 k hk)⟩⟩
theorem Kept.cell {W W' : World} (h : Kept X W W') {b off : Nat} {x : Value} (hx : W.cell? ⟨b, off, none⟩ = some x) (hb : ¬ X W b) : W'.cell? ⟨b, off, none⟩ = some x := by
  obtain ⟨o, ho, hc⟩ := cells_of_cell hx
  have := h.cells b o ho hc hb
  rw [World.cell?_of_block (w := W) (a := ⟨b, off, none⟩) (this.trans ho.symm)]
  exact hx
theorem Kept.box {W W' : World} (h : Kept X W W') {B : Nat} {cs : List Value} (hx : Box W B cs) (hb : ¬ X W B) : Box W' B cs := ⟨Nat.lt_of_lt_of_le hx.1 h.size, fun j x hj => h.cell (hx.2 j x hj) hb⟩
theorem Kept.low (hd : Dirty n₀ V X) {W W' : World} (h : Kept X W W') (hv : V W) : Cells n₀ W W' := fun b off x hb hx => h.cell hx (fun hX => by have := (hd.lo W b hv hX).1; omega)
theorem Kept.not {W W' : World} (h : Kept X W W') {b : Nat} (hb : ¬ X W b) (hl : b < W.heap.size) : ¬ X W' b := fun hX => (h.own b hX).elim hb (fun h => by omega)
end

/-- A part of the expression, as it lies in memory. -/
abbrev Node (n₀ : Nat) (w₀ : World) := { p : Ex × List Value // IsEx n₀ w₀ p.1 p.2 }
def exs {n₀ : Nat} {w₀ : World} (l : List (Node n₀ w₀)) : List Ex := l.map (·.1.1)
theorem exs_append {n₀ : Nat} {w₀ : World} (a b : List (Node n₀ w₀)) : exs (a ++ b) = exs a ++ exs b := List.map_append

theorem room_none (k : Nat) : Fence.wide.room k := fun d h => by cases h
theorem RoundIn.anyD {m m' : Nat} {P : Program} {l : Nat} {f : FuncId} {tmps : Array Value} {assign body : Code} {w : World} {R : Ending → World → Prop}
    (h : RoundIn Fence.wide m P l f tmps assign body w R) : RoundIn Fence.wide m' P l f tmps assign body w R := ⟨h.1, fun c cs _ => h.2 c cs (room_none _)⟩
theorem YieldAt.anyD {m : Nat} (m' : Nat) {P : Program} {l : Nat} {args : Array Value} {W : World} {R : Ending → World → Prop} (h : YieldAt Fence.wide m P l args W R) : YieldAt Fence.wide m' P l args W R := by
  obtain ⟨fn, tmps, assign, body, hy, hR⟩ := h
  exact ⟨fn, tmps, assign, body, hy, RoundIn.anyD hR⟩

set_option maxRecDepth 100000 in
set_option maxHeartbeats 4000000 in
theorem allRec {n₀ : Nat} {w₀ : World} {V : World → Prop} {X : World → Nat → Prop} (hd : Dirty n₀ V X) (l N yb wb : Nat) (J Jx : List (Node n₀ w₀) → World → Prop) (hJ : ∀ pre W o, J pre W → J pre (W.alloc o))
    (hY : ∀ m pre x W, J pre W → pre.length < N → YieldAt Fence.wide m Try.prog l #[.agg x.1.2.toArray] W fun e W' =>
      (e = .returned (.bool true) ∧ J (pre ++ [x]) W' ∧ KpX V X W W') ∨ (e = .returned (.bool false) ∧ Jx (pre ++ [x]) W')) :
    ∀ (e : Ex) (n : Nat) (cs : List Value) (pre : List (Node n₀ w₀)) (W : World), IsEx n₀ w₀ e cs → Cells n₀ w₀ W → V W → ¬ X W yb → ¬ X W wb →
      W.cell? ⟨yb, 0, none⟩ = some (.func (.yield l) #[] #[]) → W.cell? ⟨wb, 0, none⟩ = some (.func (.func 61) #[] #[.pointer (some ⟨yb, 0, none⟩), .pointer (some ⟨wb, 0, none⟩)]) →
      J pre W → pre.length + e.size ≤ N →
      CallsIn Fence.wide n Try.prog 61 #[.agg cs.toArray, .pointer (some ⟨yb, 0, none⟩), .pointer (some ⟨wb, 0, none⟩)] W fun e' W' =>
        (e' = .returned (.bool true) ∧ ∃ xs : List (Node n₀ w₀), exs xs = e.flat ∧ J (pre ++ xs) W' ∧ KpX V X W W') ∨
        (e' = .returned (.bool false) ∧ ∃ xs : List (Node n₀ w₀), exs xs <+: e.flat ∧ Jx (pre ++ xs) W') := by
  refine Ex.ind fun e ih => ?_
  intro n cs pre W he hc hv hxy hxw hcy hcw hj hN
  have hdd : ∀ k : Nat, (Fence.wide.depth.isSome = true → 1 ≤ k) := fun k h => by cases h
  have hee := he
  obtain ⟨vm, vn, vk, rfl, hsz, hm, hna, hk⟩ := he.cells
  obtain ⟨pk, ck, rfl, _, _, hlk⟩ := hk.open
  unfold maxLen at hlk
  have Hih := Lib.hid ih; clear ih
  -- the yield of the expression itself, with what the walk wants behind it
  obtain ⟨W1, hW1⟩ : ∃ W1, W.alloc (.cells #[.int .i64 e.kind, .int .i64 e.fn, .int .i64 e.op, .int .i64 e.num, .string e.metric, vm, .int .i64 e.span, vn, .slice pk e.kids.length ck] 45) = W1 := ⟨_, rfl⟩
  have hK1 : KpX V X W W1 := by rw [← hW1]; exact KpX.alloc hd W _
  have hB1 : Box W1 W.heap.size [.int .i64 e.kind, .int .i64 e.fn, .int .i64 e.op, .int .i64 e.num, .string e.metric, vm, .int .i64 e.span, vn, .slice pk e.kids.length ck] := by rw [← hW1]; exact Box.new W _ _
  have hJ1 : J pre W1 := by rw [← hW1]; exact hJ pre W _ hj
  have hXB : ¬ X W1 W.heap.size := by
    rw [← hW1]
    intro h
    have := (hd.lo W _ hv ((hd.al W _ hv).2 _ h)).2
    omega
  have hxy' : yb < W.heap.size := World.block_lt_of_cell? W _ hcy
  have hxw' : wb < W.heap.size := World.block_lt_of_cell? W _ hcw
  have hcy1 := (hK1 hv).2.cell hcy hxy
  have hcw1 := (hK1 hv).2.cell hcw hxw
  have hep := e.size_pos
  have hv1 := (hK1 hv).1
  have hy2 : YieldAt Fence.wide (n - 1) Try.prog l #[.agg #[.int .i64 e.kind, .int .i64 e.fn, .int .i64 e.op, .int .i64 e.num, .string e.metric, vm, .int .i64 e.span, vn, .slice pk e.kids.length ck]] W1 fun e' W2 =>
      (e' = .returned (.bool true) ∧ W2.cell? ⟨W.heap.size, 8, none⟩ = some (.slice pk e.kids.length ck) ∧ J (pre ++ [⟨(e, _), hee⟩]) W2 ∧ KpX V X W1 W2) ∨ (e' = .returned (.bool false) ∧ Jx (pre ++ [⟨(e, _), hee⟩]) W2) :=
    (hY (n - 1) pre ⟨(e, _), hee⟩ W1 hJ1 (by omega)).mono fun e' W2 h => h.elim (fun ⟨h1, h2, h3⟩ => .inl ⟨h1, ((h3 hv1).2.box hB1 hXB).2 8 _ rfl, h2, h3⟩) .inr
  obtain ⟨fn, tmps, assign, body, hy, hR⟩ := hy2
  have b0 := hB1.2 0 _ rfl
  have b1 := hB1.2 1 _ rfl
  have b2 := hB1.2 2 _ rfl
  have b3 := hB1.2 3 _ rfl
  have b4 := hB1.2 4 _ rfl
  have b5 := hB1.2 5 _ rfl
  have b6 := hB1.2 6 _ rfl
  have b7 := hB1.2 7 _ rfl
  have b8 := hB1.2 8 _ rfl
  have HW1 := Lib.hid hW1; clear hW1
  have HK1 := Lib.hid hK1; clear hK1
  have HB1 := Lib.hid hB1; clear hB1
  refine callsIn_of_wp Try.func61 rfl trivial ?_ rfl; simp only [Try.ntmps61, List.size_toArray, List.length_cons, List.length_nil, Nat.reduceAdd, Nat.reduceSub, Array.replicate_succ, Array.replicate_zero, List.push_toArray, List.append_toArray, List.nil_append, List.cons_append]; (try simp only [List.append_eq, List.cons_append, List.nil_append])
  iterate 6 gi_step
  rw [HW1.out]
  have Hhk := Lib.hid hk; clear hk
  gi_wp2_with (((try refine ⟨hdd _, ?_⟩); refine hR.mono ?_; clear hR; rintro e' W2 (⟨rfl, c8, hJ2, hK2⟩ | ⟨rfl, hJx⟩)))
  · have HJ2 := Lib.hid hJ2; clear hJ2
    have HK2 := Lib.hid hK2; clear hK2
    gi_loopw [14] (fun i wr => ∃ (k : Nat) (xs : List (Node n₀ w₀)), k ≤ e.kids.length ∧ i = .int .i64 k ∧ exs xs = e :: flats (e.kids.take k) ∧ J (pre ++ xs) wr ∧ KpX V X W wr) (fun i _ => e.kids.length - (intOf i).toNat)
    case atStart => exact ⟨0, [⟨(e, _), hee⟩], Nat.zero_le _, rfl, by simp [exs, flats], HJ2.out, HK1.out.trans HK2.out⟩
    case round =>
      obtain ⟨k, xs, hkl, rfl, hxs, hjr, hkr⟩ := hrel
      have hvr := (hkr hv).1
      have hcr : Cells n₀ w₀ wr := hc.trans ((hkr hv).2.low hd hv)
      by_cases hlt : k < e.kids.length
      · obtain ⟨b, off, pm, cm, pn, cn, pk', ck', rfl, hbn, hei, e0, e1, e2, e3, e4, e5, e6, e7, e8⟩ := Hhk.out.getE hcr hlt
        have hK3 := KpX.alloc hd wr (.cells #[.int .i64 e.kids[k].kind, .int .i64 e.kids[k].fn, .int .i64 e.kids[k].op, .int .i64 e.kids[k].num, .string e.kids[k].metric, .slice pm e.kids[k].mats.length cm, .int .i64 e.kids[k].span, .slice pn e.kids[k].names.length cn, .slice pk' e.kids[k].kids.length ck'] 45)
        have hcw3 := ((hkr.trans hK3) hv).2.cell hcw hxw
        have hcall := Hih.out e.kids[k] (List.getElem_mem hlt) (n - 1) _ (pre ++ xs) (wr.alloc (.cells #[.int .i64 e.kids[k].kind, .int .i64 e.kids[k].fn, .int .i64 e.kids[k].op, .int .i64 e.kids[k].num, .string e.kids[k].metric, .slice pm e.kids[k].mats.length cm, .int .i64 e.kids[k].span, .slice pn e.kids[k].names.length cn, .slice pk' e.kids[k].kids.length ck'] 45)) hei (hcr.trans ((hK3 hvr).2.low hd hvr)) (hK3 hvr).1
          (((hkr.trans hK3) hv).2.not hxy hxy') (((hkr.trans hK3) hv).2.not hxw hxw') (((hkr.trans hK3) hv).2.cell hcy hxy) (((hkr.trans hK3) hv).2.cell hcw hxw) (hJ _ _ _ hjr)
          (by
            have h1 : xs.length = 1 + sizes (e.kids.take k) := by
              have := congrArg List.length hxs
              simp only [exs, List.length_map, List.length_cons, flats_length] at this
              omega
            have h2 := sizes_step hlt
            have h3 := sizes_take_le e.kids (k + 1)
            have h4 := e.size_eq
            rw [List.length_append]
            omega)
        have Hcall := Lib.hid hcall; clear hcall
        have Hjr := Lib.hid hjr; clear hjr
        have Hkr := Lib.hid hkr; clear hkr
        have Hxs := Lib.hid hxs; clear hxs
        have HK3 := Lib.hid hK3; clear hK3
        gi_wp2_with ((try refine ⟨trivial, hdd _, ?_⟩); gi_at_call 61; refine Hcall.out.mono ?_; rintro e' W4 (⟨rfl, ys, hys, hJ4, hK4⟩ | ⟨rfl, ys, hys, hJ4⟩))
        · refine ⟨⟨k + 1, xs ++ ys, by omega, by go_num, ?_, by rw [← List.append_assoc]; exact hJ4, Hkr.out.trans (HK3.out.trans hK4)⟩, by simp [intOf]; omega⟩
          rw [exs_append, Hxs.out, hys, flats_step hlt]
          rfl
        · go_ret
          refine .inr ⟨rfl, xs ++ ys, ?_, by rw [← List.append_assoc]; exact hJ4⟩
          rw [exs_append, Hxs.out, Ex.flat_eq, List.cons_append, List.cons_prefix_cons]
          refine ⟨rfl, ?_⟩
          obtain ⟨r, hr⟩ := hys
          have h1 := flats_append (e.kids.take (k + 1)) (e.kids.drop (k + 1))
          rw [List.take_append_drop, flats_step hlt, ← hr] at h1
          exact ⟨r ++ flats (e.kids.drop (k + 1)), by rw [h1]; simp only [List.append_assoc]⟩
      · have Hjr := Lib.hid hjr; clear hjr
        have Hkr := Lib.hid hkr; clear hkr
        have Hxs := Lib.hid hxs; clear hxs
        gi_wp2
        go_ret
        exact .inl ⟨rfl, xs, by rw [Hxs.out, List.take_of_length_le (by omega), Ex.flat_eq], Hjr.out, Hkr.out⟩
  · go_ret
    refine .inr ⟨rfl, [⟨(e, _), hee⟩], ?_, hJx⟩
    rw [Ex.flat_eq]
    exact ⟨flats e.kids, rfl⟩

end Go.Proofs.Ytkheeiipkdeihaa
