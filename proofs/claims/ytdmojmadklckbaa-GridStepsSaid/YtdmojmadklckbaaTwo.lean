/- A box that holds a list of the call's own: what an append to it turns. No walk here. -/
import Derived.Test.YtdmojmadklckbaaOwn2
namespace Go.Proofs.Ytdmojmadklckbaa
open Go.Shelf
open Go.RowKit
set_option linter.unusedSimpArgs false
set_option linter.unusedVariables false

/-- Behind W only the box c and the row have turned. -/
structure Two (W W' : World) (c : Nat) (row : Option Nat) : Prop where
  os : W'.os = W.os
  tape : W'.tape = W.tape
  output : W'.output = W.output
  size : W.heap.size ≤ W'.heap.size
  block : ∀ k, k < W.heap.size → k ≠ c → some k ≠ row → W'.heap[k]? = W.heap[k]?

theorem Two.grown {W A B : World} {c : Nat} {row r : Option Nat} (h : Two W A c row) (hg : A.grownBy B r) (hr : ∀ g, r = some g → g = c ∨ some g = row ∨ W.heap.size ≤ g) : Two W B c row :=
  ⟨hg.os.trans h.os, hg.tape.trans h.tape, hg.output.trans h.output, Nat.le_trans h.size hg.size, fun k hk h1 h2 => (hg.block k (Nat.lt_of_lt_of_le hk h.size) (fun e => by
    rcases hr k e.symm with rfl | h | h
    · exact h1 rfl
    · exact h2 h
    · omega)).trans (h.block k hk h1 h2)⟩
theorem Two.refl (W : World) (c : Nat) (row : Option Nat) : Two W W c row := ⟨rfl, rfl, rfl, Nat.le_refl _, fun _ _ _ _ => rfl⟩
theorem Two.drew {W A : World} {c : Nat} {row : Option Nat} (h : Two W A c row) : Two W A.drew c row := ⟨h.os, h.tape, h.output, h.size, h.block⟩
theorem Two.below {W A : World} {a : World} {B c : Nat} {row : Option Nat} (h : Two W A c row) (hb : Below B a W) (hB : B ≤ W.heap.size) (hc : B ≤ c) (hr : ∀ g, row = some g → B ≤ g) : Below B a A :=
  hb.trans ⟨h.os, h.tape, h.output, h.size, fun k hk => h.block k (by omega) (by omega) (fun e => by have := hr k e.symm; omega)⟩

/-- Nine cells stored one by one, in a row of the call's own. -/
theorem put9 {w : World} {base e g n cap : Nat} {xs : List Value} {z0 z1 z2 z3 z4 z5 z6 z7 z8 c0 c1 c2 c3 c4 c5 c6 c7 c8 : Value} (hl : xs.length = n * 9)
    (h : w.ownsRow base e 9 (.slice (some ⟨g, 0, none⟩) (n + 1) cap) (n + 1) (xs ++ [z0, z1, z2, z3, z4, z5, z6, z7, z8])) :
    (((((((((w.setCell ⟨g, n * 9, none⟩ c0).setCell ⟨g, n * 9 + 1, none⟩ c1).setCell ⟨g, n * 9 + 2, none⟩ c2).setCell ⟨g, n * 9 + 3, none⟩ c3).setCell ⟨g, n * 9 + 4, none⟩ c4).setCell ⟨g, n * 9 + 5, none⟩ c5).setCell ⟨g, n * 9 + 6, none⟩ c6).setCell ⟨g, n * 9 + 7, none⟩ c7).setCell ⟨g, n * 9 + 8, none⟩ c8).ownsRow base e 9 (.slice (some ⟨g, 0, none⟩) (n + 1) cap) (n + 1) (xs ++ [c0, c1, c2, c3, c4, c5, c6, c7, c8]) ∧
    ∀ (W : World) (c : Nat) (row : Option Nat), Two W w c row → (some g = row ∨ W.heap.size ≤ g) → Two W (((((((((w.setCell ⟨g, n * 9, none⟩ c0).setCell ⟨g, n * 9 + 1, none⟩ c1).setCell ⟨g, n * 9 + 2, none⟩ c2).setCell ⟨g, n * 9 + 3, none⟩ c3).setCell ⟨g, n * 9 + 4, none⟩ c4).setCell ⟨g, n * 9 + 5, none⟩ c5).setCell ⟨g, n * 9 + 6, none⟩ c6).setCell ⟨g, n * 9 + 7, none⟩ c7).setCell ⟨g, n * 9 + 8, none⟩ c8) c row := by
  have st := fun (w : World) (xs : List Value) (j : Nat) (u : Value) (h : w.ownsRow base e 9 (.slice (some ⟨g, 0, none⟩) (n + 1) cap) (n + 1) xs) => h.stored j u
  have hs : ∀ (j : Nat) (l : List Value) (u : Value), (xs ++ l).set (n * 9 + j) u = xs ++ l.set j u := fun j l u => by
    rw [List.set_append_right _ _ (by omega), hl, Nat.add_sub_cancel_left]
  have s0 := st _ _ (n * 9) c0 h
  rw [show (xs ++ [z0, z1, z2, z3, z4, z5, z6, z7, z8]).set (n * 9) c0 = xs ++ [c0, z1, z2, z3, z4, z5, z6, z7, z8] from hs 0 _ _] at s0
  have s1 := st _ _ (n * 9 + 1) c1 s0.1
  rw [hs 1] at s1
  have s2 := st _ _ (n * 9 + 2) c2 s1.1
  rw [hs 2] at s2
  have s3 := st _ _ (n * 9 + 3) c3 s2.1
  rw [hs 3] at s3
  have s4 := st _ _ (n * 9 + 4) c4 s3.1
  rw [hs 4] at s4
  have s5 := st _ _ (n * 9 + 5) c5 s4.1
  rw [hs 5] at s5
  have s6 := st _ _ (n * 9 + 6) c6 s5.1
  rw [hs 6] at s6
  have s7 := st _ _ (n * 9 + 7) c7 s6.1
  rw [hs 7] at s7
  have s8 := st _ _ (n * 9 + 8) c8 s7.1
  rw [hs 8] at s8
  refine ⟨s8.1, fun W c row hW hg => ?_⟩
  have hr : ∀ k, some g = some k → k = c ∨ some k = row ∨ W.heap.size ≤ k := fun k e => by cases e; exact .inr hg
  exact ((((((((hW.grown s0.2 hr).grown s1.2 hr).grown s2.2 hr).grown s3.2 hr).grown s4.2 hr).grown s5.2 hr).grown s6.2 hr).grown s7.2 hr).grown s8.2 hr

/-- The list with one more. -/
theorem own_snoc {n base : Nat} {W W' : World} {v' : Value} {l : List Ex} {rows : List (List Value)} {x : Ex} {cs : List Value} (hl : rows.length = l.length)
    (hg : ∀ (k : Nat) (r : List Value) (e : Ex), rows[k]? = some r → l[k]? = some e → IsEx n W e r) (hx : IsEx n W x cs) (hb : Below n W W')
    (h : W'.ownsRow base 26 9 v' (l.length + 1) (rows.flatten ++ cs)) : Own n base W' v' (l ++ [x]) :=
  Own.app (rows2 := [cs]) hl rfl hg (fun k r e' hr he' => by
    cases k with
    | zero => simp at hr he'; subst hr; subst he'; exact hx
    | succ k => simp at hr) hb (by simpa using h)

/-- One box, and the list that it holds. -/
def Vl (n₀ c t : Nat) (W : World) : Prop := n₀ ≤ c ∧ ∃ v, Boxed W c t v ∧ ∀ k, v.ownBlock = some k → n₀ ≤ k ∧ ∃ cs e, W.heap[k]? = some (.cells cs e (0, 0))
def Xl (c : Nat) (W : World) (k : Nat) : Prop := k = c ∨ ∃ v, W.cell? ⟨c, 0, none⟩ = some v ∧ v.ownBlock = some k
theorem dirtyL {n₀ c t : Nat} : Dirty n₀ (Vl n₀ c t) (Xl c) where
  lo := fun W k hv hx => by
    obtain ⟨hc, v, hb, hk⟩ := hv
    rcases hx with rfl | ⟨v', hv', hk'⟩
    · exact ⟨hc, hb.lt⟩
    · rw [hb.cell] at hv'; cases hv'
      obtain ⟨h1, cs, e, h2⟩ := hk k hk'
      exact ⟨h1, (Array.getElem?_eq_some_iff.1 h2).1⟩
  al := fun W o hv => by
    obtain ⟨hc, v, hb, hk⟩ := hv
    refine ⟨⟨hc, v, hb.alloc o, fun k h => ?_⟩, fun k hx => ?_⟩
    · obtain ⟨h1, cs, e, h2⟩ := hk k h
      exact ⟨h1, cs, e, (Below.heap_alloc _ _ _ (Array.getElem?_eq_some_iff.1 h2).1).trans h2⟩
    rcases hx with rfl | ⟨v', hv', hk'⟩
    · exact .inl rfl
    · rw [(hb.alloc o).cell] at hv'; cases hv'
      exact .inr ⟨v, hb.cell, hk'⟩
  pu := fun W l o o' hv hl ho => by
    obtain ⟨hc, v, hb, hk⟩ := hv
    have hne : ∀ (j : Nat) (cs : Array Value) (e : TypeId), W.heap[j]? = some (.cells cs e (0, 0)) → j ≠ l := by
      rintro j cs e hj rfl
      rw [hj] at hl; cases hl; cases ho
    have hb' : Boxed (W.putObj l o') c t v := by
      rw [Boxed, World.putObj_heap_other (hne _ _ _ hb)]; exact hb
    refine ⟨⟨hc, v, hb', fun k h => ?_⟩, fun k hx => ?_⟩
    · obtain ⟨h1, cs, e, h2⟩ := hk k h
      exact ⟨h1, cs, e, (World.putObj_heap_other (hne _ _ _ h2)).trans h2⟩
    rcases hx with rfl | ⟨v', hv', hk'⟩
    · exact .inl rfl
    · rw [hb'.cell] at hv'; cases hv'
      exact .inr ⟨v, hb.cell, hk'⟩

theorem ownsRow_cells {w : World} {base e sz n : Nat} {v : Value} {xs : List Value} (h : w.ownsRow base e sz v n xs) : ∀ k, v.ownBlock = some k → ∃ cs, w.heap[k]? = some (.cells cs e (0, 0)) := by
  intro k hk
  rcases h.2 with ⟨rfl, _⟩ | ⟨g, cap, cur, rfl, hg, hh, _⟩
  · simp [Value.ownBlock] at hk
  · simp [Value.ownBlock] at hk
    subst hk
    exact ⟨_, hh⟩

/-- What the loop over an iterator owes behind a round that has appended. -/
theorem two_post {n₀ base c t e sz : Nat} {B k k' : Nat} {W W' : World} {v v' : Value} {xs xs' : List Value} (h : Two W W' c v.ownBlock) (hb : Boxed W c t v) (hb' : Boxed W' c t v') (ho : W.ownsRow base e sz v k xs) (ho' : W'.ownsRow base e sz v' k' xs')
    (hv : v'.ownBlock = v.ownBlock ∨ ∃ g, v'.ownBlock = some g ∧ W.heap.size ≤ g) (hc : n₀ ≤ c) (hbase : n₀ ≤ base) :
    KeepsFrom B W W' ∧ KpX (Vl n₀ c t) (Xl c) W W' := by
  have hcells : ∀ j, j = c ∨ some j = v.ownBlock → ∃ cs e, W.heap[j]? = some (.cells cs e (0, 0)) := by
    rintro j (rfl | hj)
    · exact ⟨_, _, hb⟩
    · obtain ⟨cs, hcs⟩ := ownsRow_cells ho j hj.symm
      exact ⟨cs, _, hcs⟩
  refine ⟨⟨h.size, fun j o _ hj hno => ?_⟩, fun hV => ⟨⟨hc, v', hb', fun j hj => ?_⟩, ⟨h.size, fun j o hj _ hx => ?_, fun j hx => ?_⟩⟩⟩
  · have hlt := (Array.getElem?_eq_some_iff.1 hj).1
    have hn : ∀ cs e, W.heap[j]? ≠ some (.cells cs e (0, 0)) := by
      intro cs e e'
      rw [hj] at e'; cases e'; cases hno
    refine (h.block j hlt (fun e => ?_) (fun e => ?_)).trans hj
    · obtain ⟨cs, e', h'⟩ := hcells j (.inl e)
      exact hn _ _ h'
    · obtain ⟨cs, e', h'⟩ := hcells j (.inr e)
      exact hn _ _ h'
  · obtain ⟨cs, hcs⟩ := ownsRow_cells ho' j hj
    exact ⟨Nat.le_trans hbase (ownsRow_block ho' j hj).1, cs, _, hcs⟩
  · have hlt := (Array.getElem?_eq_some_iff.1 hj).1
    exact (h.block j hlt (fun e => hx (.inl e)) (fun e => hx (.inr ⟨v, hb.cell, e.symm⟩))).trans hj
  · rcases hx with rfl | ⟨v2, hv2, hj⟩
    · exact .inl (.inl rfl)
    · rw [hb'.cell] at hv2; cases hv2
      rcases hv with e | ⟨g, e, hg⟩
      · exact .inl (.inr ⟨v, hb.cell, by rw [← e]; exact hj⟩)
      · rw [e] at hj; cases hj; exact .inr hg

/-- What an append of one element leaves: the box, the list, what else has turned. -/
def Post1 (n base c : Nat) (row : Option Nat) (l : List Ex) (W W' : World) : Prop :=
  ∃ v', Boxed W' c 24 v' ∧ Own n base W' v' l ∧ Two W W' c row ∧ (v'.ownBlock = row ∨ ∃ g, v'.ownBlock = some g ∧ W.heap.size ≤ g)

theorem fin9a {n base c g cap : Nat} {row : Option Nat} {W w3 : World} {v : Value} {l : List Ex} {rows : List (List Value)} {x : Ex} {z0 z1 z2 z3 z4 z5 z6 z7 z8 c0 c1 c2 c3 c4 c5 c6 c7 c8 : Value}
    (hl : rows.length = l.length) (hf : rows.flatten.length = l.length * 9) (hg : ∀ (k : Nat) (r : List Value) (e : Ex), rows[k]? = some r → l[k]? = some e → IsEx n W e r) (hx : IsEx n W x [c0, c1, c2, c3, c4, c5, c6, c7, c8])
    (ht : Two W w3 c row) (hb : Boxed w3 c 24 v) (ho : w3.ownsRow base 26 9 (.slice (some ⟨g, 0, none⟩) (l.length + 1) cap) (l.length + 1) (rows.flatten ++ [z0, z1, z2, z3, z4, z5, z6, z7, z8]))
    (hgw : some g = row ∨ W.heap.size ≤ g) (hn : n ≤ W.heap.size) (hnc : n ≤ c) (hnr : ∀ k, row = some k → n ≤ k) :
    Post1 n base c row (l ++ [x]) W ((((((((((w3.setCell ⟨g, l.length * 9, none⟩ c0).setCell ⟨g, l.length * 9 + 1, none⟩ c1).setCell ⟨g, l.length * 9 + 2, none⟩ c2).setCell ⟨g, l.length * 9 + 3, none⟩ c3).setCell ⟨g, l.length * 9 + 4, none⟩ c4).setCell ⟨g, l.length * 9 + 5, none⟩ c5).setCell ⟨g, l.length * 9 + 6, none⟩ c6).setCell ⟨g, l.length * 9 + 7, none⟩ c7).setCell ⟨g, l.length * 9 + 8, none⟩ c8).setCell ⟨c, 0, none⟩ (.slice (some ⟨g, 0, none⟩) (l.length + 1) cap)) := by
  have q := put9 (c0 := c0) (c1 := c1) (c2 := c2) (c3 := c3) (c4 := c4) (c5 := c5) (c6 := c6) (c7 := c7) (c8 := c8) hf ho
  have hgc : c ≠ g := fun e => hb.not_row (by decide) ho (by rw [e]; rfl)
  have hb9 : Boxed (((((((((w3.setCell ⟨g, l.length * 9, none⟩ c0).setCell ⟨g, l.length * 9 + 1, none⟩ c1).setCell ⟨g, l.length * 9 + 2, none⟩ c2).setCell ⟨g, l.length * 9 + 3, none⟩ c3).setCell ⟨g, l.length * 9 + 4, none⟩ c4).setCell ⟨g, l.length * 9 + 5, none⟩ c5).setCell ⟨g, l.length * 9 + 6, none⟩ c6).setCell ⟨g, l.length * 9 + 7, none⟩ c7).setCell ⟨g, l.length * 9 + 8, none⟩ c8) c 24 v := by
    unfold Boxed
    iterate 9 rw [Below.heap_setCell _ _ _ _ hgc]
    exact hb
  have tt := (q.2 W c row ht hgw).grown (grownBy_setCell' _ c (.slice (some ⟨g, 0, none⟩) (l.length + 1) cap)) (fun k e => by cases e; exact .inl rfl)
  refine ⟨.slice (some ⟨g, 0, none⟩) (l.length + 1) cap, hb9.set _, ?_, tt, hgw.elim .inl fun h => .inr ⟨g, rfl, h⟩⟩
  exact own_snoc hl hg hx (tt.below (Below.refl n W) hn hnc hnr) (q.1.kept (grownBy_setCell' _ c _) (.inr fun e => hgc (by simpa [Value.ownBlock] using e.symm)))

theorem fin9b {n base c g cap : Nat} {row : Option Nat} {W w3 : World} {v : Value} {l : List Ex} {rows : List (List Value)} {x : Ex} {z0 z1 z2 z3 z4 z5 z6 z7 z8 c0 c1 c2 c3 c4 c5 c6 c7 c8 : Value}
    (hl : rows.length = l.length) (hf : rows.flatten.length = l.length * 9) (hg : ∀ (k : Nat) (r : List Value) (e : Ex), rows[k]? = some r → l[k]? = some e → IsEx n W e r) (hx : IsEx n W x [c0, c1, c2, c3, c4, c5, c6, c7, c8])
    (ht : Two W w3 c row) (hb : Boxed w3 c 24 v) (ho : w3.ownsRow base 26 9 (.slice (some ⟨g, 0, none⟩) (l.length + 1) cap) (l.length + 1) (rows.flatten ++ [z0, z1, z2, z3, z4, z5, z6, z7, z8]))
    (hgw : some g = row ∨ W.heap.size ≤ g) (hn : n ≤ W.heap.size) (hnc : n ≤ c) (hnr : ∀ k, row = some k → n ≤ k) :
    Post1 n base c row (l ++ [x]) W ((((((((((w3.setCell ⟨c, 0, none⟩ (.slice (some ⟨g, 0, none⟩) (l.length + 1) cap)).setCell ⟨g, l.length * 9, none⟩ c0).setCell ⟨g, l.length * 9 + 1, none⟩ c1).setCell ⟨g, l.length * 9 + 2, none⟩ c2).setCell ⟨g, l.length * 9 + 3, none⟩ c3).setCell ⟨g, l.length * 9 + 4, none⟩ c4).setCell ⟨g, l.length * 9 + 5, none⟩ c5).setCell ⟨g, l.length * 9 + 6, none⟩ c6).setCell ⟨g, l.length * 9 + 7, none⟩ c7).setCell ⟨g, l.length * 9 + 8, none⟩ c8) := by
  have hgc : c ≠ g := fun e => hb.not_row (by decide) ho (by rw [e]; rfl)
  have ho' : (w3.setCell ⟨c, 0, none⟩ (.slice (some ⟨g, 0, none⟩) (l.length + 1) cap)).ownsRow base 26 9 (.slice (some ⟨g, 0, none⟩) (l.length + 1) cap) (l.length + 1) (rows.flatten ++ [z0, z1, z2, z3, z4, z5, z6, z7, z8]) :=
    ho.kept (grownBy_setCell' _ c _) (.inr fun e => hgc (by simpa [Value.ownBlock] using e.symm))
  have q := put9 (c0 := c0) (c1 := c1) (c2 := c2) (c3 := c3) (c4 := c4) (c5 := c5) (c6 := c6) (c7 := c7) (c8 := c8) hf ho'
  have hb1 := hb.set (.slice (some ⟨g, 0, none⟩) (l.length + 1) cap)
  have t1 := ht.grown (grownBy_setCell' _ c (.slice (some ⟨g, 0, none⟩) (l.length + 1) cap)) (fun k e => by cases e; exact .inl rfl)
  have tt := q.2 W c row t1 hgw
  refine ⟨.slice (some ⟨g, 0, none⟩) (l.length + 1) cap, ?_, ?_, tt, hgw.elim .inl fun h => .inr ⟨g, rfl, h⟩⟩
  · unfold Boxed
    iterate 9 rw [Below.heap_setCell _ _ _ _ hgc]
    exact hb1
  · exact own_snoc hl hg hx (tt.below (Below.refl n W) hn hnc hnr) q.1

end Go.Proofs.Ytdmojmadklckbaa
