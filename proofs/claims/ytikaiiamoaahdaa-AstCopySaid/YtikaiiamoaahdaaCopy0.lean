/- Expressions in memory of their own. No walk here. -/
import Derived.Test.YtikaiiamoaahdaaClone
namespace Go.Proofs.Ytikaiiamoaahdaa
open Go.RowKit
set_option linter.unusedSimpArgs false
set_option linter.unusedVariables false

theorem arr_of_own {m lo e sz : Nat} {w : World} {v : Value} {rows : List (List Value)} (h : w.ownsRow lo e sz v rows.length rows.flatten) (hlen : ∀ r ∈ rows, r.length = sz) (hm : ∀ g, v.ownBlock = some g → g < m) : Arr m w v sz rows := by
  rcases h.2 with ⟨rfl, hl⟩ | ⟨g, cap, cur, rfl, hg, hh, hc1, hc2, hc3, hc4⟩
  · have : rows = [] := List.eq_nil_of_length_eq_zero hl
    subst this
    exact Arr.nil _ _ _
  · refine ⟨_, cap, rfl, hc1, hc2, fun _ => ⟨g, 0, rfl, hm g rfl, fun k r hr j x hx => ?_⟩⟩
    have hcell := h.cells (g := g) rfl (k * sz + j) x (flatten_at hlen hr hx)
    have e0 : (⟨g, 0, none⟩ : Addr).add (k * sz + j) = ⟨g, 0 + k * sz + j, none⟩ := by
      unfold Addr.add
      split <;> simp <;> omega
    rw [e0] at hcell
    exact hcell

/-- A list of the call's own, in a block from lo on, below hi. -/
def OwnIn (lo hi : Nat) (w : World) (e sz : Nat) (v : Value) (n : Nat) (xs : List Value) : Prop := w.ownsRow lo e sz v n xs ∧ ∀ g, v.ownBlock = some g → g < hi
theorem OwnIn.of_own {lo hi e sz n : Nat} {w : World} {v : Value} {xs : List Value} (h : w.ownsRow lo e sz v n xs) (hh : w.heap.size ≤ hi) : OwnIn lo hi w e sz v n xs :=
  ⟨h, fun g hg => Nat.lt_of_lt_of_le (ownsRow_block h g hg).2 hh⟩
theorem OwnIn.keep {lo hi e sz n : Nat} {w w' : World} {v : Value} {xs : List Value} (h : OwnIn lo hi w e sz v n xs) (hk : ∀ k, lo ≤ k → k < hi → w'.heap[k]? = w.heap[k]?) : OwnIn lo hi w' e sz v n xs := by
  refine ⟨⟨h.1.1, ?_⟩, h.2⟩
  rcases h.1.2 with h' | ⟨g, cap, cur, rfl, hg, hh, h1⟩
  · exact .inl h'
  · exact .inr ⟨g, cap, cur, rfl, hg, (hk g hg (h.2 g rfl)).trans hh, h1⟩
theorem OwnIn.more {lo hi lo' hi' e sz n : Nat} {w : World} {v : Value} {xs : List Value} (h : OwnIn lo hi w e sz v n xs) (h1 : lo' ≤ lo) (h2 : hi ≤ hi') : OwnIn lo' hi' w e sz v n xs :=
  ⟨ownsRow_base h.1 h1, fun g hg => Nat.lt_of_lt_of_le (h.2 g hg) h2⟩

theorem mats_len (l : List Mat) : ∀ r ∈ l.map Mat.cells, r.length = 3 := by
  intro r hr
  obtain ⟨m, _, rfl⟩ := List.mem_map.1 hr
  rfl
theorem names_len (l : List ByteArray) : ∀ r ∈ l.map (fun s => [Value.string s]), r.length = 1 := by
  intro r hr
  obtain ⟨m, _, rfl⟩ := List.mem_map.1 hr
  rfl
theorem mats_one (l : List Mat) : ∀ u ∈ (l.map Mat.cells).flatten, u.oneCell' = true := by
  intro u hu
  obtain ⟨r, hr, hur⟩ := List.mem_flatten.1 hu
  obtain ⟨m, _, rfl⟩ := List.mem_map.1 hr
  simp only [Mat.cells, List.mem_cons, List.not_mem_nil, or_false] at hur
  rcases hur with rfl | rfl | rfl <;> rfl
theorem names_one (l : List ByteArray) : ∀ u ∈ (l.map (fun s => [Value.string s])).flatten, u.oneCell' = true := by
  intro u hu
  obtain ⟨r, hr, hur⟩ := List.mem_flatten.1 hu
  obtain ⟨m, _, rfl⟩ := List.mem_map.1 hr
  simp only [List.mem_cons, List.not_mem_nil, or_false] at hur
  rcases hur with rfl
  rfl

/-- An expression all of whose lists lie in blocks of the call's own, from lo on, below hi. -/
inductive Fresh (lo hi : Nat) (w : World) : Ex → List Value → Prop where
  | mk {kind fn op num : Int} {metric : ByteArray} {mats : List Mat} {span : Int} {names : List ByteArray} {kids : List Ex} {vm vn vk : Value} {rows : List (List Value)}
      (hs : metric.size ≤ maxLen) (hms : ∀ m ∈ mats, m.small) (hns : ∀ s ∈ names, s.size ≤ maxLen) (hm : OwnIn lo hi w 59 3 vm mats.length (mats.map Mat.cells).flatten)
      (hn : OwnIn lo hi w 9 1 vn names.length (names.map fun s => [Value.string s]).flatten) (hk : OwnIn lo hi w 26 9 vk kids.length rows.flatten) (hl : rows.length = kids.length)
      (hr : ∀ (k : Nat) (r : List Value) (e : Ex), rows[k]? = some r → kids[k]? = some e → Fresh lo hi w e r) :
      Fresh lo hi w (.mk kind fn op num metric mats span names kids) [.int .i64 kind, .int .i64 fn, .int .i64 op, .int .i64 num, .string metric, vm, .int .i64 span, vn, vk]

theorem Fresh.length {lo hi : Nat} {w : World} {e : Ex} {cs : List Value} (h : Fresh lo hi w e cs) : cs.length = 9 := by cases h; rfl
theorem Fresh.isEx {lo hi m : Nat} {w : World} {e : Ex} {cs : List Value} (h : Fresh lo hi w e cs) (hm : hi ≤ m) : IsEx m w e cs := by
  induction h with
  | mk hs hms hns h1 h2 h3 hl hr ih =>
    rename_i mats _ names kids _ _ _ rows
    refine .mk hs ⟨arr_of_own (by simpa using h1.1) (mats_len _) (fun g hg => Nat.lt_of_lt_of_le (h1.2 g hg) hm), hms⟩ ⟨arr_of_own (by simpa using h2.1) (names_len _) (fun g hg => Nat.lt_of_lt_of_le (h2.2 g hg) hm), hns⟩
      (arr_of_own (by rw [hl]; exact h3.1) ?_ (fun g hg => Nat.lt_of_lt_of_le (h3.2 g hg) hm)) hl fun k r e hr he => ih k r e hr he
    intro r hr'
    obtain ⟨k, hk, rfl⟩ := List.getElem_of_mem hr'
    exact (hr k _ (kids[k]'(by omega)) (by simp) (by simp)).length
theorem Fresh.keep {lo hi : Nat} {w w' : World} {e : Ex} {cs : List Value} (h : Fresh lo hi w e cs) (hk : ∀ k, lo ≤ k → k < hi → w'.heap[k]? = w.heap[k]?) : Fresh lo hi w' e cs := by
  induction h with
  | mk hs hms hns h1 h2 h3 hl hr ih => exact .mk hs hms hns (h1.keep hk) (h2.keep hk) (h3.keep hk) hl ih
theorem Fresh.more {lo hi lo' hi' : Nat} {w : World} {e : Ex} {cs : List Value} (h : Fresh lo hi w e cs) (h1 : lo' ≤ lo) (h2 : hi ≤ hi') : Fresh lo' hi' w e cs := by
  induction h with
  | mk hs hms hns h1' h2' h3' hl hr ih => exact .mk hs hms hns (h1'.more h1 h2) (h2'.more h1 h2) (h3'.more h1 h2) hl ih
theorem Fresh.cells {lo hi : Nat} {w : World} {e : Ex} {cs : List Value} (h : Fresh lo hi w e cs) :
    ∃ (vm vn vk : Value) (rows : List (List Value)), cs = [.int .i64 e.kind, .int .i64 e.fn, .int .i64 e.op, .int .i64 e.num, .string e.metric, vm, .int .i64 e.span, vn, vk] ∧ OwnIn lo hi w 59 3 vm e.mats.length (e.mats.map Mat.cells).flatten ∧
      OwnIn lo hi w 9 1 vn e.names.length (e.names.map fun s => [Value.string s]).flatten ∧ OwnIn lo hi w 26 9 vk e.kids.length rows.flatten ∧ rows.length = e.kids.length ∧
      ∀ (k : Nat) (r : List Value) (e' : Ex), rows[k]? = some r → e.kids[k]? = some e' → Fresh lo hi w e' r := by
  cases h with
  | mk hs hms hns h1 h2 h3 hl hr => exact ⟨_, _, _, _, rfl, h1, h2, h3, hl, hr⟩

/-- No part has more matchers or names than this. -/
def Ex.thin (e : Ex) : Prop := ∀ x ∈ e.flat, x.mats.length ≤ 1000000 ∧ x.names.length ≤ 1000000
theorem Ex.thin_self {e : Ex} (h : e.thin) : e.mats.length ≤ 1000000 ∧ e.names.length ≤ 1000000 := h e (by rw [Ex.flat_eq]; simp)
theorem Ex.thin_kid {e : Ex} (h : e.thin) {k : Nat} (hk : k < e.kids.length) : e.kids[k].thin := by
  intro x hx
  refine h x ?_
  rw [Ex.flat_eq]
  refine List.mem_cons_of_mem _ ?_
  have h1 := flats_append (e.kids.take (k + 1)) (e.kids.drop (k + 1))
  rw [List.take_append_drop, flats_step hk] at h1
  rw [h1]
  simp [hx]

/-- Nine cells of a row turned: the list with that row in its place. -/
theorem set_row {rows : List (List Value)} {sz : Nat} (hlen : ∀ r ∈ rows, r.length = sz) {k j : Nat} (hk : k < rows.length) (hj : j < sz) (u : Value) :
    rows.flatten.set (k * sz + j) u = (rows.set k (rows[k].set j u)).flatten := by
  induction rows generalizing k with
  | nil => simp at hk
  | cons r rows ih =>
    have h0 := hlen r (by simp)
    cases k with
    | zero =>
      simp only [List.flatten_cons, Nat.zero_mul, Nat.zero_add, List.set_cons_zero, List.getElem_cons_zero]
      rw [List.set_append_left _ _ (by omega)]
    | succ k =>
      simp only [List.flatten_cons, List.set_cons_succ, List.getElem_cons_succ]
      rw [List.set_append_right _ _ (by rw [h0, Nat.succ_mul]; omega), h0, ← ih (fun r hr => hlen r (by simp [hr])) (by simpa using hk)]
      congr 2
      rw [Nat.succ_mul]; omega
theorem put9m {w : World} {base e g n cap k : Nat} {rows : List (List Value)} {z0 z1 z2 z3 z4 z5 z6 z7 z8 c0 c1 c2 c3 c4 c5 c6 c7 c8 : Value} (hlen : ∀ r ∈ rows, r.length = 9) (hk : k < rows.length) (hr : rows[k]? = some [z0, z1, z2, z3, z4, z5, z6, z7, z8])
    (h : w.ownsRow base e 9 (.slice (some ⟨g, 0, none⟩) n cap) n rows.flatten) :
    (((((((((w.setCell ⟨g, k * 9, none⟩ c0).setCell ⟨g, k * 9 + 1, none⟩ c1).setCell ⟨g, k * 9 + 2, none⟩ c2).setCell ⟨g, k * 9 + 3, none⟩ c3).setCell ⟨g, k * 9 + 4, none⟩ c4).setCell ⟨g, k * 9 + 5, none⟩ c5).setCell ⟨g, k * 9 + 6, none⟩ c6).setCell ⟨g, k * 9 + 7, none⟩ c7).setCell ⟨g, k * 9 + 8, none⟩ c8).ownsRow base e 9 (.slice (some ⟨g, 0, none⟩) n cap) n (rows.set k [c0, c1, c2, c3, c4, c5, c6, c7, c8]).flatten ∧
    (((((((((w.setCell ⟨g, k * 9, none⟩ c0).setCell ⟨g, k * 9 + 1, none⟩ c1).setCell ⟨g, k * 9 + 2, none⟩ c2).setCell ⟨g, k * 9 + 3, none⟩ c3).setCell ⟨g, k * 9 + 4, none⟩ c4).setCell ⟨g, k * 9 + 5, none⟩ c5).setCell ⟨g, k * 9 + 6, none⟩ c6).setCell ⟨g, k * 9 + 7, none⟩ c7).setCell ⟨g, k * 9 + 8, none⟩ c8).heap.size = w.heap.size ∧
    ∀ j, j ≠ g → (((((((((w.setCell ⟨g, k * 9, none⟩ c0).setCell ⟨g, k * 9 + 1, none⟩ c1).setCell ⟨g, k * 9 + 2, none⟩ c2).setCell ⟨g, k * 9 + 3, none⟩ c3).setCell ⟨g, k * 9 + 4, none⟩ c4).setCell ⟨g, k * 9 + 5, none⟩ c5).setCell ⟨g, k * 9 + 6, none⟩ c6).setCell ⟨g, k * 9 + 7, none⟩ c7).setCell ⟨g, k * 9 + 8, none⟩ c8).heap[j]? = w.heap[j]? := by
  refine ⟨?_, by simp, fun j hj => by iterate 9 rw [Below.heap_setCell _ _ _ _ hj]⟩
  have hrow : rows[k] = [z0, z1, z2, z3, z4, z5, z6, z7, z8] := by
    rw [List.getElem?_eq_getElem hk] at hr
    exact Option.some.inj hr
  have st := fun (w : World) (xs : List Value) (j : Nat) (u : Value) (h : w.ownsRow base e 9 (.slice (some ⟨g, 0, none⟩) n cap) n xs) => (h.stored j u).1
  have hs : ∀ (l : List Value) (j : Nat) (u : Value), l.length = 9 → j < 9 → (rows.set k l).flatten.set (k * 9 + j) u = (rows.set k (l.set j u)).flatten := by
    intro l j u hl hj
    have := set_row (rows := rows.set k l) (sz := 9) (fun r hr => by
      rcases List.mem_or_eq_of_mem_set hr with h | rfl
      · exact hlen r h
      · exact hl) (k := k) (j := j) (by simpa using hk) hj u
    rw [this]
    simp
  have e0 : rows = rows.set k [z0, z1, z2, z3, z4, z5, z6, z7, z8] := by rw [← hrow]; simp
  rw [e0] at h
  have s0 := st _ _ (k * 9) c0 h
  rw [show (rows.set k [z0, z1, z2, z3, z4, z5, z6, z7, z8]).flatten.set (k * 9) c0 = (rows.set k [c0, z1, z2, z3, z4, z5, z6, z7, z8]).flatten from hs _ 0 _ rfl (by decide)] at s0
  have s1 := st _ _ (k * 9 + 1) c1 s0
  rw [hs _ 1 _ rfl (by decide)] at s1
  have s2 := st _ _ (k * 9 + 2) c2 s1
  rw [hs _ 2 _ rfl (by decide)] at s2
  have s3 := st _ _ (k * 9 + 3) c3 s2
  rw [hs _ 3 _ rfl (by decide)] at s3
  have s4 := st _ _ (k * 9 + 4) c4 s3
  rw [hs _ 4 _ rfl (by decide)] at s4
  have s5 := st _ _ (k * 9 + 5) c5 s4
  rw [hs _ 5 _ rfl (by decide)] at s5
  have s6 := st _ _ (k * 9 + 6) c6 s5
  rw [hs _ 6 _ rfl (by decide)] at s6
  have s7 := st _ _ (k * 9 + 7) c7 s6
  rw [hs _ 7 _ rfl (by decide)] at s7
  have s8 := st _ _ (k * 9 + 8) c8 s7
  rw [hs _ 8 _ rfl (by decide)] at s8
  exact s8

theorem Blk.set {w : World} {g t : Nat} {cs : List Value} (h : Blk w g t cs) (j : Nat) (u : Value) : Blk (w.setCell ⟨g, j, none⟩ u) g t (cs.set j u) := by
  unfold Blk at h ⊢
  simp [World.setCell, Array.getElem?_modify, h]
theorem Blk.other {w : World} {g t : Nat} {cs : List Value} (h : Blk w g t cs) {p : Addr} (hp : g ≠ p.block) (u : Value) : Blk (w.setCell p u) g t cs := (Below.heap_setCell w p u g hp).trans h

end Go.Proofs.Ytikaiiamoaahdaa
