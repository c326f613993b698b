/- What every text of this seat leans on: how slices of small structs lie in memory, and small facts on lists. No program here. -/
import Derived.WalkKit
import Derived.WalkSpells
import Derived.WalkLawsBesides
import Derived.Lib.Hide
import Derived.KernelRfl
import Derived.Deep.WholeRow
import Derived.RangeFuncBox
import Derived.BigGuardPart
namespace Go.Proofs.YtfmolimnnheaoaaGreat
open Go.RowKit
set_option linter.unusedSimpArgs false
set_option linter.unusedVariables false

/-- A slice value that holds these rows of `sz` cells each, in blocks below `n`. -/
def Arr (n : Nat) (w : World) (v : Value) (sz : Nat) (rows : List (List Value)) : Prop :=
  ∃ p cap, v = .slice p rows.length cap ∧ rows.length ≤ cap ∧ cap ≤ maxLen ∧
    (rows ≠ [] → ∃ b off, p = some ⟨b, off, none⟩ ∧ b < n ∧
      ∀ k r, rows[k]? = some r → ∀ j x, r[j]? = some x → w.cell? ⟨b, off + k * sz + j, none⟩ = some x)

theorem Arr.mono {n m : Nat} {w w' : World} {v : Value} {sz : Nat} {rows : List (List Value)} (h : Arr n w v sz rows) (hb : Below n w w') (hm : n ≤ m) :
    Arr m w' v sz rows := by
  obtain ⟨p, cap, hv, h1, h2, h3⟩ := h
  refine ⟨p, cap, hv, h1, h2, fun hne => ?_⟩
  obtain ⟨b, off, hp, hbn, hc⟩ := h3 hne
  exact ⟨b, off, hp, by omega, fun k r hr j x hx => by rw [hb.cell (p := ⟨b, _, none⟩) hbn]; exact hc k r hr j x hx⟩

theorem Arr.nil (n : Nat) (w : World) (sz : Nat) : Arr n w (.slice none 0 0) sz [] := ⟨none, 0, rfl, Nat.le_refl _, Nat.zero_le _, fun h => (h rfl).elim⟩

theorem Arr.at {n : Nat} {w : World} {p : Option Addr} {len cap sz : Nat} {rows : List (List Value)} (h : Arr n w (.slice p len cap) sz rows) (k : Nat) (r : List Value) (hr : rows[k]? = some r) :
    ∃ b off, p = some ⟨b, off, none⟩ ∧ b < n ∧ ∀ j x, r[j]? = some x → w.cell? ⟨b, off + k * sz + j, none⟩ = some x := by
  obtain ⟨p', cap', hv, _, _, h3⟩ := h
  cases hv
  obtain ⟨b, off, hp, hbn, hc⟩ := h3 (by intro e; subst e; simp at hr)
  exact ⟨b, off, hp, hbn, fun j x hx => hc k r hr j x hx⟩

theorem Arr.len {n : Nat} {w : World} {p : Option Addr} {len cap sz : Nat} {rows : List (List Value)} (h : Arr n w (.slice p len cap) sz rows) :
    len = rows.length ∧ rows.length ≤ cap ∧ cap ≤ maxLen := by
  obtain ⟨p', cap', hv, h1, h2, _⟩ := h
  cases hv
  exact ⟨rfl, h1, h2⟩

theorem maxLen_eq : maxLen = 9223372036854775807 := rfl

/-! ### lists -/
theorem all_step {α : Type} {l : List α} {p : α → Bool} {k : Nat} (h : (l.take k).all p = true) (hk : k < l.length) (hp : p l[k] = true) : (l.take (k + 1)).all p = true := by
  rw [List.take_succ_eq_append_getElem hk, List.all_append, h]; simp [hp]
theorem all_done {α : Type} {l : List α} {p : α → Bool} {k : Nat} (h : (l.take k).all p = true) (hk : l.length ≤ k) : l.all p = true := by
  rwa [List.take_of_length_le hk] at h
theorem all_not {α : Type} {l : List α} {p : α → Bool} {k : Nat} (hk : k < l.length) (hp : p l[k] = false) : l.all p = false := by
  cases h : l.all p with
  | false => rfl
  | true => rw [List.all_eq_true] at h; have := h _ (List.getElem_mem hk); simp [hp] at this

/-- `all` over the numbers below `k`. -/
def upto (p : Nat → Bool) : Nat → Bool
  | 0 => true
  | k + 1 => upto p k && p k
theorem upto_step {p : Nat → Bool} {k : Nat} (h : upto p k = true) (hp : p k = true) : upto p (k + 1) = true := by simp [upto, h, hp]
theorem upto_iff {p : Nat → Bool} {n : Nat} : upto p n = true ↔ ∀ k, k < n → p k = true := by
  induction n with
  | zero => simp [upto]
  | succ n ih =>
    simp only [upto, Bool.and_eq_true, ih]
    constructor
    · rintro ⟨h1, h2⟩ k hk
      by_cases e : k = n
      · rw [e]; exact h2
      · exact h1 k (by omega)
    · exact fun h => ⟨fun k hk => h k (by omega), h n (by omega)⟩
theorem upto_not {p : Nat → Bool} {k n : Nat} (hk : k < n) (hp : p k = false) : upto p n = false := by
  cases h : upto p n with
  | false => rfl
  | true => have := upto_iff.1 h k hk; simp [hp] at this

theorem ret_bool {a b : Bool} (h : a = b) : Ending.returned (.bool a) = .returned (.bool b) := by rw [h]
theorem ret_int {k : IntKind} {a b : Int} (h : a = b) : Ending.returned (.int k a) = .returned (.int k b) := by rw [h]
theorem ret_string {a b : ByteArray} (h : a = b) : Ending.returned (.string a) = .returned (.string b) := by rw [h]

/-- Go's == on strings, as the walk writes it. -/
theorem toList_beq (a b : ByteArray) : (a.toList == b.toList) = decide (a = b) := by
  rw [ByteArray.toList_eq, ByteArray.toList_eq]
  obtain ⟨⟨x⟩⟩ := a
  obtain ⟨⟨y⟩⟩ := b
  rw [Bool.eq_iff_iff]
  simp
theorem toList_inj (a b : ByteArray) : a.toList = b.toList ↔ a = b := by
  have := toList_beq a b
  rw [Bool.eq_iff_iff] at this
  simpa using this
theorem beq_ba (a b : ByteArray) : (a == b) = decide (a = b) := by rw [beq_toListBytes, toList_beq]

/-- Block `B` begins with these cells. -/
def Box (w : World) (B : Nat) (cs : List Value) : Prop := B < w.heap.size ∧ ∀ j x, cs[j]? = some x → w.cell? ⟨B, j, none⟩ = some x
theorem Box.new (w : World) (cs : List Value) (t : TypeId) : Box (w.alloc (.cells cs.toArray t)) w.heap.size cs :=
  ⟨by simp, fun j x hx => by rw [World.cell?_alloc_new]; simpa using hx⟩
theorem Box.mono {w w' : World} {B n : Nat} {cs : List Value} (h : Box w B cs) (hb : Below n w w') (hn : B < n) : Box w' B cs :=
  ⟨Nat.lt_of_lt_of_le h.1 hb.size, fun j x hx => by rw [hb.cell (p := ⟨B, j, none⟩) hn]; exact h.2 j x hx⟩
theorem Box.keep {w w' : World} {B : Nat} {cs : List Value} (h : Box w B cs) (hb : Below w.heap.size w w') : Box w' B cs := h.mono hb h.1

/-! ### results that lie in memory -/
def aggD : TypeDesc → Bool
  | .struct _ | .array _ _ => true
  | _ => false
theorem loadRow {P : Program} (w : World) (g t ty : Nat) (cs : Array Value) (fr : Nat × Nat) (d : TypeDesc) (hg : w.heap[g]? = some (.cells cs t fr))
    (hu : P.underlying ty = some d) (hd : aggD d = true) (hi : (P.info? ty).map (·.size) = some cs.size) : (loadVar ty ⟨g, 0, none⟩).run P w = .ok (.agg cs) w :=
  run_loadVar_row w g t ty cs fr d hg hu (by cases d <;> first | rfl | exact hd) hi
theorem bodyPost_agg {P : Program} {fn : Func} {R : Ending → World → Prop} {a : Act} {w : World} {p : Tmp} {ty g t : Nat} {cs : Array Value} {fr : Nat × Nat} {d : TypeDesc}
    (h : fn.results = #[.cell p ty]) (hp : a.tmps.getD p undef = .pointer (some ⟨g, 0, none⟩)) (hg : w.heap[g]? = some (.cells cs t fr)) (hu : P.underlying ty = some d)
    (hd : aggD d = true) (hi : (P.info? ty).map (·.size) = some cs.size) (hdf : a.defers = []) (hR : R (.returned (.agg cs)) w) :
    bodyPost P fn R .ret a w := by
  refine ⟨hdf, .agg cs, ?_, hR⟩
  have hp' : a.tmps[p]?.getD undef = .pointer (some ⟨g, 0, none⟩) := by rw [← hp]; simp
  simp only [results, h]
  simp [Sem.run_bind, Result.andThen, hp', asAddr, loadRow w g t ty cs fr d hg hu hd hi]
theorem bodyPost_agg_tmp {P : Program} {fn : Func} {R : Ending → World → Prop} {a : Act} {w : World} {p u : Tmp} {ty g t : Nat} {cs : Array Value} {fr : Nat × Nat} {d : TypeDesc}
    (h : fn.results = #[.cell p ty, .tmp u]) (hp : a.tmps.getD p undef = .pointer (some ⟨g, 0, none⟩)) (hg : w.heap[g]? = some (.cells cs t fr)) (hu : P.underlying ty = some d)
    (hd : aggD d = true) (hi : (P.info? ty).map (·.size) = some cs.size) (hdf : a.defers = []) (hR : R (.returned (.tuple #[.agg cs, a.tmps.getD u undef])) w) :
    bodyPost P fn R .ret a w := by
  refine ⟨hdf, _, ?_, hR⟩
  rw [results_cell_tmp h, hp]
  simp [Result.andThen, asAddr, loadRow w g t ty cs fr d hg hu hd hi]

/-- A whole struct or array into the block that was made last. -/
theorem wpList_store_new {P : Program} {ops : Array Oper} {rest : List Oper} {o : Oper} {a : Act} {w : World} {Q : Exit → Act → World → Prop} (hgd : o.guard = none) (ty : TypeId) (x y : Operand) (ho : o.op = .store ty x y)
    (cells : Array Value) (t : TypeId) (old : Array Value) (hx : a.eval x = .pointer (some ⟨w.heap.size, 0, none⟩)) (hy : a.eval y = .agg cells)
    (hi : (P.info? ty).map (·.size) = some cells.size) (hold : old.size = cells.size) (h1 : cells.all (·.oneCell') = true)
    (h : wpList P ops Q rest (a.put o.dst undef) (w.alloc (.cells cells t))) : wpList P ops Q (o :: rest) a (w.alloc (.cells old t)) :=
  wpList_store_row hgd ty x y ho w.heap.size cells hx hy t old (World.alloc_heap_new w _) hi hold h1 (by rw [World.setRow_alloc_new]; exact h)

theorem setRow_at {w : World} {g t : Nat} {old : Array Value} {fr : Nat × Nat} (h : w.heap[g]? = some (.cells old t fr)) (cs : Array Value) : (w.setRow g cs).heap[g]? = some (.cells cs t fr) := by
  show (w.heap.modify g _)[g]? = _
  rw [Array.getElem?_modify, if_pos rfl, h]; rfl
theorem setRow_size (w : World) (g : Nat) (cs : Array Value) : (w.setRow g cs).heap.size = w.heap.size := by
  show (w.heap.modify g _).size = _
  simp
theorem below_setRow {B : Nat} {a w : World} (h : Below B a w) {g : Nat} (hg : B ≤ g) (cs : Array Value) : Below B a (w.setRow g cs) :=
  h.trans ⟨rfl, rfl, rfl, by rw [setRow_size]; exact Nat.le_refl _, fun k hk => by
    show (w.heap.modify g _)[k]? = _
    rw [Array.getElem?_modify, if_neg (by omega)]⟩
/-- A block known whole. -/
def Blk (w : World) (g t : Nat) (cs : List Value) : Prop := w.heap[g]? = some (.cells cs.toArray t (0, 0))
theorem Blk.new (w : World) (cs : List Value) (t : Nat) : Blk (w.alloc (.cells cs.toArray t)) w.heap.size t cs := World.alloc_heap_new w _
theorem Blk.lt {w : World} {g t : Nat} {cs : List Value} (h : Blk w g t cs) : g < w.heap.size := (Array.getElem?_eq_some_iff.1 h).1
theorem Blk.mono {w w' : World} {g t n : Nat} {cs : List Value} (h : Blk w g t cs) (hb : Below n w w') (hn : g < n) : Blk w' g t cs := (hb.block g hn).trans h
theorem Blk.keep {w w' : World} {g t : Nat} {cs : List Value} (h : Blk w g t cs) (hb : Below w.heap.size w w') : Blk w' g t cs := h.mono hb h.lt
theorem Blk.cell {w : World} {g t : Nat} {cs : List Value} (h : Blk w g t cs) (j : Nat) (x : Value) (hx : cs[j]? = some x) : w.cell? ⟨g, j, none⟩ = some x := by
  simp [World.cell?, show w.heap[g]? = _ from h, hx]
theorem Blk.free {w : World} {g t : Nat} {cs : List Value} (h : Blk w g t cs) (j : Nat) : w.frozen? ⟨g, j, none⟩ = false := by
  simp [World.frozen?, show w.heap[g]? = _ from h]
theorem Blk.box {w : World} {g t : Nat} {cs : List Value} (h : Blk w g t cs) : Box w g cs := ⟨h.lt, h.cell⟩
theorem Blk.row {w : World} {g t : Nat} {cs : List Value} (h : Blk w g t cs) (cs' : List Value) : Blk (w.setRow g cs'.toArray) g t cs' := setRow_at h _

end Go.Proofs.YtfmolimnnheaoaaGreat

/- More on blocks known whole. No program here. -/
namespace Go.Proofs.YtfmolimnnheaoaaGreat
open Go.RowKit
set_option linter.unusedSimpArgs false
set_option linter.unusedVariables false

theorem Blk.set_ {w : World} {g t : Nat} {cs : List Value} (h : Blk w g t cs) (i : Nat) (u : Value) : Blk (w.setCell ⟨g, i, none⟩ u) g t (cs.set i u) := by
  unfold Blk at h ⊢
  simp [World.setCell, Array.getElem?_modify, h]
theorem Blk.far {w : World} {g t : Nat} {cs : List Value} (h : Blk w g t cs) {p : Addr} (hp : g ≠ p.block) (u : Value) : Blk (w.setCell p u) g t cs := (Below.heap_setCell w p u g hp).trans h
theorem Blk.drew {w : World} {g t : Nat} {cs : List Value} (h : Blk w g t cs) : Blk w.drew g t cs := h
theorem Blk.drewN {w : World} {g t : Nat} {cs : List Value} (h : Blk w g t cs) (n : Nat) : Blk (w.drewN n) g t cs := h
theorem Blk.alloc {w : World} {g t : Nat} {cs : List Value} (h : Blk w g t cs) (o : Obj) : Blk (w.alloc o) g t cs := (Below.heap_alloc w o g h.lt).trans h
theorem bcell {W w1 : World} (hb : Below W.heap.size W w1) : (∀ b o, b < W.heap.size → w1.cell? ⟨b, o, none⟩ = W.cell? ⟨b, o, none⟩) ∧ (∀ b o, b < W.heap.size → w1.frozen? ⟨b, o, none⟩ = W.frozen? ⟨b, o, none⟩) :=
  ⟨fun b o h => hb.cell (p := ⟨b, o, none⟩) h, fun b o h => hb.frozen (p := ⟨b, o, none⟩) h⟩
theorem two_at (w : World) (cs cs' : List Value) (t t' : Nat) : Blk ((w.alloc (.cells cs.toArray t)).alloc (.cells cs'.toArray t')) w.heap.size t cs := (Blk.new w cs t).alloc _
theorem two_at' (w : World) (o : Obj) (cs' : List Value) (t' : Nat) : Blk ((w.alloc o).alloc (.cells cs'.toArray t')) (w.heap.size + 1) t' cs' := by
  have := Blk.new (w.alloc o) cs' t'
  simpa using this
theorem two_below (w : World) (o o' : Obj) : Below w.heap.size w ((w.alloc o).alloc o') := ((Below.refl _ _).alloc (Nat.le_refl _) _).alloc (by simp) _

end Go.Proofs.YtfmolimnnheaoaaGreat

/- Matchers, names and expressions as data, and how they lie in memory. No program here. -/
namespace Go.Proofs.YtfmolimnnheaoaaGreat
open Go.RowKit
set_option linter.unusedSimpArgs false
set_option linter.unusedVariables false

structure Mat where
  kind : Int
  name : ByteArray
  text : ByteArray
deriving DecidableEq

def Mat.cells (m : Mat) : List Value := [.int .i64 m.kind, .string m.name, .string m.text]
def Mat.small (m : Mat) : Prop := m.name.size ≤ maxLen ∧ m.text.size ≤ maxLen

/-- A slice of matchers. -/
def IsMats (n : Nat) (w : World) (v : Value) (l : List Mat) : Prop := Arr n w v 3 (l.map Mat.cells) ∧ ∀ m ∈ l, m.small

theorem IsMats.mono {n m : Nat} {w w' : World} {v : Value} {l : List Mat} (h : IsMats n w v l) (hb : Below n w w') (hm : n ≤ m) : IsMats m w' v l :=
  ⟨h.1.mono hb hm, h.2⟩
theorem IsMats.open {n : Nat} {w : World} {v : Value} {l : List Mat} (h : IsMats n w v l) : ∃ p cap, v = .slice p l.length cap ∧ l.length ≤ cap ∧ cap ≤ maxLen ∧ l.length ≤ maxLen := by
  obtain ⟨⟨p, cap, hv, h1, h2, _⟩, _⟩ := h
  simp only [List.length_map] at hv h1
  exact ⟨p, cap, hv, h1, h2, by omega⟩
theorem IsMats.get {n : Nat} {w : World} {p : Option Addr} {len cap : Nat} {l : List Mat} (h : IsMats n w (.slice p len cap) l) {k : Nat} (hk : k < l.length) :
    ∃ b off, p = some ⟨b, off, none⟩ ∧ b < n ∧ w.cell? ⟨b, off + k * 3, none⟩ = some (.int .i64 l[k].kind) ∧ w.cell? ⟨b, off + k * 3 + 1, none⟩ = some (.string l[k].name) ∧
      w.cell? ⟨b, off + k * 3 + 2, none⟩ = some (.string l[k].text) ∧ l[k].name.size ≤ maxLen ∧ l[k].text.size ≤ maxLen := by
  obtain ⟨b, off, hp, hb, hc⟩ := h.1.at k l[k].cells (by simp [hk])
  exact ⟨b, off, hp, hb, hc 0 _ rfl, hc 1 _ rfl, hc 2 _ rfl, (h.2 _ (List.getElem_mem hk)).1, (h.2 _ (List.getElem_mem hk)).2⟩

/-- A slice of strings. -/
def IsStrs (n : Nat) (w : World) (v : Value) (l : List ByteArray) : Prop := Arr n w v 1 (l.map fun s => [.string s]) ∧ ∀ s ∈ l, s.size ≤ maxLen

theorem IsStrs.mono {n m : Nat} {w w' : World} {v : Value} {l : List ByteArray} (h : IsStrs n w v l) (hb : Below n w w') (hm : n ≤ m) : IsStrs m w' v l :=
  ⟨h.1.mono hb hm, h.2⟩
theorem IsStrs.open {n : Nat} {w : World} {v : Value} {l : List ByteArray} (h : IsStrs n w v l) : ∃ p cap, v = .slice p l.length cap ∧ l.length ≤ cap ∧ cap ≤ maxLen ∧ l.length ≤ maxLen := by
  obtain ⟨⟨p, cap, hv, h1, h2, _⟩, _⟩ := h
  simp only [List.length_map] at hv h1
  exact ⟨p, cap, hv, h1, h2, by omega⟩
theorem IsStrs.get {n : Nat} {w : World} {p : Option Addr} {len cap : Nat} {l : List ByteArray} (h : IsStrs n w (.slice p len cap) l) {k : Nat} (hk : k < l.length) :
    ∃ b off, p = some ⟨b, off, none⟩ ∧ b < n ∧ w.cell? ⟨b, off + k, none⟩ = some (.string l[k]) ∧ l[k].size ≤ maxLen := by
  obtain ⟨b, off, hp, hb, hc⟩ := h.1.at k [.string l[k]] (by simp [hk])
  have := hc 0 _ rfl
  rw [Nat.mul_one] at this
  exact ⟨b, off, hp, hb, this, h.2 _ (List.getElem_mem hk)⟩

/-- An expression. -/
inductive Ex where
  | mk (kind fn op num : Int) (metric : ByteArray) (mats : List Mat) (span : Int) (names : List ByteArray) (kids : List Ex)

def Ex.kind : Ex → Int | .mk k _ _ _ _ _ _ _ _ => k
def Ex.fn : Ex → Int | .mk _ f _ _ _ _ _ _ _ => f
def Ex.op : Ex → Int | .mk _ _ o _ _ _ _ _ _ => o
def Ex.num : Ex → Int | .mk _ _ _ n _ _ _ _ _ => n
def Ex.metric : Ex → ByteArray | .mk _ _ _ _ m _ _ _ _ => m
def Ex.mats : Ex → List Mat | .mk _ _ _ _ _ m _ _ _ => m
def Ex.span : Ex → Int | .mk _ _ _ _ _ _ s _ _ => s
def Ex.names : Ex → List ByteArray | .mk _ _ _ _ _ _ _ n _ => n
def Ex.kids : Ex → List Ex | .mk _ _ _ _ _ _ _ _ k => k

/-- These nine cells hold an expression. -/
inductive IsEx (n : Nat) (w : World) : Ex → List Value → Prop where
  | mk {kind fn op num : Int} {metric : ByteArray} {mats : List Mat} {span : Int} {names : List ByteArray} {kids : List Ex} {vm vn vk : Value} {rows : List (List Value)}
      (hs : metric.size ≤ maxLen) (hm : IsMats n w vm mats) (hn : IsStrs n w vn names) (hk : Arr n w vk 9 rows) (hl : rows.length = kids.length)
      (hr : ∀ (k : Nat) (r : List Value) (e : Ex), rows[k]? = some r → kids[k]? = some e → IsEx n w e r) :
      IsEx n w (.mk kind fn op num metric mats span names kids) [.int .i64 kind, .int .i64 fn, .int .i64 op, .int .i64 num, .string metric, vm, .int .i64 span, vn, vk]

theorem IsEx.mono {n m : Nat} {w w' : World} {e : Ex} {cs : List Value} (h : IsEx n w e cs) (hb : Below n w w') (hm : n ≤ m) : IsEx m w' e cs := by
  induction h with
  | mk hs h1 h2 h3 hl _ ih => exact .mk hs (h1.mono hb hm) (h2.mono hb hm) (h3.mono hb hm) hl fun k r e hr he => ih k r e hr he

/-- A slice of expressions. -/
def IsExs (n : Nat) (w : World) (v : Value) (l : List Ex) : Prop :=
  ∃ rows : List (List Value), Arr n w v 9 rows ∧ rows.length = l.length ∧ ∀ (k : Nat) (r : List Value) (e : Ex), rows[k]? = some r → l[k]? = some e → IsEx n w e r

theorem IsExs.mono {n m : Nat} {w w' : World} {v : Value} {l : List Ex} (h : IsExs n w v l) (hb : Below n w w') (hm : n ≤ m) : IsExs m w' v l := by
  obtain ⟨rows, h1, h2, h3⟩ := h
  exact ⟨rows, h1.mono hb hm, h2, fun k r e hr he => (h3 k r e hr he).mono hb hm⟩
theorem IsExs.open {n : Nat} {w : World} {v : Value} {l : List Ex} (h : IsExs n w v l) : ∃ p cap, v = .slice p l.length cap ∧ l.length ≤ cap ∧ cap ≤ maxLen ∧ l.length ≤ maxLen := by
  obtain ⟨rows, ⟨p, cap, hv, h1, h2, _⟩, hl, _⟩ := h
  rw [hl] at hv h1
  exact ⟨p, cap, hv, h1, h2, by omega⟩

/-- What an expression's cells are. -/
theorem IsEx.cells {n : Nat} {w : World} {e : Ex} {cs : List Value} (h : IsEx n w e cs) :
    ∃ vm vn vk, cs = [.int .i64 e.kind, .int .i64 e.fn, .int .i64 e.op, .int .i64 e.num, .string e.metric, vm, .int .i64 e.span, vn, vk] ∧
      e.metric.size ≤ maxLen ∧ IsMats n w vm e.mats ∧ IsStrs n w vn e.names ∧ IsExs n w vk e.kids := by
  cases h with
  | mk hs h1 h2 h3 hl hr => exact ⟨_, _, _, rfl, hs, h1, h2, _, h3, hl, hr⟩

theorem IsExs.get {n : Nat} {w : World} {p : Option Addr} {len cap : Nat} {l : List Ex} (h : IsExs n w (.slice p len cap) l) {k : Nat} (hk : k < l.length) :
    ∃ b off r0 r1 r2 r3 r4 r5 r6 r7 r8, p = some ⟨b, off, none⟩ ∧ b < n ∧ IsEx n w l[k] [r0, r1, r2, r3, r4, r5, r6, r7, r8] ∧
      w.cell? ⟨b, off + k * 9, none⟩ = some r0 ∧ w.cell? ⟨b, off + k * 9 + 1, none⟩ = some r1 ∧ w.cell? ⟨b, off + k * 9 + 2, none⟩ = some r2 ∧
      w.cell? ⟨b, off + k * 9 + 3, none⟩ = some r3 ∧ w.cell? ⟨b, off + k * 9 + 4, none⟩ = some r4 ∧ w.cell? ⟨b, off + k * 9 + 5, none⟩ = some r5 ∧
      w.cell? ⟨b, off + k * 9 + 6, none⟩ = some r6 ∧ w.cell? ⟨b, off + k * 9 + 7, none⟩ = some r7 ∧ w.cell? ⟨b, off + k * 9 + 8, none⟩ = some r8 := by
  obtain ⟨rows, h1, h2, h3⟩ := h
  have hk' : k < rows.length := by omega
  obtain ⟨b, off, hp, hb, hc⟩ := h1.at k rows[k] (by simp [hk'])
  have he := h3 k rows[k] l[k] (by simp [hk']) (by simp [hk])
  obtain ⟨vm, vn, vk, hcs, _⟩ := he.cells
  rw [hcs] at he hc
  exact ⟨b, off, _, _, _, _, _, _, _, _, _, hp, hb, he, hc 0 _ rfl, hc 1 _ rfl, hc 2 _ rfl, hc 3 _ rfl, hc 4 _ rfl, hc 5 _ rfl, hc 6 _ rfl, hc 7 _ rfl, hc 8 _ rfl⟩

end Go.Proofs.YtfmolimnnheaoaaGreat

/- The order of strings. No program here. -/
namespace Go.Proofs.YtfmolimnnheaoaaGreat
open Go.RowKit
set_option linter.unusedSimpArgs false
set_option linter.unusedVariables false

theorem bl_irrefl : ∀ x : List UInt8, Op.bytesLess x x = false
  | [] => rfl
  | a :: x => by simp [Op.bytesLess, bl_irrefl x]
theorem bl_tri : ∀ x y : List UInt8, Op.bytesLess x y = true ∨ x = y ∨ Op.bytesLess y x = true
  | [], [] => .inr (.inl rfl)
  | [], _ :: _ => .inl rfl
  | _ :: _, [] => .inr (.inr rfl)
  | a :: x, b :: y => by
    simp only [Op.bytesLess, Bool.or_eq_true, Bool.and_eq_true, decide_eq_true_eq, beq_iff_eq, List.cons.injEq]
    rcases UInt8.lt_or_lt_of_ne (a := a) (b := b) |> fun f => (Classical.em (a = b)).imp id (fun h => f h) with h | h | h
    · rcases bl_tri x y with h' | h' | h'
      · exact .inl (.inr ⟨h, h'⟩)
      · exact .inr (.inl ⟨h, h'⟩)
      · exact .inr (.inr (.inr ⟨h.symm, h'⟩))
    · exact .inl (.inl h)
    · exact .inr (.inr (.inl h))
theorem bl_trans : ∀ x y z : List UInt8, Op.bytesLess x y = true → Op.bytesLess y z = true → Op.bytesLess x z = true
  | _, [], _, h, _ => by cases ‹List UInt8› <;> simp [Op.bytesLess] at h
  | _, _ :: _, [], _, h => by simp [Op.bytesLess] at h
  | [], _ :: _, _ :: _, _, _ => rfl
  | a :: x, b :: y, c :: z, h1, h2 => by
    simp only [Op.bytesLess, Bool.or_eq_true, Bool.and_eq_true, decide_eq_true_eq, beq_iff_eq] at *
    rcases h1 with h1 | ⟨rfl, h1⟩
    · rcases h2 with h2 | ⟨rfl, h2⟩
      · exact .inl (UInt8.lt_trans h1 h2)
      · exact .inl h1
    · rcases h2 with h2 | ⟨rfl, h2⟩
      · exact .inl h2
      · exact .inr ⟨rfl, bl_trans x y z h1 h2⟩

/-- Go's < on strings. -/
def sless (a b : ByteArray) : Bool := Op.bytesLess a.toList b.toList
theorem sless_def (a b : ByteArray) : Op.bytesLess a.toList b.toList = sless a b := rfl
theorem sless_irrefl (a : ByteArray) : sless a a = false := bl_irrefl _
theorem sless_trans {a b c : ByteArray} (h : sless a b = true) (h' : sless b c = true) : sless a c = true := bl_trans _ _ _ h h'
theorem sless_tri (a b : ByteArray) : sless a b = true ∨ a = b ∨ sless b a = true := by
  rcases bl_tri a.toList b.toList with h | h | h
  · exact .inl h
  · exact .inr (.inl ((toList_inj a b).1 h))
  · exact .inr (.inr h)
theorem sless_asymm {a b : ByteArray} (h : sless a b = true) : sless b a = false := by
  cases h' : sless b a with
  | false => rfl
  | true => have := sless_trans h h'; rw [sless_irrefl] at this; cases this
/-- Go's <= on strings, as the walk writes it. -/
theorem sle_eq (a b : ByteArray) : (Op.bytesLess a.toList b.toList || a.toList == b.toList) = !sless b a := by
  rw [sless_def, toList_beq]
  rcases sless_tri a b with h | h | h
  · rw [h, sless_asymm h]; rfl
  · subst h; rw [sless_irrefl]; simp
  · rw [h, sless_asymm h]
    have : ¬ a = b := by intro e; subst e; rw [sless_irrefl] at h; cases h
    simp [this]
theorem sle_true {a b : ByteArray} (h : Op.bytesLess a.toList b.toList = true ∨ (a.toList == b.toList) = true) : sless b a = false := by
  have := sle_eq a b
  rw [show (Op.bytesLess a.toList b.toList || a.toList == b.toList) = true by simp only [Bool.or_eq_true]; exact h] at this
  cases h' : sless b a with
  | false => rfl
  | true => rw [h'] at this; cases this
theorem sle_false {a b : ByteArray} (h : Op.bytesLess a.toList b.toList = false ∧ (a.toList == b.toList) = false) : sless b a = true := by
  have := sle_eq a b
  rw [h.1, h.2] at this
  cases h' : sless b a with
  | true => rfl
  | false => rw [h'] at this; cases this
theorem sless_empty {s : ByteArray} (h : 1 ≤ s.size) : sless ByteArray.empty s = true := by
  unfold sless
  rw [ByteArray.toList_eq, ByteArray.toList_eq]
  obtain ⟨⟨l⟩⟩ := s
  cases l with
  | nil => simp [ByteArray.size] at h
  | cons x l => rfl

/-- The text before place `k`. -/
def lastOf (l : List ByteArray) (k : Nat) : ByteArray := if k = 0 then ByteArray.empty else l.getD (k - 1) ByteArray.empty
theorem lastOf_zero (l : List ByteArray) : lastOf l 0 = ByteArray.empty := rfl
theorem lastOf_succ {l : List ByteArray} {k : Nat} (h : k < l.length) : lastOf l (k + 1) = l[k] := by
  unfold lastOf; rw [if_neg (by omega), List.getD_eq_getElem?_getD]; simp [h]

end Go.Proofs.YtfmolimnnheaoaaGreat

/- A board of many queries, as plain functions by the document: queries by number, subscribers by number. (For SubsScript.) No program here. -/
namespace Go.Proofs.YtfmolimnnheaoaaGreat
open Go.RowKit
set_option linter.unusedSimpArgs false
set_option linter.unusedVariables false

/-- What a query came to at a time. -/
structure Tl (R : Type) where
  time : Int
  res : R
structure Qy (R : Type) where
  id : Int
  l : List (Tl R)
  last : Int
  floor : Int
structure Su where
  id : Int
  query : Int
  cursor : Int
  acked : Int
/-- Its room, its queries by number, its subscribers by number, the last subscriber's number. -/
structure Brd (R : Type) where
  room : Int
  q : List (Qy R)
  s : List Su
  id : Int
def maxG : Int := 1099511627776
section
variable {R : Type}
def findQ (b : Brd R) (id : Int) : Option (Qy R) := b.q.find? fun x => x.id == id
def findU (b : Brd R) (n : Int) : Option Su := b.s.find? fun s => s.id == n
def ofG (b : Brd R) (id : Int) : List Su := b.s.filter fun s => s.query == id
def settleAt (b : Brd R) (x : Qy R) : Int := (ofG b x.id).foldl (fun m s => min m s.acked) x.last
def turnQ (id : Int) (f : Qy R → Qy R) (l : List (Qy R)) : List (Qy R) := l.map fun x => if x.id = id then f x else x
def turnU (n : Int) (f : Su → Su) (l : List Su) : List Su := l.map fun s => if s.id = n then f s else s
def letQ (t : Int) (x : Qy R) : Qy R := if x.floor < t then { x with floor := t, l := x.l.filter fun y => decide (t < y.time) } else x
def letG (b : Brd R) (id : Int) : Brd R := match findQ b id with
  | none => b
  | some x => { b with q := turnQ id (letQ (settleAt b x)) b.q }
def openG (b : Brd R) (id mark : Int) : Brd R × Int := if id < 1 ∨ mark < 0 ∨ maxG < mark then (b, 2) else match findQ b id with
  | some _ => (b, 7)
  | none => ({ b with q := (b.q.takeWhile fun x => decide (x.id < id)) ++ ⟨id, [], mark, mark⟩ :: b.q.dropWhile fun x => decide (x.id < id) }, 0)
def closeG (b : Brd R) (id : Int) : Brd R × Int := match findQ b id with
  | none => (b, 6)
  | some _ => ({ b with q := b.q.filter fun x => x.id != id, s := b.s.filter fun s => s.query != id }, 0)
def putG (chk : R → Int) (b : Brd R) (id : Int) (t : Tl R) : Brd R × Int := match findQ b id with
  | none => (b, 6)
  | some x => if chk t.res ≠ 0 then (b, chk t.res) else if t.time < 1 ∨ maxG < t.time then (b, 2) else if t.time ≤ x.last then (b, 8) else if b.room ≤ (x.l.length : Int) then (b, 9)
    else (letG { b with q := turnQ id (fun x => { x with l := x.l ++ [t], last := t.time }) b.q } id, 0)
def addG (b : Brd R) (id frm : Int) : Brd R × Int × Int := if 256 ≤ b.s.length then (b, 0, 3) else ({ b with s := b.s ++ [⟨b.id + 1, id, frm, frm⟩], id := b.id + 1 }, b.id + 1, 0)
def subscribeG (b : Brd R) (id : Int) : Brd R × Int × Int := match findQ b id with
  | none => (b, 0, 6)
  | some x => addG b id x.last
def resumeG (b : Brd R) (id frm : Int) : Brd R × Int × Int := match findQ b id with
  | none => (b, 0, 6)
  | some x => if frm < 0 ∨ maxG < frm then (b, 0, 2) else if frm < x.floor then (b, 0, 8) else addG b id frm
def unsubG (b : Brd R) (n : Int) : Brd R × Int := match findU b n with
  | none => (b, 6)
  | some s => (letG { b with s := b.s.filter fun s => s.id != n } s.query, 0)
def handG (b : Brd R) (s : Su) (most : Int) : List (Tl R) := match findQ b s.query with
  | none => []
  | some x => (x.l.filter fun t => decide (s.cursor < t.time)).take most.toNat
def lastT (d : Int) (l : List (Tl R)) : Int := (l.map Tl.time).getLastD d
def pollG (b : Brd R) (n most : Int) : Brd R × List (Tl R) × Int := match findU b n with
  | none => (b, [], 6)
  | some s => ({ b with s := turnU n (fun v => { v with cursor := lastT v.cursor (handG b s most) }) b.s }, handG b s most, 0)
def backG (b : Brd R) (n : Int) : Brd R × Int := match findU b n with
  | none => (b, 6)
  | some _ => ({ b with s := turnU n (fun s => { s with cursor := s.acked }) b.s }, 0)
def ackG (b : Brd R) (n t : Int) : Brd R × Int := match findU b n with
  | none => (b, 6)
  | some s => if s.cursor < t then (b, 2) else if t < s.acked then (b, 8) else (letG { b with s := turnU n (fun s => { s with acked := t }) b.s } s.query, 0)
def settledG (b : Brd R) (id : Int) : Int := match findQ b id with
  | none => 0
  | some x => settleAt b x
def roomG (b : Brd R) (id : Int) : Int := match findQ b id with
  | none => 0
  | some x => b.room - x.l.length
def keptG (b : Brd R) (id : Int) : List (Tl R) := match findQ b id with
  | none => []
  | some x => x.l
/-! ### what holds of it -/
def RiseT (l : List (Tl R)) : Prop := l.Pairwise fun a b => a.time < b.time
structure QOk (room : Int) (x : Qy R) : Prop where
  id : 1 ≤ x.id
  rise : RiseT x.l
  pos : ∀ t ∈ x.l, 1 ≤ t.time
  last : ∀ t ∈ x.l, t.time ≤ x.last
  bd : (0 ≤ x.last ∧ x.last ≤ maxG) ∧ 0 ≤ x.floor ∧ x.floor ≤ maxG
  room : (x.l.length : Int) ≤ room
structure UOk (b : Brd R) (s : Su) : Prop where
  id : 1 ≤ s.id ∧ s.id ≤ b.id
  bd : (0 ≤ s.cursor ∧ s.cursor ≤ maxG) ∧ 0 ≤ s.acked ∧ s.acked ≤ maxG
  there : ∃ x ∈ b.q, x.id = s.query
structure GInv (b : Brd R) : Prop where
  room : 1 ≤ b.room ∧ b.room ≤ 4096
  qs : (b.q.map Qy.id).Pairwise (· < ·)
  ss : (b.s.map Su.id).Pairwise (· < ·)
  qok : ∀ x ∈ b.q, QOk b.room x
  uok : ∀ s ∈ b.s, UOk b s
  few : b.s.length ≤ 256
  id0 : 0 ≤ b.id
theorem RiseT.filter {l : List (Tl R)} (h : RiseT l) (p : Tl R → Bool) : RiseT (l.filter p) := List.Pairwise.filter p h
theorem findQ_some {b : Brd R} {id : Int} {x : Qy R} (h : findQ b id = some x) : x ∈ b.q ∧ x.id = id := by
  unfold findQ at h
  refine ⟨List.mem_of_find?_eq_some h, ?_⟩
  have := List.find?_some h
  simpa using this
theorem findU_some {b : Brd R} {n : Int} {s : Su} (h : findU b n = some s) : s ∈ b.s ∧ s.id = n := by
  unfold findU at h
  refine ⟨List.mem_of_find?_eq_some h, ?_⟩
  have := List.find?_some h
  simpa using this
theorem fold_min (l : List Su) : ∀ a : Int, (l.foldl (fun m s => min m s.acked) a ≤ a ∧ ∀ s ∈ l, l.foldl (fun m s => min m s.acked) a ≤ s.acked) ∧ ∀ z : Int, z ≤ a → (∀ s ∈ l, z ≤ s.acked) → z ≤ l.foldl (fun m s => min m s.acked) a := by
  induction l with
  | nil => intro a; exact ⟨⟨Int.le_refl _, fun s h => by cases h⟩, fun z h _ => h⟩
  | cons x l ih =>
    intro a
    obtain ⟨⟨h1, h2⟩, h3⟩ := ih (min a x.acked)
    refine ⟨⟨by rw [List.foldl_cons]; omega, fun s hs => ?_⟩, fun z hz hs => ?_⟩
    · rw [List.foldl_cons]
      rcases List.mem_cons.1 hs with rfl | hs
      · omega
      · exact h2 s hs
    · rw [List.foldl_cons]
      exact h3 z (by have := hs x (by simp); omega) (fun s h => hs s (by simp [h]))
theorem turnQ_ids (id : Int) (f : Qy R → Qy R) (hf : ∀ x, (f x).id = x.id) (l : List (Qy R)) : (turnQ id f l).map Qy.id = l.map Qy.id := by
  unfold turnQ
  rw [List.map_map]
  refine List.map_congr_left fun x _ => ?_
  simp only [Function.comp]
  split
  · exact hf x
  · rfl
theorem turnU_ids (n : Int) (f : Su → Su) (hf : ∀ s, (f s).id = s.id) (l : List Su) : (turnU n f l).map Su.id = l.map Su.id := by
  unfold turnU
  rw [List.map_map]
  refine List.map_congr_left fun x _ => ?_
  simp only [Function.comp]
  split
  · exact hf x
  · rfl
theorem letQ_id (t : Int) (x : Qy R) : (letQ t x).id = x.id := by unfold letQ; split <;> rfl
theorem letQ_last (t : Int) (x : Qy R) : (letQ t x).last = x.last := by unfold letQ; split <;> rfl
theorem letQ_ok {room t : Int} {x : Qy R} (h : QOk room x) (ht : t ≤ maxG) : QOk room (letQ t x) := by
  unfold letQ
  split
  · rename_i hlt
    have := h.bd
    refine ⟨h.id, h.rise.filter _, fun y hy => h.pos y (List.mem_filter.1 hy).1, fun y hy => h.last y (List.mem_filter.1 hy).1, ⟨h.bd.1, by simp only; omega⟩, ?_⟩
    have h1 : (x.l.filter fun y => decide (t < y.time)).length ≤ x.l.length := List.length_filter_le _ _
    have := h.room
    simp only
    omega
  · exact h
theorem GInv.turnQ {b : Brd R} (h : GInv b) (id : Int) {f : Qy R → Qy R} (hid : ∀ x, (f x).id = x.id) (hok : ∀ x ∈ b.q, x.id = id → QOk b.room (f x)) : GInv { b with q := turnQ id f b.q } := by
  refine ⟨h.room, by rw [turnQ_ids id f hid]; exact h.qs, h.ss, fun y hy => ?_, fun s hs => ?_, h.few, h.id0⟩
  · obtain ⟨x, hx, rfl⟩ := List.mem_map.1 hy
    split
    · rename_i e; exact hok x hx e
    · exact h.qok x hx
  · obtain ⟨h1, h2, x, hx, e⟩ := h.uok s hs
    refine ⟨h1, h2, _, List.mem_map.2 ⟨x, hx, rfl⟩, ?_⟩
    split
    · rw [hid]; exact e
    · exact e
theorem GInv.turnU {b : Brd R} (h : GInv b) (n : Int) {f : Su → Su} (hid : ∀ s, (f s).id = s.id ∧ (f s).query = s.query) (hok : ∀ s ∈ b.s, s.id = n → ((0 ≤ (f s).cursor ∧ (f s).cursor ≤ maxG) ∧ 0 ≤ (f s).acked ∧ (f s).acked ≤ maxG)) : GInv { b with s := turnU n f b.s } := by
  refine ⟨h.room, h.qs, by rw [turnU_ids n f (fun s => (hid s).1)]; exact h.ss, h.qok, fun y hy => ?_, by unfold Go.Proofs.YtfmolimnnheaoaaGreat.turnU; rw [List.length_map]; exact h.few, h.id0⟩
  obtain ⟨s, hs, rfl⟩ := List.mem_map.1 hy
  obtain ⟨h1, h2, x, hx, e⟩ := h.uok s hs
  split
  · rename_i e2
    exact ⟨by rw [(hid s).1]; exact h1, hok s hs e2, x, hx, by rw [(hid s).2]; exact e⟩
  · exact ⟨h1, h2, x, hx, e⟩
theorem settleAt_le (b : Brd R) (x : Qy R) : settleAt b x ≤ x.last := (fold_min _ _).1.1
theorem settleAt_ge {b : Brd R} (h : GInv b) {x : Qy R} (hx : x ∈ b.q) : 0 ≤ settleAt b x := (fold_min _ _).2 0 (h.qok x hx).bd.1.1 (fun s hs => (h.uok s (List.mem_filter.1 hs).1).bd.2.1)
theorem GInv.letG {b : Brd R} (h : GInv b) (id : Int) : GInv (letG b id) := by
  unfold Go.Proofs.YtfmolimnnheaoaaGreat.letG
  split
  · exact h
  · rename_i x hf
    obtain ⟨hx, -⟩ := findQ_some hf
    exact h.turnQ id (letQ_id _) (fun y hy _ => letQ_ok (h.qok y hy) (Int.le_trans (settleAt_le b x) (h.qok x hx).bd.1.2))
theorem GInv.add {b : Brd R} (h : GInv b) {id frm : Int} (hf : 0 ≤ frm ∧ frm ≤ maxG) (hq : ∃ x ∈ b.q, x.id = id) : GInv (addG b id frm).1 := by
  unfold addG
  split
  · exact h
  · rename_i hl
    refine ⟨h.room, h.qs, ?_, h.qok, fun s hs => ?_, by simp; omega, by have := h.id0; simp only; omega⟩
    · simp only [List.map_append, List.map_cons, List.map_nil]
      refine List.pairwise_append.2 ⟨h.ss, List.pairwise_singleton _ _, fun a ha c hc => ?_⟩
      obtain ⟨s, hs, rfl⟩ := List.mem_map.1 ha
      simp at hc
      subst hc
      have := (h.uok s hs).id.2
      omega
    · rcases List.mem_append.1 hs with hs | hs
      · obtain ⟨h1, h2, h3⟩ := h.uok s hs
        exact ⟨⟨h1.1, by simp only; omega⟩, h2, h3⟩
      · simp at hs
        subst hs
        exact ⟨⟨by have := h.id0; simp only; omega, Int.le_refl _⟩, ⟨hf, hf⟩, hq⟩
theorem inv_subscribe {b : Brd R} (h : GInv b) (id : Int) : GInv (subscribeG b id).1 := by
  unfold subscribeG
  split
  · exact h
  · rename_i x hf
    obtain ⟨hx, e⟩ := findQ_some hf
    exact h.add (h.qok x hx).bd.1 ⟨x, hx, e⟩
theorem inv_resume {b : Brd R} (h : GInv b) (id frm : Int) : GInv (resumeG b id frm).1 := by
  unfold resumeG
  split
  · exact h
  · rename_i x hf
    obtain ⟨hx, e⟩ := findQ_some hf
    split
    · exact h
    · split
      · exact h
      · exact h.add ⟨by omega, by omega⟩ ⟨x, hx, e⟩
theorem inv_back {b : Brd R} (h : GInv b) (n : Int) : GInv (backG b n).1 := by
  unfold backG
  split
  · exact h
  · exact h.turnU n (fun s => ⟨rfl, rfl⟩) (fun s hs _ => ⟨(h.uok s hs).bd.2, (h.uok s hs).bd.2⟩)
theorem inv_ack {b : Brd R} (h : GInv b) (n t : Int) : GInv (ackG b n t).1 := by
  unfold ackG
  split
  · exact h
  · rename_i u hf
    obtain ⟨hu, e⟩ := findU_some hf
    split
    · exact h
    · split
      · exact h
      · have hb := (h.uok u hu).bd
        have h2 : GInv { b with s := turnU n (fun s => { s with acked := t }) b.s } := h.turnU n (fun s => ⟨rfl, rfl⟩) (fun s hs _ => ⟨(h.uok s hs).bd.1, by simp only; omega, by simp only; omega⟩)
        exact h2.letG _
theorem inv_unsub {b : Brd R} (h : GInv b) (n : Int) : GInv (unsubG b n).1 := by
  unfold unsubG
  split
  · exact h
  · have h2 : GInv { b with s := b.s.filter fun s => s.id != n } := by
      refine ⟨h.room, h.qs, ?_, h.qok, fun s hs => ?_, ?_, h.id0⟩
      · exact List.Pairwise.sublist (List.Sublist.map _ (List.filter_sublist)) h.ss
      · obtain ⟨h1, h2, h3⟩ := h.uok s (List.mem_filter.1 hs).1
        exact ⟨h1, h2, h3⟩
      · exact Nat.le_trans (List.length_filter_le _ _) h.few
    exact h2.letG _
theorem inv_close {b : Brd R} (h : GInv b) (id : Int) : GInv (closeG b id).1 := by
  unfold closeG
  split
  · exact h
  · refine ⟨h.room, List.Pairwise.sublist (List.Sublist.map _ (List.filter_sublist)) h.qs, List.Pairwise.sublist (List.Sublist.map _ (List.filter_sublist)) h.ss, fun x hx => h.qok x (List.mem_filter.1 hx).1, fun s hs => ?_, Nat.le_trans (List.length_filter_le _ _) h.few, h.id0⟩
    obtain ⟨hs1, hs2⟩ := List.mem_filter.1 hs
    obtain ⟨h1, h2, x, hx, e⟩ := h.uok s hs1
    refine ⟨h1, h2, x, List.mem_filter.2 ⟨hx, ?_⟩, e⟩
    rw [e]
    exact hs2
theorem lastT_mem (d : Int) {l : List (Tl R)} : lastT d l = d ∨ ∃ t ∈ l, lastT d l = t.time := by
  unfold lastT
  cases h : l.getLast? with
  | none =>
    rw [List.getLast?_eq_none_iff] at h
    subst h
    exact .inl rfl
  | some t =>
    refine .inr ⟨t, List.mem_of_getLast? h, ?_⟩
    rw [List.getLastD_eq_getLast?, List.getLast?_map, h]
    rfl
theorem inv_poll {b : Brd R} (h : GInv b) (n most : Int) : GInv (pollG b n most).1 := by
  unfold pollG
  split
  · exact h
  · rename_i u hf
    obtain ⟨hu, e⟩ := findU_some hf
    refine h.turnU n (fun s => ⟨rfl, rfl⟩) (fun s hs _ => ⟨?_, (h.uok s hs).bd.2⟩)
    simp only
    rcases lastT_mem s.cursor (l := handG b u most) with e2 | ⟨t, ht, e2⟩
    · rw [e2]; exact (h.uok s hs).bd.1
    · rw [e2]
      unfold handG at ht
      split at ht
      · cases ht
      · rename_i x hx
        obtain ⟨hx, -⟩ := findQ_some hx
        have ht := (List.mem_filter.1 (List.mem_of_mem_take ht)).1
        have h1 := (h.qok x hx).last t ht
        have h2 := (h.qok x hx).bd.1.2
        have h3 := (h.qok x hx).pos t ht
        exact ⟨by omega, by omega⟩
theorem rise_snoc {l : List (Tl R)} (h : RiseT l) {t : Tl R} (ht : ∀ x ∈ l, x.time < t.time) : RiseT (l ++ [t]) :=
  List.pairwise_append.2 ⟨h, List.pairwise_singleton _ _, fun a ha c hc => by simp at hc; subst hc; exact ht a ha⟩
theorem inv_put {b : Brd R} (h : GInv b) (chk : R → Int) (id : Int) (t : Tl R) : GInv (putG chk b id t).1 := by
  unfold putG
  split
  · exact h
  · rename_i x hf
    obtain ⟨hx, e⟩ := findQ_some hf
    split
    · exact h
    · split
      · exact h
      · split
        · exact h
        · split
          · exact h
          · rename_i h1 h2 h3
            have hone : ∀ y ∈ b.q, y.id = id → y = x := fun y hy ey => by
              obtain ⟨i, hi, rfl⟩ := List.getElem_of_mem hy
              obtain ⟨j, hj, rfl⟩ := List.getElem_of_mem hx
              rcases Nat.lt_trichotomy i j with hij | hij | hij
              · have := List.pairwise_iff_getElem.1 h.qs i j (by simpa using hi) (by simpa using hj) hij
                simp at this; omega
              · subst hij; rfl
              · have := List.pairwise_iff_getElem.1 h.qs j i (by simpa using hj) (by simpa using hi) hij
                simp at this; omega
            have h5 : GInv { b with q := turnQ id (fun x => { x with l := x.l ++ [t], last := t.time }) b.q } := h.turnQ id (fun _ => rfl) (fun y hy ey => by
              have hyx := hone y hy ey
              subst hyx
              have hok := h.qok y hy
              refine ⟨hok.id, rise_snoc hok.rise (fun z hz => by have := hok.last z hz; omega), fun z hz => ?_, fun z hz => ?_, ⟨⟨by simp only; omega, by simp only; omega⟩, hok.bd.2⟩, by simp; omega⟩
              · rcases List.mem_append.1 hz with hz | hz
                · exact hok.pos z hz
                · simp at hz; subst hz; omega
              rcases List.mem_append.1 hz with hz | hz
              · have := hok.last z hz; simp only; omega
              · simp at hz; subst hz; exact Int.le_refl _)
            exact h5.letG _
theorem inv_open {b : Brd R} (h : GInv b) (id mark : Int) : GInv (openG b id mark).1 := by
  unfold openG
  split
  · exact h
  · rename_i hm
    split
    · exact h
    · rename_i hf
      have hne : ∀ x ∈ b.q, x.id ≠ id := fun x hx e => by
        unfold findQ at hf
        have := List.find?_eq_none.1 hf x hx
        simp at this
        exact this e
      have hmem : ∀ y, y ∈ ((b.q.takeWhile fun x => decide (x.id < id)) ++ (⟨id, [], mark, mark⟩ : Qy R) :: b.q.dropWhile fun x => decide (x.id < id)) ↔ y = ⟨id, [], mark, mark⟩ ∨ y ∈ b.q := fun y => by
        conv => rhs; rw [← List.takeWhile_append_dropWhile (p := fun x : Qy R => decide (x.id < id)) (l := b.q)]
        simp only [List.mem_append, List.mem_cons]
        constructor
        · rintro (h | h | h)
          · exact .inr (.inl h)
          · exact .inl h
          · exact .inr (.inr h)
        · rintro (h | h | h)
          · exact .inr (.inl h)
          · exact .inl h
          · exact .inr (.inr h)
      refine ⟨h.room, ?_, h.ss, fun y hy => ?_, fun s hs => ?_, h.few, h.id0⟩
      · simp only [List.map_append, List.map_cons]
        have hq := h.qs
        generalize b.q = l at hq hne
        clear hmem hf
        induction l with
        | nil => exact List.pairwise_singleton _ _
        | cons x l ih =>
          obtain ⟨h1, h2⟩ := List.pairwise_cons.1 hq
          by_cases hx : x.id < id
          · rw [List.takeWhile_cons, if_pos (by simpa using hx), List.dropWhile_cons, if_pos (by simpa using hx), List.map_cons, List.cons_append]
            refine List.pairwise_cons.2 ⟨fun z hz => ?_, ih h2 (fun y hy => hne y (by simp [hy]))⟩
            rcases List.mem_append.1 hz with hz | hz
            · obtain ⟨y, hy, rfl⟩ := List.mem_map.1 hz
              exact h1 _ (List.mem_map.2 ⟨y, (List.takeWhile_sublist _).subset hy, rfl⟩)
            · rcases List.mem_cons.1 hz with rfl | hz
              · exact hx
              · obtain ⟨y, hy, rfl⟩ := List.mem_map.1 hz
                exact h1 _ (List.mem_map.2 ⟨y, (List.dropWhile_sublist _).subset hy, rfl⟩)
          · rw [List.takeWhile_cons, if_neg (by simpa using hx), List.dropWhile_cons, if_neg (by simpa using hx)]
            refine List.pairwise_cons.2 ⟨fun z hz => ?_, hq⟩
            have hxn := hne x (by simp)
            simp only [List.map_cons] at hz
            rcases List.mem_cons.1 hz with rfl | hz
            · show id < x.id; omega
            · have := h1 z hz
              show id < z; omega
      · rcases (hmem y).1 hy with rfl | hy
        · have hr := h.room
          have h0 : 0 ≤ mark ∧ mark ≤ maxG := ⟨by omega, by omega⟩
          exact ⟨(show (1 : Int) ≤ id by omega), List.Pairwise.nil, (fun t ht => by cases ht), (fun t ht => by cases ht), ⟨h0, h0⟩, (show ((0 : Nat) : Int) ≤ b.room by omega)⟩
        · exact h.qok y hy
      · obtain ⟨h1, h2, x, hx, e⟩ := h.uok s hs
        exact ⟨h1, h2, x, (hmem x).2 (.inr hx), e⟩
end
end Go.Proofs.YtfmolimnnheaoaaGreat

/- Lists by number: what stands at a place, what is turned, taken out, put in; the kept list above a time. (For SubsScript.) No program here. -/
namespace Go.Proofs.YtfmolimnnheaoaaGreat
open Go.RowKit
set_option linter.unusedSimpArgs false
set_option linter.unusedVariables false

section
variable {α : Type} {key : α → Int}
theorem at_one {l : List α} (h : (l.map key).Pairwise (· < ·)) {i j : Nat} {x y : α} (hi : l[i]? = some x) (hj : l[j]? = some y) (e : key x = key y) : i = j := by
  obtain ⟨hi1, rfl⟩ := List.getElem?_eq_some_iff.1 hi
  obtain ⟨hj1, rfl⟩ := List.getElem?_eq_some_iff.1 hj
  rcases Nat.lt_trichotomy i j with hij | hij | hij
  · have := List.pairwise_iff_getElem.1 h i j (by rw [List.length_map]; exact hi1) (by rw [List.length_map]; exact hj1) hij
    simp only [List.getElem_map] at this; omega
  · exact hij
  · have := List.pairwise_iff_getElem.1 h j i (by rw [List.length_map]; exact hj1) (by rw [List.length_map]; exact hi1) hij
    simp only [List.getElem_map] at this; omega
theorem turn_set {l : List α} (h : (l.map key).Pairwise (· < ·)) {i : Nat} {x : α} (hi : l[i]? = some x) {n : Int} (e : key x = n) (f : α → α) : (l.map fun y => if key y = n then f y else y) = l.set i (f x) := by
  apply List.ext_getElem?
  intro j
  rw [List.getElem?_map, List.getElem?_set]
  by_cases hij : i = j
  · subst hij
    rw [hi, if_pos rfl, if_pos (List.getElem?_eq_some_iff.1 hi).1]
    simp [e]
  · rw [if_neg hij]
    cases hj : l[j]? with
    | none => rfl
    | some y =>
      have : ¬ key y = n := fun e2 => hij (at_one h hi hj (e.trans e2.symm))
      simp [this]
theorem gone_cut {l : List α} (h : (l.map key).Pairwise (· < ·)) {i : Nat} {x : α} (hi : l[i]? = some x) {n : Int} (e : key x = n) : (l.filter fun y => key y != n) = l.take i ++ l.drop (i + 1) := by
  obtain ⟨hil, rfl⟩ := List.getElem?_eq_some_iff.1 hi
  have hsp : l = l.take i ++ l[i] :: l.drop (i + 1) := by
    rw [← List.drop_eq_getElem_cons hil, List.take_append_drop]
  have h1 : ∀ y ∈ l.take i, (key y != n) = true := fun y hy => by
    obtain ⟨j, hj, rfl⟩ := List.getElem_of_mem hy
    rw [List.length_take] at hj
    have hjl : j < l.length := by omega
    simp only [List.getElem_take, bne_iff_ne, ne_eq]
    intro e2
    have := at_one h (i := j) (j := i) (List.getElem?_eq_getElem hjl) hi (e2.trans e.symm)
    omega
  have h2 : ∀ y ∈ l.drop (i + 1), (key y != n) = true := fun y hy => by
    obtain ⟨j, hj, rfl⟩ := List.getElem_of_mem hy
    rw [List.length_drop] at hj
    have hjl : i + 1 + j < l.length := by omega
    simp only [List.getElem_drop, bne_iff_ne, ne_eq]
    intro e2
    have := at_one h (i := i + 1 + j) (j := i) (List.getElem?_eq_getElem hjl) hi (e2.trans e.symm)
    omega
  conv => lhs; rw [hsp]
  rw [List.filter_append, List.filter_cons, if_neg (by simp [e]), List.filter_eq_self.2 h1, List.filter_eq_self.2 h2]
/-- The first place whose number is not below n. -/
def placeN (key : α → Int) (n : Int) (l : List α) : Nat := (l.takeWhile fun x => decide (key x < n)).length
theorem place_le (n : Int) (l : List α) : placeN key n l ≤ l.length := by
  unfold placeN
  exact (List.takeWhile_sublist _).length_le
theorem place_below {n : Int} : ∀ {l : List α} {j : Nat} {y : α}, l[j]? = some y → j < placeN key n l → key y < n
  | [], j, y, h, _ => by simp at h
  | x :: l, j, y, h, hj => by
    unfold placeN at hj
    rw [List.takeWhile_cons] at hj
    by_cases hx : key x < n
    · rw [if_pos (by simpa using hx), List.length_cons] at hj
      cases j with
      | zero => simp at h; subst h; exact hx
      | succ j => exact place_below (l := l) (j := j) (by simpa using h) (by unfold placeN; omega)
    · rw [if_neg (by simpa using hx)] at hj
      simp at hj
theorem place_at {n : Int} : ∀ {l : List α} {y : α}, l[placeN key n l]? = some y → ¬ key y < n
  | [], y, h => by simp at h
  | x :: l, y, h => by
    by_cases hx : key x < n
    · have e : placeN key n (x :: l) = placeN key n l + 1 := by
        unfold placeN
        rw [List.takeWhile_cons, if_pos (by simpa using hx), List.length_cons]
      rw [e, List.getElem?_cons_succ] at h
      exact place_at h
    · have e : placeN key n (x :: l) = 0 := by
        unfold placeN
        rw [List.takeWhile_cons, if_neg (by simpa using hx)]
        rfl
      rw [e] at h
      simp at h
      subst h
      exact hx
theorem place_find {l : List α} (h : (l.map key).Pairwise (· < ·)) {n : Int} : (l.find? fun x => key x == n) = match l[placeN key n l]? with
  | some x => if key x = n then some x else none
  | none => none := by
  cases hp : l[placeN key n l]? with
  | none =>
    simp only
    rw [List.find?_eq_none]
    intro x hx
    obtain ⟨j, hj, rfl⟩ := List.getElem_of_mem hx
    have hpl := List.getElem?_eq_none_iff.1 hp
    have := place_below (key := key) (n := n) (List.getElem?_eq_getElem hj) (by omega)
    simp; omega
  | some x =>
    simp only
    have hnb := place_at hp
    by_cases e : key x = n
    · rw [if_pos e]
      rw [List.find?_eq_some_iff_getElem]
      obtain ⟨hl, hx⟩ := List.getElem?_eq_some_iff.1 hp
      refine ⟨by simpa using e, _, hl, hx, fun j hj => ?_⟩
      have := place_below (key := key) (n := n) (List.getElem?_eq_getElem (show j < l.length by omega)) hj
      simp; omega
    · rw [if_neg e, List.find?_eq_none]
      intro y hy
      obtain ⟨j, hj, rfl⟩ := List.getElem_of_mem hy
      obtain ⟨hl, hx⟩ := List.getElem?_eq_some_iff.1 hp
      rcases Nat.lt_trichotomy j (placeN key n l) with hjp | hjp | hjp
      · have := place_below (key := key) (n := n) (List.getElem?_eq_getElem hj) hjp
        simp; omega
      · subst hjp
        rw [hx]; simpa using e
      · have := List.pairwise_iff_getElem.1 h (placeN key n l) j (by simpa using hl) (by simpa using hj) hjp
        simp only [List.getElem_map] at this
        rw [hx] at this
        simp; omega
end
section
variable {R : Type}
theorem drop_aboveT {l : List (Tl R)} (h : RiseT l) (t : Int) : l.drop (l.takeWhile fun x => decide (x.time ≤ t)).length = l.filter fun x => decide (t < x.time) := by
  induction l with
  | nil => rfl
  | cons x l ih =>
    obtain ⟨h1, h2⟩ := List.pairwise_cons.1 h
    by_cases hx : x.time ≤ t
    · rw [List.takeWhile_cons, if_pos (by simpa using hx), List.length_cons, List.drop_succ_cons, ih h2, List.filter_cons, if_neg (by simp; omega)]
    · rw [List.takeWhile_cons, if_neg (by simpa using hx), List.length_nil, List.drop_zero, List.filter_cons, if_pos (by simp; omega)]
      congr 1
      refine (List.filter_eq_self.2 fun y hy => ?_).symm
      have := h1 y hy
      simp; omega
/-- Poll by the document, place by place. -/
theorem poll_step {α : Type} {p : α → Bool} {l : List α} {m k : Nat} {x : α} (hx : l[k]? = some x) (hm : ((l.take k).filter p).length < m) : ((l.take (k + 1)).filter p).take m = ((l.take (k + 1)).filter p) ∧ ((l.take (k + 1)).filter p) = ((l.take k).filter p) ++ if p x then [x] else [] := by
  obtain ⟨hk, rfl⟩ := List.getElem?_eq_some_iff.1 hx
  have e : (l.take (k + 1)).filter p = ((l.take k).filter p) ++ if p l[k] then [l[k]] else [] := by
    rw [List.take_succ_eq_append_getElem hk, List.filter_append]
    congr 1
    rw [List.filter_cons, List.filter_nil]
  refine ⟨List.take_of_length_le ?_, e⟩
  rw [e, List.length_append]
  split <;> simp <;> omega
theorem poll_full {α : Type} {p : α → Bool} {l : List α} {m k : Nat} (hm : ((l.take k).filter p).length = m) : (l.filter p).take m = (l.take k).filter p := by
  conv => lhs; rw [← List.take_append_drop k l, List.filter_append]
  rw [← hm, List.take_left]
end
end Go.Proofs.YtfmolimnnheaoaaGreat

/- The program's forms of what a board does: where what is kept above a time begins, what is handed, what is let go. (For SubsScript.) No program here. -/
namespace Go.Proofs.YtfmolimnnheaoaaGreat
open Go.RowKit
set_option linter.unusedSimpArgs false
set_option linter.unusedVariables false

section
variable {R : Type}
/-- How many of a list stand at or below a time (the list rises). -/
def aboveT (l : List (Tl R)) (t : Int) : Nat := (l.takeWhile fun x => decide (x.time ≤ t)).length
theorem aboveT_le (l : List (Tl R)) (t : Int) : aboveT l t ≤ l.length := by
  unfold aboveT
  exact (List.takeWhile_sublist _).length_le
theorem drop_aboveT' {l : List (Tl R)} (h : RiseT l) (t : Int) : l.drop (aboveT l t) = l.filter fun x => decide (t < x.time) := drop_aboveT h t
theorem letQ_drop {room : Int} {x : Qy R} (h : QOk room x) (t : Int) : letQ t x = if x.floor < t then { x with floor := t, l := x.l.drop (aboveT x.l t) } else x := by
  unfold letQ
  rw [drop_aboveT' h.rise]
theorem handG_drop {b : Brd R} (h : GInv b) {s : Su} {x : Qy R} (hf : findQ b s.query = some x) (most : Int) : handG b s most = (x.l.drop (aboveT x.l s.cursor)).take (max 0 most).toNat := by
  have hx := (findQ_some hf).1
  unfold handG
  rw [hf, drop_aboveT' (h.qok x hx).rise]
  show _ = List.take _ _
  rw [show (max 0 most).toNat = most.toNat by omega]
/-- The place that a search finds is the place where what stands above begins. -/
theorem above_atT {l : List (Tl R)} {t : Int} {k : Nat} (hk : k ≤ l.length) (h : ∀ j x, l[j]? = some x → (x.time < t ↔ j < k)) (hr : RiseT l) : (if (l[k]?.map Tl.time) = some t then k + 1 else k) = aboveT l t := by
  have key : ∀ (l : List (Tl R)) (m : Nat), m ≤ l.length → (∀ j x, l[j]? = some x → (x.time ≤ t ↔ j < m)) → aboveT l t = m := by
    intro l
    induction l with
    | nil => intro m hm _; simp at hm; subst hm; rfl
    | cons x l ih =>
      intro m hm h
      unfold aboveT
      rw [List.takeWhile_cons]
      by_cases hx : x.time ≤ t
      · rw [if_pos (by simpa using hx), List.length_cons]
        have h0 := (h 0 x rfl).1 hx
        have := ih (m - 1) (by simp at hm; omega) (fun j y hy => by have := h (j + 1) y (by simpa using hy); rw [this]; omega)
        unfold aboveT at this
        omega
      · rw [if_neg (by simpa using hx)]
        have h0 : ¬ (0 < m) := fun h0 => hx ((h 0 x rfl).2 h0)
        simp; omega
  have mono : ∀ {i j : Nat} {x y : Tl R}, l[i]? = some x → l[j]? = some y → i < j → x.time < y.time := fun {i j x y} hi hj hij => by
    obtain ⟨hi1, rfl⟩ := List.getElem?_eq_some_iff.1 hi
    obtain ⟨hj1, rfl⟩ := List.getElem?_eq_some_iff.1 hj
    exact List.pairwise_iff_getElem.1 hr i j hi1 hj1 hij
  cases hlk : l[k]? with
  | none =>
    have hkl := List.getElem?_eq_none_iff.1 hlk
    rw [if_neg (by simp)]
    refine (key l k hk fun j x hx => ?_).symm
    have hj := (List.getElem?_eq_some_iff.1 hx).1
    have h1 := (h j x hx).2 (by omega)
    exact ⟨fun _ => by omega, fun _ => by omega⟩
  | some y =>
    have hkl := (List.getElem?_eq_some_iff.1 hlk).1
    by_cases ht : y.time = t
    · rw [if_pos (by simp [ht])]
      refine (key l (k + 1) (by omega) fun j x hx => ?_).symm
      constructor
      · intro h2
        rcases Nat.lt_or_ge j (k + 1) with h3 | h3
        · exact h3
        · have := mono hlk hx (by omega); omega
      · intro h2
        rcases Nat.lt_or_ge j k with h3 | h3
        · have := (h j x hx).2 h3; omega
        · have : j = k := by omega
          subst this
          rw [hlk] at hx
          cases hx
          omega
    · rw [if_neg (by simpa using ht)]
      refine (key l k hk fun j x hx => ?_).symm
      constructor
      · intro h2
        rcases Int.lt_or_eq_of_le h2 with h3 | h3
        · exact (h j x hx).1 h3
        · rcases Nat.lt_trichotomy j k with h4 | h4 | h4
          · exact h4
          · subst h4; rw [hlk] at hx; cases hx; exact absurd h3 ht
          · exfalso
            have h5 := mono hlk hx h4
            have := (h k y hlk).1 (by omega)
            omega
      · intro h2; have := (h j x hx).2 h2; omega
theorem fold_filter (p : Su → Bool) (l : List Su) : ∀ a : Int, (l.filter p).foldl (fun m s => min m s.acked) a = l.foldl (fun m s => if p s then min m s.acked else m) a := by
  induction l with
  | nil => intro a; rfl
  | cons s l ih =>
    intro a
    rw [List.filter_cons, List.foldl_cons]
    by_cases h : p s = true
    · rw [if_pos h, if_pos h, List.foldl_cons, ih]
    · rw [if_neg h, if_neg h, ih]
/-- What Put adds, before what is settled is let go. -/
theorem inv_put_mid {b : Brd R} (h : GInv b) {id : Int} {x : Qy R} (hf : findQ b id = some x) {t : Tl R} (h1 : 1 ≤ t.time ∧ t.time ≤ maxG) (h2 : x.last < t.time) (h3 : (x.l.length : Int) < b.room) :
    GInv { b with q := turnQ id (fun x => { x with l := x.l ++ [t], last := t.time }) b.q } := by
  obtain ⟨hx, e⟩ := findQ_some hf
  refine h.turnQ id (fun _ => rfl) (fun y hy ey => ?_)
  have hyx : y = x := by
    obtain ⟨i, hi, rfl⟩ := List.getElem_of_mem hy
    obtain ⟨j, hj, rfl⟩ := List.getElem_of_mem hx
    have := at_one h.qs (List.getElem?_eq_getElem hi) (List.getElem?_eq_getElem hj) (by rw [ey, e])
    subst this; rfl
  subst hyx
  have hok := h.qok y hy
  refine ⟨hok.id, rise_snoc hok.rise (fun z hz => by have := hok.last z hz; omega), fun z hz => ?_, fun z hz => ?_, ⟨⟨by simp only; omega, by simp only; omega⟩, hok.bd.2⟩, by simp; omega⟩
  · rcases List.mem_append.1 hz with hz | hz
    · exact hok.pos z hz
    · simp at hz; subst hz; omega
  · rcases List.mem_append.1 hz with hz | hz
    · have := hok.last z hz; simp only; omega
    · simp at hz; subst hz; exact Int.le_refl _
end
end Go.Proofs.YtfmolimnnheaoaaGreat

/- A board of one query whose results are empty, as plain functions; what a subscriber from the beginning is handed. No program here. -/
namespace Go.Proofs.YtfmolimnnheaoaaGreat
open Go.RowKit
set_option linter.unusedSimpArgs false
set_option linter.unusedVariables false

/-- A subscriber. -/
structure Sb where
  id : Int
  cursor : Int
  acked : Int
/-- The board: its room, the query's times that are kept, its last time and its floor, its subscribers by number, the next number. -/
structure Bd where
  room : Int
  kept : List Int
  last : Int
  floor : Int
  subs : List Sb
  next : Int
def settledB (b : Bd) : Int := b.subs.foldl (fun m s => min m s.acked) b.last
/-- How many times of a list stand at or below a time (the list rises). -/
def aboveN (l : List Int) (t : Int) : Nat := (l.takeWhile fun x => decide (x ≤ t)).length
def letGoB (b : Bd) : Bd := if b.floor < settledB b then { b with floor := settledB b, kept := b.kept.drop (aboveN b.kept (settledB b)) } else b
def maxTimeB : Int := 1099511627776
def putB (b : Bd) (t : Int) : Bd × Int :=
  if t < 1 ∨ maxTimeB < t then (b, 2) else if t ≤ b.last then (b, 8) else if b.room ≤ (b.kept.length : Int) then (b, 9) else (letGoB { b with kept := b.kept ++ [t], last := t }, 0)
def joinB (b : Bd) (frm : Int) : Bd × Int × Int := if 256 ≤ b.subs.length then (b, 0, 3) else ({ b with subs := b.subs ++ [⟨b.next, frm, frm⟩], next := b.next + 1 }, b.next, 0)
def resumeB (b : Bd) (frm : Int) : Bd × Int × Int := if frm < 0 ∨ maxTimeB < frm then (b, 0, 2) else if frm < b.floor then (b, 0, 8) else joinB b frm
def findB (b : Bd) (n : Int) : Option Sb := b.subs.find? fun s => s.id == n
def unsubB (b : Bd) (n : Int) : Bd × Int := match findB b n with
  | none => (b, 6)
  | some _ => (letGoB { b with subs := b.subs.filter fun s => s.id != n }, 0)
/-- One subscriber turned. -/
def turnS (n : Int) (f : Sb → Sb) (l : List Sb) : List Sb := l.map fun s => if s.id = n then f s else s
/-- What a subscriber is handed. -/
def handed (b : Bd) (s : Sb) (most : Int) : List Int := (b.kept.drop (aboveN b.kept s.cursor)).take (max 0 most).toNat
def pollB (b : Bd) (n most : Int) : Bd × List Int × Int := match findB b n with
  | none => (b, [], 6)
  | some s => ({ b with subs := turnS n (fun s => { s with cursor := (handed b s most).getLastD s.cursor }) b.subs }, handed b s most, 0)
def backB (b : Bd) (n : Int) : Bd × Int := match findB b n with
  | none => (b, 6)
  | some _ => ({ b with subs := turnS n (fun s => { s with cursor := s.acked }) b.subs }, 0)
def ackB (b : Bd) (n t : Int) : Bd × Int := match findB b n with
  | none => (b, 6)
  | some s => if s.cursor < t then (b, 2) else if t < s.acked then (b, 8) else (letGoB { b with subs := turnS n (fun s => { s with acked := t }) b.subs }, 0)

/-! ### what holds of it -/
/-- Times that rise. -/
def Rise (l : List Int) : Prop := l.Pairwise (· < ·)
/-- All that was put that stands above the floor is kept; the first subscriber stands where it stands. -/
structure BInv (b : Bd) (put : List Int) (cur ack : Int) : Prop where
  rise : Rise put
  pos : ∀ t ∈ put, 0 < t
  last : ∀ t ∈ put, t ≤ b.last
  last0 : 0 ≤ b.last
  kept : b.kept = put.filter fun t => decide (b.floor < t)
  floor0 : 0 ≤ b.floor
  one : ∀ s ∈ b.subs, s.id = 1 → s.cursor = cur ∧ s.acked = ack
  there : ∃ s ∈ b.subs, s.id = 1
  ids : (b.subs.map Sb.id).Pairwise (· < ·)
  next : ∀ s ∈ b.subs, s.id < b.next
  low : b.floor ≤ ack ∧ ack ≤ cur ∧ cur ≤ b.last
theorem foldl_min (l : List Sb) : ∀ a : Int, l.foldl (fun m s => min m s.acked) a ≤ a ∧ ∀ s ∈ l, l.foldl (fun m s => min m s.acked) a ≤ s.acked := by
  induction l with
  | nil => intro a; exact ⟨Int.le_refl _, fun s h => by cases h⟩
  | cons x l ih =>
    intro a
    obtain ⟨h1, h2⟩ := ih (min a x.acked)
    refine ⟨by simp only [List.foldl_cons]; omega, fun s hs => ?_⟩
    simp only [List.foldl_cons]
    rcases List.mem_cons.1 hs with rfl | hs
    · omega
    · exact h2 s hs
theorem settled_le (b : Bd) : settledB b ≤ b.last ∧ ∀ s ∈ b.subs, settledB b ≤ s.acked := foldl_min b.subs b.last
/-- In a list that rises, what stands above a time stands behind what does not. -/
theorem drop_above {l : List Int} (h : Rise l) (t : Int) : l.drop (aboveN l t) = l.filter fun x => decide (t < x) := by
  unfold aboveN
  induction l with
  | nil => rfl
  | cons x l ih =>
    obtain ⟨h1, h2⟩ := List.pairwise_cons.1 h
    by_cases hx : x ≤ t
    · rw [List.takeWhile_cons, if_pos (by simpa using hx), List.length_cons, List.drop_succ_cons, ih h2, List.filter_cons, if_neg (by simp; omega)]
    · rw [List.takeWhile_cons, if_neg (by simpa using hx), List.length_nil, List.drop_zero, List.filter_cons, if_pos (by simp; omega)]
      congr 1
      refine (List.filter_eq_self.2 fun y hy => ?_).symm
      have := h1 y hy
      simp; omega
theorem Rise.filter {l : List Int} (h : Rise l) (p : Int → Bool) : Rise (l.filter p) := List.Pairwise.filter p h
theorem letGo_keeps {b : Bd} {put : List Int} {cur ack : Int} (h : BInv b put cur ack) : BInv (letGoB b) put cur ack := by
  unfold letGoB
  split
  · rename_i hlt
    obtain ⟨s, hs, hid⟩ := h.there
    have h1 := (settled_le b).2 s hs
    have h2 := (h.one s hs hid).2
    refine ⟨h.rise, h.pos, h.last, h.last0, ?_, by have := h.floor0; show 0 ≤ settledB b; omega, h.one, h.there, h.ids, h.next, ?_⟩
    · show b.kept.drop (aboveN b.kept (settledB b)) = put.filter fun t => decide (settledB b < t)
      rw [drop_above (by rw [h.kept]; exact h.rise.filter _), h.kept, List.filter_filter]
      refine List.filter_congr fun t _ => ?_
      by_cases ht : settledB b < t
      · simp [ht]; omega
      · simp [ht]
    · have := h.low
      show settledB b ≤ ack ∧ _
      exact ⟨by omega, this.2⟩
  · exact h
end Go.Proofs.YtfmolimnnheaoaaGreat

/- What the first subscriber of a board is handed is what was put, in order. No program here. -/
namespace Go.Proofs.YtfmolimnnheaoaaGreat
open Go.RowKit
set_option linter.unusedSimpArgs false
set_option linter.unusedVariables false

theorem last_take {l : List Int} {k : Nat} (hk : k < l.length) (d : Int) : (l.take (k + 1)).getLastD d = l[k] := by
  rw [List.take_succ_eq_append_getElem hk, List.getLastD_eq_getLast?, List.getLast?_concat]
  rfl
theorem rise_get {l : List Int} (h : Rise l) {i j : Nat} (hij : i < j) (hj : j < l.length) : l[i]'(by omega) < l[j] := List.pairwise_iff_getElem.1 h i j (by omega) hj hij
/-- What stands above the last of a beginning is the rest. -/
theorem drop_last {l : List Int} (h : Rise l) (hp : ∀ t ∈ l, 0 < t) {g : Nat} (hg : g ≤ l.length) : (l.filter fun x => decide ((l.take g).getLastD 0 < x)) = l.drop g := by
  cases g with
  | zero =>
    rw [List.take_zero, List.drop_zero]
    exact List.filter_eq_self.2 fun t ht => by have := hp t ht; simpa using this
  | succ k =>
    rw [last_take (by omega) 0]
    obtain ⟨v, hv⟩ : ∃ v, l[k] = v := ⟨_, rfl⟩
    rw [hv]
    have e0 : l.filter (fun x => decide (v < x)) = (List.take (k + 1) l).filter (fun x => decide (v < x)) ++ (List.drop (k + 1) l).filter (fun x => decide (v < x)) := by
      rw [← List.filter_append, List.take_append_drop]
    rw [e0]
    subst hv
    have h1 : (List.take (k + 1) l).filter (fun x => decide (l[k] < x)) = [] := List.filter_eq_nil_iff.2 fun x hx => by
      obtain ⟨i, hi, rfl⟩ := List.getElem_of_mem hx
      rw [List.getElem_take]
      rw [List.length_take] at hi
      rcases Nat.lt_or_ge i k with h2 | h2
      · have := rise_get h h2 (by omega); simp; omega
      · have : i = k := by omega
        subst this; simp
    have h2 : (List.drop (k + 1) l).filter (fun x => decide (l[k] < x)) = List.drop (k + 1) l := List.filter_eq_self.2 fun x hx => by
      obtain ⟨i, hi, rfl⟩ := List.getElem_of_mem hx
      rw [List.getElem_drop]
      rw [List.length_drop] at hi
      have := rise_get h (show k < k + 1 + i by omega) (by omega)
      simpa using this
    rw [h1, h2, List.nil_append]
/-- What the first subscriber would be handed. -/
theorem handed_rest {b : Bd} {put : List Int} {ack : Int} {g : Nat} (h : BInv b put ((put.take g).getLastD 0) ack) (hg : g ≤ put.length) {s : Sb} (hs : s.cursor = (put.take g).getLastD 0) (most : Int) :
    handed b s most = (put.drop g).take (max 0 most).toNat := by
  unfold handed
  rw [drop_above (by rw [h.kept]; exact h.rise.filter _), h.kept, List.filter_filter, hs]
  congr 1
  rw [← drop_last h.rise h.pos hg]
  refine List.filter_congr fun t _ => ?_
  have := h.low
  generalize (put.take g).getLastD 0 = c at *
  by_cases ht : c < t
  · simp [ht]; omega
  · simp [ht]
theorem put_keeps {b : Bd} {put : List Int} {cur ack : Int} (h : BInv b put cur ack) {t : Int} (ht : b.last < t) : BInv (letGoB { b with kept := b.kept ++ [t], last := t }) (put ++ [t]) cur ack := by
  refine letGo_keeps ⟨?_, ?_, ?_, ?_, ?_, h.floor0, h.one, h.there, h.ids, h.next, ?_⟩
  · refine List.pairwise_append.2 ⟨h.rise, List.pairwise_singleton _ _, fun a ha c hc => ?_⟩
    simp at hc; subst hc
    have := h.last a ha
    omega
  · intro x hx
    rcases List.mem_append.1 hx with hx | hx
    · exact h.pos x hx
    · simp at hx; subst hx; have := h.last0; omega
  · intro x hx
    show x ≤ t
    rcases List.mem_append.1 hx with hx | hx
    · have := h.last x hx; omega
    · simp at hx; omega
  · show 0 ≤ t
    have := h.last0; omega
  · show b.kept ++ [t] = _
    rw [List.filter_append, h.kept]
    congr 1
    have := h.low
    rw [List.filter_cons, if_pos (by simp; omega)]; rfl
  · have := h.low
    show b.floor ≤ ack ∧ ack ≤ cur ∧ cur ≤ t
    omega
theorem join_keeps {b : Bd} {put : List Int} {cur ack : Int} (h : BInv b put cur ack) (frm : Int) (hn : 1 < b.next) : BInv (joinB b frm).1 put cur ack ∧ 1 < (joinB b frm).1.next := by
  unfold joinB
  split
  · exact ⟨h, hn⟩
  · refine ⟨⟨h.rise, h.pos, h.last, h.last0, h.kept, h.floor0, ?_, ?_, ?_, ?_, h.low⟩, by show 1 < b.next + 1; omega⟩
    · intro s hs hid
      rcases List.mem_append.1 hs with hs | hs
      · exact h.one s hs hid
      · simp at hs; subst hs; simp at hid; omega
    · obtain ⟨s, hs, hid⟩ := h.there
      exact ⟨s, List.mem_append.2 (Or.inl hs), hid⟩
    · show ((b.subs ++ [Sb.mk b.next frm frm]).map Sb.id).Pairwise (· < ·)
      rw [List.map_append]
      refine List.pairwise_append.2 ⟨h.ids, List.pairwise_singleton _ _, fun a ha c hc => ?_⟩
      obtain ⟨s, hs, rfl⟩ := List.mem_map.1 ha
      simp at hc; subst hc
      exact h.next s hs
    · intro s hs
      show s.id < b.next + 1
      rcases List.mem_append.1 hs with hs | hs
      · have := h.next s hs; omega
      · simp at hs; subst hs; simp; omega
theorem resume_keeps {b : Bd} {put : List Int} {cur ack : Int} (h : BInv b put cur ack) (frm : Int) (hn : 1 < b.next) : BInv (resumeB b frm).1 put cur ack ∧ 1 < (resumeB b frm).1.next := by
  unfold resumeB
  split
  · exact ⟨h, hn⟩
  · split
    · exact ⟨h, hn⟩
    · exact join_keeps h frm hn
/-- A subscriber that is not the first goes. -/
theorem gone_keeps {b : Bd} {put : List Int} {cur ack : Int} (h : BInv b put cur ack) {n : Int} (hn : n ≠ 1) : BInv (unsubB b n).1 put cur ack := by
  unfold unsubB
  split
  · exact h
  · refine letGo_keeps ⟨h.rise, h.pos, h.last, h.last0, h.kept, h.floor0, fun s hs => h.one s ((List.mem_filter.1 hs).1), ?_, ?_, fun s hs => h.next s ((List.mem_filter.1 hs).1), h.low⟩
    · obtain ⟨s, hs, hid⟩ := h.there
      exact ⟨s, List.mem_filter.2 ⟨hs, by simp [hid]; omega⟩, hid⟩
    · exact List.Pairwise.sublist (List.Sublist.map _ List.filter_sublist) h.ids
theorem gone_next (b : Bd) (n : Int) : (unsubB b n).1.next = b.next := by
  unfold unsubB
  split
  · rfl
  · unfold letGoB; split <;> rfl
theorem gone_find (b : Bd) (n : Int) : findB (unsubB b n).1 n = none := by
  unfold unsubB
  split
  · rename_i h; exact h
  · have key : ∀ c : Bd, c.subs = b.subs.filter (fun s => s.id != n) → findB (letGoB c) n = none := by
      intro c hc
      have e : (letGoB c).subs = c.subs := by unfold letGoB; split <;> rfl
      unfold findB
      rw [e, hc]
      refine List.find?_eq_none.2 fun s hs => ?_
      have := (List.mem_filter.1 hs).2
      simpa using this
    exact key _ rfl
/-- Where the first subscriber stands is turned. -/
theorem turn_keeps {b : Bd} {put : List Int} {cur ack cur' ack' : Int} (h : BInv b put cur ack) (f : Sb → Sb) (hid : ∀ s, (f s).id = s.id) (hc : ∀ s ∈ b.subs, s.id = 1 → (f s).cursor = cur' ∧ (f s).acked = ack') (hlow : b.floor ≤ ack' ∧ ack' ≤ cur' ∧ cur' ≤ b.last) :
    BInv { b with subs := turnS 1 f b.subs } put cur' ack' := by
  have hmap : (turnS 1 f b.subs).map Sb.id = b.subs.map Sb.id := by
    unfold turnS
    rw [List.map_map]
    refine List.map_congr_left fun s _ => ?_
    show (if s.id = 1 then f s else s).id = s.id
    split
    · exact hid s
    · rfl
  refine ⟨h.rise, h.pos, h.last, h.last0, h.kept, h.floor0, ?_, ?_, by rw [hmap]; exact h.ids, ?_, hlow⟩
  · intro s hs h1
    obtain ⟨x, hx, rfl⟩ := List.mem_map.1 hs
    by_cases hx1 : x.id = 1
    · rw [if_pos hx1]; exact hc x hx hx1
    · rw [if_neg hx1] at h1; exact absurd h1 hx1
  · obtain ⟨s, hs, h1⟩ := h.there
    refine ⟨f s, List.mem_map.2 ⟨s, hs, if_pos h1⟩, by rw [hid]; exact h1⟩
  · intro s hs
    obtain ⟨x, hx, rfl⟩ := List.mem_map.1 hs
    have := h.next x hx
    show (if x.id = 1 then f x else x).id < b.next
    split
    · rw [hid]; exact this
    · exact this
theorem find_one {b : Bd} {put : List Int} {cur ack : Int} (h : BInv b put cur ack) : ∃ s, findB b 1 = some s ∧ s.cursor = cur ∧ s.acked = ack := by
  obtain ⟨s, hs, h1⟩ := h.there
  cases hf : findB b 1 with
  | none =>
    have := List.find?_eq_none.1 hf s hs
    simp [h1] at this
  | some x =>
    have hx := List.find?_some hf
    exact ⟨x, rfl, h.one x (List.mem_of_find?_eq_some hf) (by simpa using hx)⟩
end Go.Proofs.YtfmolimnnheaoaaGreat
