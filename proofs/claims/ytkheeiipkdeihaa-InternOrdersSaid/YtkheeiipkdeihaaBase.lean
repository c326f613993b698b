/- What every text of this seat leans on: how slices of small structs lie in memory, and small facts on lists. No program here. -/
import Derived.WalkKit
import Derived.WalkSpells
import Derived.WalkLawsBesides
import Derived.Lib.Hide
import Derived.KernelRfl
import Derived.Deep.WholeRow
import Derived.RangeFuncBox
import Derived.BigGuardPart
namespace Go.Proofs.Ytkheeiipkdeihaa
open Go.RowKit
set_option linter.unusedSimpArgs false
set_option linter.unusedVariables false

/-- A slice value that holds these rows of `sz` cells each, in blocks below `n`. -/
def Arr (n : Nat) (w : World) (v : Value) (sz : Nat) (rows : List (List Value)) : Prop :=
  ∃ p cap, v = .slice p rows.length cap ∧ rows.length ≤ cap ∧ cap ≤ maxLen ∧
    (rows ≠ [] → ∃ b off, p = some ⟨b, off, none⟩ ∧ b < n ∧
      ∀ k r, rows[k]? = some r → ∀ j x, r[j]? = some x → w.cell? ⟨b, off + k * sz + j, none⟩ = some x)

theorem Arr.mono {n m : Nat} {w w' : World} {v : Value} {sz : Nat} {rows : List (List Value)} (h : Arr n w v sz rows) (hb : Below n w w') (hm : n ≤ m) :
    Arr m w' v sz rows := by
  obtain ⟨p, cap, hv, h1, h2, h3⟩ := h
  refine ⟨p, cap, hv, h1, h2, fun hne => ?_⟩
  obtain ⟨b, off, hp, hbn, hc⟩ := h3 hne
  exact ⟨b, off, hp, by omega, fun k r hr j x hx => by rw [hb.cell (p := ⟨b, _, none⟩) hbn]; exact hc k r hr j x hx⟩

theorem Arr.nil (n : Nat) (w : World) (sz : Nat) : Arr n w (.slice none 0 0) sz [] := ⟨none, 0, rfl, Nat.le_refl _, Nat.zero_le _, fun h => (h rfl).elim⟩

theorem Arr.at {n : Nat} {w : World} {p : Option Addr} {len cap sz : Nat} {rows : List (List Value)} (h : Arr n w (.slice p len cap) sz rows) (k : Nat) (r : List Value) (hr : rows[k]? = some r) :
    ∃ b off, p = some ⟨b, off, none⟩ ∧ b < n ∧ ∀ j x, r[j]? = some x → w.cell? ⟨b, off + k * sz + j, none⟩ = some x := by
  obtain ⟨p', cap', hv, _, _, h3⟩ := h
  cases hv
  obtain ⟨b, off, hp, hbn, hc⟩ := h3 (by intro e; subst e; simp at hr)
  exact ⟨b, off, hp, hbn, fun j x hx => hc k r hr j x hx⟩

theorem Arr.len {n : Nat} {w : World} {p : Option Addr} {len cap sz : Nat} {rows : List (List Value)} (h : Arr n w (.slice p len cap) sz rows) :
    len = rows.length ∧ rows.length ≤ cap ∧ cap ≤ maxLen := by
  obtain ⟨p', cap', hv, h1, h2, _⟩ := h
  cases hv
  exact ⟨rfl, h1, h2⟩

theorem maxLen_eq : maxLen = 9223372036854775807 := rfl

/-! ### lists -/
theorem all_step {α : Type} {l : List α} {p : α → Bool} {k : Nat} (h : (l.take k).all p = true) (hk : k < l.length) (hp : p l[k] = true) : (l.take (k + 1)).all p = true := by
  rw [List.take_succ_eq_append_getElem hk, List.all_append, h]; simp [hp]
theorem all_done {α : Type} {l : List α} {p : α → Bool} {k : Nat} (h : (l.take k).all p = true) (hk : l.length ≤ k) : l.all p = true := by
  rwa [List.take_of_length_le hk] at h
theorem all_not {α : Type} {l : List α} {p : α → Bool} {k : Nat} (hk : k < l.length) (hp : p l[k] = false) : l.all p = false := by
  cases h : l.all p with
  | false => rfl
  | true => rw [List.all_eq_true] at h; have := h _ (List.getElem_mem hk); simp [hp] at this

/-- `all` over the numbers below `k`. -/
def upto (p : Nat → Bool) : Nat → Bool
  | 0 => true
  | k + 1 => upto p k && p k
theorem upto_step {p : Nat → Bool} {k : Nat} (h : upto p k = true) (hp : p k = true) : upto p (k + 1) = true := by simp [upto, h, hp]
theorem upto_iff {p : Nat → Bool} {n : Nat} : upto p n = true ↔ ∀ k, k < n → p k = true := by
  induction n with
  | zero => simp [upto]
  | succ n ih =>
    simp only [upto, Bool.and_eq_true, ih]
    constructor
    · rintro ⟨h1, h2⟩ k hk
      by_cases e : k = n
      · rw [e]; exact h2
      · exact h1 k (by omega)
    · exact fun h => ⟨fun k hk => h k (by omega), h n (by omega)⟩
theorem upto_not {p : Nat → Bool} {k n : Nat} (hk : k < n) (hp : p k = false) : upto p n = false := by
  cases h : upto p n with
  | false => rfl
  | true => have := upto_iff.1 h k hk; simp [hp] at this

theorem ret_bool {a b : Bool} (h : a = b) : Ending.returned (.bool a) = .returned (.bool b) := by rw [h]
theorem ret_int {k : IntKind} {a b : Int} (h : a = b) : Ending.returned (.int k a) = .returned (.int k b) := by rw [h]
theorem ret_string {a b : ByteArray} (h : a = b) : Ending.returned (.string a) = .returned (.string b) := by rw [h]

/-- Go's == on strings, as the walk writes it. -/
theorem toList_beq (a b : ByteArray) : (a.toList == b.toList) = decide (a = b) := by
  rw [ByteArray.toList_eq, ByteArray.toList_eq]
  obtain ⟨⟨x⟩⟩ := a
  obtain ⟨⟨y⟩⟩ := b
  rw [Bool.eq_iff_iff]
  simp
theorem toList_inj (a b : ByteArray) : a.toList = b.toList ↔ a = b := by
  have := toList_beq a b
  rw [Bool.eq_iff_iff] at this
  simpa using this
theorem beq_ba (a b : ByteArray) : (a == b) = decide (a = b) := by rw [beq_toListBytes, toList_beq]

/-- Block `B` begins with these cells. -/
def Box (w : World) (B : Nat) (cs : List Value) : Prop := B < w.heap.size ∧ ∀ j x, cs[j]? = some x → w.cell? ⟨B, j, none⟩ = some x
theorem Box.new (w : World) (cs : List Value) (t : TypeId) : Box (w.alloc (.cells cs.toArray t)) w.heap.size cs :=
  ⟨by simp, fun j x hx => by rw [World.cell?_alloc_new]; simpa using hx⟩
theorem Box.mono {w w' : World} {B n : Nat} {cs : List Value} (h : Box w B cs) (hb : Below n w w') (hn : B < n) : Box w' B cs :=
  ⟨Nat.lt_of_lt_of_le h.1 hb.size, fun j x hx => by rw [hb.cell (p := ⟨B, j, none⟩) hn]; exact h.2 j x hx⟩
theorem Box.keep {w w' : World} {B : Nat} {cs : List Value} (h : Box w B cs) (hb : Below w.heap.size w w') : Box w' B cs := h.mono hb h.1

/-! ### results that lie in memory -/
def aggD : TypeDesc → Bool
  | .struct _ | .array _ _ => true
  | _ => false
theorem loadRow {P : Program} (w : World) (g t ty : Nat) (cs : Array Value) (fr : Nat × Nat) (d : TypeDesc) (hg : w.heap[g]? = some (.cells cs t fr))
    (hu : P.underlying ty = some d) (hd : aggD d = true) (hi : (P.info? ty).map (·.size) = some cs.size) : (loadVar ty ⟨g, 0, none⟩).run P w = .ok (.agg cs) w :=
  run_loadVar_row w g t ty cs fr d hg hu (by cases d <;> first | rfl | exact hd) hi
theorem bodyPost_agg {P : Program} {fn : Func} {R : Ending → World → Prop} {a : Act} {w : World} {p : Tmp} {ty g t : Nat} {cs : Array Value} {fr : Nat × Nat} {d : TypeDesc}
    (h : fn.results = #[.cell p ty]) (hp : a.tmps.getD p undef = .pointer (some ⟨g, 0, none⟩)) (hg : w.heap[g]? = some (.cells cs t fr)) (hu : P.underlying ty = some d)
    (hd : aggD d = true) (hi : (P.info? ty).map (·.size) = some cs.size) (hdf : a.defers = []) (hR : R (.returned (.agg cs)) w) :
    bodyPost P fn R .ret a w := by
  refine ⟨hdf, .agg cs, ?_, hR⟩
  have hp' : a.tmps[p]?.getD undef = .pointer (some ⟨g, 0, none⟩) := by rw [← hp]; simp
  simp only [results, h]
  simp [Sem.run_bind, Result.andThen, hp', asAddr, loadRow w g t ty cs fr d hg hu hd hi]
theorem bodyPost_agg_tmp {P : Program} {fn : Func} {R : Ending → World → Prop} {a : Act} {w : World} {p u : Tmp} {ty g t : Nat} {cs : Array Value} {fr : Nat × Nat} {d : TypeDesc}
    (h : fn.results = #[.cell p ty, .tmp u]) (hp : a.tmps.getD p undef = .pointer (some ⟨g, 0, none⟩)) (hg : w.heap[g]? = some (.cells cs t fr)) (hu : P.underlying ty = some d)
    (hd : aggD d = true) (hi : (P.info? ty).map (·.size) = some cs.size) (hdf : a.defers = []) (hR : R (.returned (.tuple #[.agg cs, a.tmps.getD u undef])) w) :
    bodyPost P fn R .ret a w := by
  refine ⟨hdf, _, ?_, hR⟩
  rw [results_cell_tmp h, hp]
  simp [Result.andThen, asAddr, loadRow w g t ty cs fr d hg hu hd hi]

/-- A whole struct or array into the block that was made last. -/
theorem wpList_store_new {P : Program} {ops : Array Oper} {rest : List Oper} {o : Oper} {a : Act} {w : World} {Q : Exit → Act → World → Prop} (hgd : o.guard = none) (ty : TypeId) (x y : Operand) (ho : o.op = .store ty x y)
    (cells : Array Value) (t : TypeId) (old : Array Value) (hx : a.eval x = .pointer (some ⟨w.heap.size, 0, none⟩)) (hy : a.eval y = .agg cells)
    (hi : (P.info? ty).map (·.size) = some cells.size) (hold : old.size = cells.size) (h1 : cells.all (·.oneCell') = true)
    (h : wpList P ops Q rest (a.put o.dst undef) (w.alloc (.cells cells t))) : wpList P ops Q (o :: rest) a (w.alloc (.cells old t)) :=
  wpList_store_row hgd ty x y ho w.heap.size cells hx hy t old (World.alloc_heap_new w _) hi hold h1 (by rw [World.setRow_alloc_new]; exact h)

theorem setRow_at {w : World} {g t : Nat} {old : Array Value} {fr : Nat × Nat} (h : w.heap[g]? = some (.cells old t fr)) (cs : Array Value) : (w.setRow g cs).heap[g]? = some (.cells cs t fr) := by
  show (w.heap.modify g _)[g]? = _
  rw [Array.getElem?_modify, if_pos rfl, h]; rfl
theorem setRow_size (w : World) (g : Nat) (cs : Array Value) : (w.setRow g cs).heap.size = w.heap.size := by
  show (w.heap.modify g _).size = _
  simp
theorem below_setRow {B : Nat} {a w : World} (h : Below B a w) {g : Nat} (hg : B ≤ g) (cs : Array Value) : Below B a (w.setRow g cs) :=
  h.trans ⟨rfl, rfl, rfl, by rw [setRow_size]; exact Nat.le_refl _, fun k hk => by
    show (w.heap.modify g _)[k]? = _
    rw [Array.getElem?_modify, if_neg (by omega)]⟩
/-- A block known whole. -/
def Blk (w : World) (g t : Nat) (cs : List Value) : Prop := w.heap[g]? = some (.cells cs.toArray t (0, 0))
theorem Blk.new (w : World) (cs : List Value) (t : Nat) : Blk (w.alloc (.cells cs.toArray t)) w.heap.size t cs := World.alloc_heap_new w _
theorem Blk.lt {w : World} {g t : Nat} {cs : List Value} (h : Blk w g t cs) : g < w.heap.size := (Array.getElem?_eq_some_iff.1 h).1
theorem Blk.mono {w w' : World} {g t n : Nat} {cs : List Value} (h : Blk w g t cs) (hb : Below n w w') (hn : g < n) : Blk w' g t cs := (hb.block g hn).trans h
theorem Blk.keep {w w' : World} {g t : Nat} {cs : List Value} (h : Blk w g t cs) (hb : Below w.heap.size w w') : Blk w' g t cs := h.mono hb h.lt
theorem Blk.cell {w : World} {g t : Nat} {cs : List Value} (h : Blk w g t cs) (j : Nat) (x : Value) (hx : cs[j]? = some x) : w.cell? ⟨g, j, none⟩ = some x := by
  simp [World.cell?, show w.heap[g]? = _ from h, hx]
theorem Blk.free {w : World} {g t : Nat} {cs : List Value} (h : Blk w g t cs) (j : Nat) : w.frozen? ⟨g, j, none⟩ = false := by
  simp [World.frozen?, show w.heap[g]? = _ from h]
theorem Blk.box {w : World} {g t : Nat} {cs : List Value} (h : Blk w g t cs) : Box w g cs := ⟨h.lt, h.cell⟩
theorem Blk.row {w : World} {g t : Nat} {cs : List Value} (h : Blk w g t cs) (cs' : List Value) : Blk (w.setRow g cs'.toArray) g t cs' := setRow_at h _

end Go.Proofs.Ytkheeiipkdeihaa
