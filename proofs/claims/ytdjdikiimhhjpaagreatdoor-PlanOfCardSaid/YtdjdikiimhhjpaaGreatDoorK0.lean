/- What every text of this seat leans on: how slices of small structs lie in memory, and small facts on lists. No program here. -/
import Derived.WalkKit
import Derived.WalkSpells
import Derived.WalkLawsBesides
import Derived.Lib.Hide
import Derived.KernelRfl
import Derived.Deep.WholeRow
import Derived.RangeFuncBox
import Derived.BigGuardPart
set_option maxRecDepth 100000
set_option maxHeartbeats 16000000
namespace Go.Proofs.YtdjdikiimhhjpaaGreatDoor
open Go.RowKit
set_option linter.unusedSimpArgs false
set_option linter.unusedVariables false
def Arr (n : Nat) (w : World) (v : Value) (sz : Nat) (rows : List (List Value)) : Prop :=
  ∃ p cap, v = .slice p rows.length cap ∧ rows.length ≤ cap ∧ cap ≤ maxLen ∧
    (rows ≠ [] → ∃ b off, p = some ⟨b, off, none⟩ ∧ b < n ∧
      ∀ k r, rows[k]? = some r → ∀ j x, r[j]? = some x → w.cell? ⟨b, off + k * sz + j, none⟩ = some x)
theorem Arr.mono {n m : Nat} {w w' : World} {v : Value} {sz : Nat} {rows : List (List Value)} (h : Arr n w v sz rows) (hb : Below n w w') (hm : n ≤ m) :
    Arr m w' v sz rows := by
  obtain ⟨p, cap, hv, h1, h2, h3⟩ := h
  refine ⟨p, cap, hv, h1, h2, fun hne => ?_⟩
  obtain ⟨b, off, hp, hbn, hc⟩ := h3 hne
  exact ⟨b, off, hp, by omega, fun k r hr j x hx => by rw [hb.cell (p := ⟨b, _, none⟩) hbn]; exact hc k r hr j x hx⟩
theorem Arr.nil (n : Nat) (w : World) (sz : Nat) : Arr n w (.slice none 0 0) sz [] := ⟨none, 0, rfl, Nat.le_refl _, Nat.zero_le _, fun h => (h rfl).elim⟩
theorem Arr.at {n : Nat} {w : World} {p : Option Addr} {len cap sz : Nat} {rows : List (List Value)} (h : Arr n w (.slice p len cap) sz rows) (k : Nat) (r : List Value) (hr : rows[k]? = some r) :
    ∃ b off, p = some ⟨b, off, none⟩ ∧ b < n ∧ ∀ j x, r[j]? = some x → w.cell? ⟨b, off + k * sz + j, none⟩ = some x := by
  obtain ⟨p', cap', hv, _, _, h3⟩ := h
  cases hv
  obtain ⟨b, off, hp, hbn, hc⟩ := h3 (by intro e; subst e; simp at hr)
  exact ⟨b, off, hp, hbn, fun j x hx => hc k r hr j x hx⟩
theorem Arr.len {n : Nat} {w : World} {p : Option Addr} {len cap sz : Nat} {rows : List (List Value)} (h : Arr n w (.slice p len cap) sz rows) :
    len = rows.length ∧ rows.length ≤ cap ∧ cap ≤ maxLen := by
  obtain ⟨p', cap', hv, h1, h2, _⟩ := h
  cases hv
  exact ⟨rfl, h1, h2⟩
theorem maxLen_eq : maxLen = 9223372036854775807 := rfl
/-! ### lists -/
theorem all_step {α : Type} {l : List α} {p : α → Bool} {k : Nat} (h : (l.take k).all p = true) (hk : k < l.length) (hp : p l[k] = true) : (l.take (k + 1)).all p = true := by
  rw [List.take_succ_eq_append_getElem hk, List.all_append, h]; simp [hp]
theorem all_done {α : Type} {l : List α} {p : α → Bool} {k : Nat} (h : (l.take k).all p = true) (hk : l.length ≤ k) : l.all p = true := by
  rwa [List.take_of_length_le hk] at h
theorem all_not {α : Type} {l : List α} {p : α → Bool} {k : Nat} (hk : k < l.length) (hp : p l[k] = false) : l.all p = false := by
  cases h : l.all p with
  | false => rfl
  | true => rw [List.all_eq_true] at h; have := h _ (List.getElem_mem hk); simp [hp] at this
def upto (p : Nat → Bool) : Nat → Bool
  | 0 => true
  | k + 1 => upto p k && p k
theorem upto_step {p : Nat → Bool} {k : Nat} (h : upto p k = true) (hp : p k = true) : upto p (k + 1) = true := by simp [upto, h, hp]
theorem upto_iff {p : Nat → Bool} {n : Nat} : upto p n = true ↔ ∀ k, k < n → p k = true := by
  induction n with
  | zero => simp [upto]
  | succ n ih =>
    simp only [upto, Bool.and_eq_true, ih]
    constructor
    · rintro ⟨h1, h2⟩ k hk
      by_cases e : k = n
      · rw [e]; exact h2
      · exact h1 k (by omega)
    · exact fun h => ⟨fun k hk => h k (by omega), h n (by omega)⟩
theorem upto_not {p : Nat → Bool} {k n : Nat} (hk : k < n) (hp : p k = false) : upto p n = false := by
  cases h : upto p n with
  | false => rfl
  | true => have := upto_iff.1 h k hk; simp [hp] at this
theorem ret_bool {a b : Bool} (h : a = b) : Ending.returned (.bool a) = .returned (.bool b) := by rw [h]
theorem ret_int {k : IntKind} {a b : Int} (h : a = b) : Ending.returned (.int k a) = .returned (.int k b) := by rw [h]
theorem ret_string {a b : ByteArray} (h : a = b) : Ending.returned (.string a) = .returned (.string b) := by rw [h]
theorem toList_beq (a b : ByteArray) : (a.toList == b.toList) = decide (a = b) := by
  rw [ByteArray.toList_eq, ByteArray.toList_eq]
  obtain ⟨⟨x⟩⟩ := a
  obtain ⟨⟨y⟩⟩ := b
  rw [Bool.eq_iff_iff]
  simp
theorem toList_inj (a b : ByteArray) : a.toList = b.toList ↔ a = b := by
  have := toList_beq a b
  rw [Bool.eq_iff_iff] at this
  simpa using this
theorem beq_ba (a b : ByteArray) : (a == b) = decide (a = b) := by rw [beq_toListBytes, toList_beq]
def Box (w : World) (B : Nat) (cs : List Value) : Prop := B < w.heap.size ∧ ∀ j x, cs[j]? = some x → w.cell? ⟨B, j, none⟩ = some x
theorem Box.new (w : World) (cs : List Value) (t : TypeId) : Box (w.alloc (.cells cs.toArray t)) w.heap.size cs :=
  ⟨by simp, fun j x hx => by rw [World.cell?_alloc_new]; simpa using hx⟩
theorem Box.mono {w w' : World} {B n : Nat} {cs : List Value} (h : Box w B cs) (hb : Below n w w') (hn : B < n) : Box w' B cs :=
  ⟨Nat.lt_of_lt_of_le h.1 hb.size, fun j x hx => by rw [hb.cell (p := ⟨B, j, none⟩) hn]; exact h.2 j x hx⟩
theorem Box.keep {w w' : World} {B : Nat} {cs : List Value} (h : Box w B cs) (hb : Below w.heap.size w w') : Box w' B cs := h.mono hb h.1
/-! ### results that lie in memory -/
def aggD : TypeDesc → Bool
  | .struct _ | .array _ _ => true
  | _ => false
theorem loadRow {P : Program} (w : World) (g t ty : Nat) (cs : Array Value) (fr : Nat × Nat) (d : TypeDesc) (hg : w.heap[g]? = some (.cells cs t fr))
    (hu : P.underlying ty = some d) (hd : aggD d = true) (hi : (P.info? ty).map (·.size) = some cs.size) : (loadVar ty ⟨g, 0, none⟩).run P w = .ok (.agg cs) w :=
  run_loadVar_row w g t ty cs fr d hg hu (by cases d <;> first | rfl | exact hd) hi
theorem bodyPost_agg {P : Program} {fn : Func} {R : Ending → World → Prop} {a : Act} {w : World} {p : Tmp} {ty g t : Nat} {cs : Array Value} {fr : Nat × Nat} {d : TypeDesc}
    (h : fn.results = #[.cell p ty]) (hp : a.tmps.getD p undef = .pointer (some ⟨g, 0, none⟩)) (hg : w.heap[g]? = some (.cells cs t fr)) (hu : P.underlying ty = some d)
    (hd : aggD d = true) (hi : (P.info? ty).map (·.size) = some cs.size) (hdf : a.defers = []) (hR : R (.returned (.agg cs)) w) :
    bodyPost P fn R .ret a w := by
  refine ⟨hdf, .agg cs, ?_, hR⟩
  have hp' : a.tmps[p]?.getD undef = .pointer (some ⟨g, 0, none⟩) := by rw [← hp]; simp
  simp only [results, h]
  simp [Sem.run_bind, Result.andThen, hp', asAddr, loadRow w g t ty cs fr d hg hu hd hi]
theorem bodyPost_agg_tmp {P : Program} {fn : Func} {R : Ending → World → Prop} {a : Act} {w : World} {p u : Tmp} {ty g t : Nat} {cs : Array Value} {fr : Nat × Nat} {d : TypeDesc}
    (h : fn.results = #[.cell p ty, .tmp u]) (hp : a.tmps.getD p undef = .pointer (some ⟨g, 0, none⟩)) (hg : w.heap[g]? = some (.cells cs t fr)) (hu : P.underlying ty = some d)
    (hd : aggD d = true) (hi : (P.info? ty).map (·.size) = some cs.size) (hdf : a.defers = []) (hR : R (.returned (.tuple #[.agg cs, a.tmps.getD u undef])) w) :
    bodyPost P fn R .ret a w := by
  refine ⟨hdf, _, ?_, hR⟩
  rw [results_cell_tmp h, hp]
  simp [Result.andThen, asAddr, loadRow w g t ty cs fr d hg hu hd hi]
theorem wpList_store_new {P : Program} {ops : Array Oper} {rest : List Oper} {o : Oper} {a : Act} {w : World} {Q : Exit → Act → World → Prop} (hgd : o.guard = none) (ty : TypeId) (x y : Operand) (ho : o.op = .store ty x y)
    (cells : Array Value) (t : TypeId) (old : Array Value) (hx : a.eval x = .pointer (some ⟨w.heap.size, 0, none⟩)) (hy : a.eval y = .agg cells)
    (hi : (P.info? ty).map (·.size) = some cells.size) (hold : old.size = cells.size) (h1 : cells.all (·.oneCell') = true)
    (h : wpList P ops Q rest (a.put o.dst undef) (w.alloc (.cells cells t))) : wpList P ops Q (o :: rest) a (w.alloc (.cells old t)) :=
  wpList_store_row hgd ty x y ho w.heap.size cells hx hy t old (World.alloc_heap_new w _) hi hold h1 (by rw [World.setRow_alloc_new]; exact h)
theorem setRow_at {w : World} {g t : Nat} {old : Array Value} {fr : Nat × Nat} (h : w.heap[g]? = some (.cells old t fr)) (cs : Array Value) : (w.setRow g cs).heap[g]? = some (.cells cs t fr) := by
  show (w.heap.modify g _)[g]? = _
  rw [Array.getElem?_modify, if_pos rfl, h]; rfl
theorem setRow_size (w : World) (g : Nat) (cs : Array Value) : (w.setRow g cs).heap.size = w.heap.size := by
  show (w.heap.modify g _).size = _
  simp
theorem below_setRow {B : Nat} {a w : World} (h : Below B a w) {g : Nat} (hg : B ≤ g) (cs : Array Value) : Below B a (w.setRow g cs) :=
  h.trans ⟨rfl, rfl, rfl, by rw [setRow_size]; exact Nat.le_refl _, fun k hk => by
    show (w.heap.modify g _)[k]? = _
    rw [Array.getElem?_modify, if_neg (by omega)]⟩
def Blk (w : World) (g t : Nat) (cs : List Value) : Prop := w.heap[g]? = some (.cells cs.toArray t (0, 0))
theorem Blk.new (w : World) (cs : List Value) (t : Nat) : Blk (w.alloc (.cells cs.toArray t)) w.heap.size t cs := World.alloc_heap_new w _
theorem Blk.lt {w : World} {g t : Nat} {cs : List Value} (h : Blk w g t cs) : g < w.heap.size := (Array.getElem?_eq_some_iff.1 h).1
theorem Blk.mono {w w' : World} {g t n : Nat} {cs : List Value} (h : Blk w g t cs) (hb : Below n w w') (hn : g < n) : Blk w' g t cs := (hb.block g hn).trans h
theorem Blk.keep {w w' : World} {g t : Nat} {cs : List Value} (h : Blk w g t cs) (hb : Below w.heap.size w w') : Blk w' g t cs := h.mono hb h.lt
theorem Blk.cell {w : World} {g t : Nat} {cs : List Value} (h : Blk w g t cs) (j : Nat) (x : Value) (hx : cs[j]? = some x) : w.cell? ⟨g, j, none⟩ = some x := by
  simp [World.cell?, show w.heap[g]? = _ from h, hx]
theorem Blk.free {w : World} {g t : Nat} {cs : List Value} (h : Blk w g t cs) (j : Nat) : w.frozen? ⟨g, j, none⟩ = false := by
  simp [World.frozen?, show w.heap[g]? = _ from h]
theorem Blk.box {w : World} {g t : Nat} {cs : List Value} (h : Blk w g t cs) : Box w g cs := ⟨h.lt, h.cell⟩
theorem Blk.row {w : World} {g t : Nat} {cs : List Value} (h : Blk w g t cs) (cs' : List Value) : Blk (w.setRow g cs'.toArray) g t cs' := setRow_at h _
end Go.Proofs.YtdjdikiimhhjpaaGreatDoor
namespace Go.Proofs.YtdjdikiimhhjpaaGreatDoor
open Go.RowKit
set_option linter.unusedSimpArgs false
set_option linter.unusedVariables false
theorem Blk.set_ {w : World} {g t : Nat} {cs : List Value} (h : Blk w g t cs) (i : Nat) (u : Value) : Blk (w.setCell ⟨g, i, none⟩ u) g t (cs.set i u) := by
  unfold Blk at h ⊢
  simp [World.setCell, Array.getElem?_modify, h]
theorem Blk.far {w : World} {g t : Nat} {cs : List Value} (h : Blk w g t cs) {p : Addr} (hp : g ≠ p.block) (u : Value) : Blk (w.setCell p u) g t cs := (Below.heap_setCell w p u g hp).trans h
theorem Blk.drew {w : World} {g t : Nat} {cs : List Value} (h : Blk w g t cs) : Blk w.drew g t cs := h
theorem Blk.drewN {w : World} {g t : Nat} {cs : List Value} (h : Blk w g t cs) (n : Nat) : Blk (w.drewN n) g t cs := h
theorem Blk.alloc {w : World} {g t : Nat} {cs : List Value} (h : Blk w g t cs) (o : Obj) : Blk (w.alloc o) g t cs := (Below.heap_alloc w o g h.lt).trans h
theorem bcell {W w1 : World} (hb : Below W.heap.size W w1) : (∀ b o, b < W.heap.size → w1.cell? ⟨b, o, none⟩ = W.cell? ⟨b, o, none⟩) ∧ (∀ b o, b < W.heap.size → w1.frozen? ⟨b, o, none⟩ = W.frozen? ⟨b, o, none⟩) :=
  ⟨fun b o h => hb.cell (p := ⟨b, o, none⟩) h, fun b o h => hb.frozen (p := ⟨b, o, none⟩) h⟩
theorem two_at (w : World) (cs cs' : List Value) (t t' : Nat) : Blk ((w.alloc (.cells cs.toArray t)).alloc (.cells cs'.toArray t')) w.heap.size t cs := (Blk.new w cs t).alloc _
theorem two_at' (w : World) (o : Obj) (cs' : List Value) (t' : Nat) : Blk ((w.alloc o).alloc (.cells cs'.toArray t')) (w.heap.size + 1) t' cs' := by
  have := Blk.new (w.alloc o) cs' t'
  simpa using this
theorem two_below (w : World) (o o' : Obj) : Below w.heap.size w ((w.alloc o).alloc o') := ((Below.refl _ _).alloc (Nat.le_refl _) _).alloc (by simp) _
end Go.Proofs.YtdjdikiimhhjpaaGreatDoor
namespace Go.Proofs.YtdjdikiimhhjpaaGreatDoor
open Go.RowKit
set_option linter.unusedSimpArgs false
set_option linter.unusedVariables false
theorem bl_irrefl : ∀ x : List UInt8, Op.bytesLess x x = false
  | [] => rfl
  | a :: x => by simp [Op.bytesLess, bl_irrefl x]
theorem bl_tri : ∀ x y : List UInt8, Op.bytesLess x y = true ∨ x = y ∨ Op.bytesLess y x = true
  | [], [] => .inr (.inl rfl)
  | [], _ :: _ => .inl rfl
  | _ :: _, [] => .inr (.inr rfl)
  | a :: x, b :: y => by
    simp only [Op.bytesLess, Bool.or_eq_true, Bool.and_eq_true, decide_eq_true_eq, beq_iff_eq, List.cons.injEq]; rcases UInt8.lt_or_lt_of_ne (a := a) (b := b) |> fun f => (Classical.em (a = b)).imp id (fun h => f h) with h | h | h
    · rcases bl_tri x y with h' | h' | h'
      · exact .inl (.inr ⟨h, h'⟩)
      · exact .inr (.inl ⟨h, h'⟩)
      · exact .inr (.inr (.inr ⟨h.symm, h'⟩))
    · exact .inl (.inl h)
    · exact .inr (.inr (.inl h))
theorem bl_trans : ∀ x y z : List UInt8, Op.bytesLess x y = true → Op.bytesLess y z = true → Op.bytesLess x z = true
  | _, [], _, h, _ => by cases ‹List UInt8› <;> simp [Op.bytesLess] at h
  | _, _ :: _, [], _, h => by simp [Op.bytesLess] at h
  | [], _ :: _, _ :: _, _, _ => rfl
  | a :: x, b :: y, c :: z, h1, h2 => by
    simp only [Op.bytesLess, Bool.or_eq_true, Bool.and_eq_true, decide_eq_true_eq, beq_iff_eq] at *; rcases h1 with h1 | ⟨rfl, h1⟩
    · rcases h2 with h2 | ⟨rfl, h2⟩
      · exact .inl (UInt8.lt_trans h1 h2)
      · exact .inl h1
    · rcases h2 with h2 | ⟨rfl, h2⟩
      · exact .inl h2
      · exact .inr ⟨rfl, bl_trans x y z h1 h2⟩
def sless (a b : ByteArray) : Bool := Op.bytesLess a.toList b.toList
theorem sless_def (a b : ByteArray) : Op.bytesLess a.toList b.toList = sless a b := rfl
theorem sless_irrefl (a : ByteArray) : sless a a = false := bl_irrefl _
theorem sless_trans {a b c : ByteArray} (h : sless a b = true) (h' : sless b c = true) : sless a c = true := bl_trans _ _ _ h h'
theorem sless_tri (a b : ByteArray) : sless a b = true ∨ a = b ∨ sless b a = true := by
  rcases bl_tri a.toList b.toList with h | h | h
  · exact .inl h
  · exact .inr (.inl ((toList_inj a b).1 h))
  · exact .inr (.inr h)
theorem sless_asymm {a b : ByteArray} (h : sless a b = true) : sless b a = false := by
  cases h' : sless b a with
  | false => rfl
  | true => have := sless_trans h h'; rw [sless_irrefl] at this; cases this
theorem sle_eq (a b : ByteArray) : (Op.bytesLess a.toList b.toList || a.toList == b.toList) = !sless b a := by
  rw [sless_def, toList_beq]
  rcases sless_tri a b with h | h | h
  · rw [h, sless_asymm h]; rfl
  · subst h; rw [sless_irrefl]; simp
  · rw [h, sless_asymm h]
    have : ¬ a = b := by intro e; subst e; rw [sless_irrefl] at h; cases h
    simp [this]
theorem sle_true {a b : ByteArray} (h : Op.bytesLess a.toList b.toList = true ∨ (a.toList == b.toList) = true) : sless b a = false := by
  have := sle_eq a b
  rw [show (Op.bytesLess a.toList b.toList || a.toList == b.toList) = true by simp only [Bool.or_eq_true]; exact h] at this
  cases h' : sless b a with
  | false => rfl
  | true => rw [h'] at this; cases this
theorem sle_false {a b : ByteArray} (h : Op.bytesLess a.toList b.toList = false ∧ (a.toList == b.toList) = false) : sless b a = true := by
  have := sle_eq a b
  rw [h.1, h.2] at this
  cases h' : sless b a with
  | true => rfl
  | false => rw [h'] at this; cases this
theorem sless_empty {s : ByteArray} (h : 1 ≤ s.size) : sless ByteArray.empty s = true := by
  unfold sless
  rw [ByteArray.toList_eq, ByteArray.toList_eq]
  obtain ⟨⟨l⟩⟩ := s
  cases l with
  | nil => simp [ByteArray.size] at h
  | cons x l => rfl
def lastOf (l : List ByteArray) (k : Nat) : ByteArray := if k = 0 then ByteArray.empty else l.getD (k - 1) ByteArray.empty
theorem lastOf_zero (l : List ByteArray) : lastOf l 0 = ByteArray.empty := rfl
theorem lastOf_succ {l : List ByteArray} {k : Nat} (h : k < l.length) : lastOf l (k + 1) = l[k] := by
  unfold lastOf; rw [if_neg (by omega), List.getD_eq_getElem?_getD]; simp [h]
end Go.Proofs.YtdjdikiimhhjpaaGreatDoor
namespace Go.Proofs.YtdjdikiimhhjpaaGreatDoor
open Go.RowKit
set_option linter.unusedSimpArgs false
set_option linter.unusedVariables false
structure Mat where
  kind : Int
  name : ByteArray
  text : ByteArray
deriving DecidableEq
def Mat.cells (m : Mat) : List Value := [.int .i64 m.kind, .string m.name, .string m.text]
def Mat.small (m : Mat) : Prop := m.name.size ≤ maxLen ∧ m.text.size ≤ maxLen
def IsMats (n : Nat) (w : World) (v : Value) (l : List Mat) : Prop := Arr n w v 3 (l.map Mat.cells) ∧ ∀ m ∈ l, m.small
theorem IsMats.mono {n m : Nat} {w w' : World} {v : Value} {l : List Mat} (h : IsMats n w v l) (hb : Below n w w') (hm : n ≤ m) : IsMats m w' v l :=
  ⟨h.1.mono hb hm, h.2⟩
theorem IsMats.open {n : Nat} {w : World} {v : Value} {l : List Mat} (h : IsMats n w v l) : ∃ p cap, v = .slice p l.length cap ∧ l.length ≤ cap ∧ cap ≤ maxLen ∧ l.length ≤ maxLen := by
  obtain ⟨⟨p, cap, hv, h1, h2, _⟩, _⟩ := h
  simp only [List.length_map] at hv h1
  exact ⟨p, cap, hv, h1, h2, by omega⟩
theorem IsMats.get {n : Nat} {w : World} {p : Option Addr} {len cap : Nat} {l : List Mat} (h : IsMats n w (.slice p len cap) l) {k : Nat} (hk : k < l.length) :
    ∃ b off, p = some ⟨b, off, none⟩ ∧ b < n ∧ w.cell? ⟨b, off + k * 3, none⟩ = some (.int .i64 l[k].kind) ∧ w.cell? ⟨b, off + k * 3 + 1, none⟩ = some (.string l[k].name) ∧
      w.cell? ⟨b, off + k * 3 + 2, none⟩ = some (.string l[k].text) ∧ l[k].name.size ≤ maxLen ∧ l[k].text.size ≤ maxLen := by
  obtain ⟨b, off, hp, hb, hc⟩ := h.1.at k l[k].cells (by simp [hk])
  exact ⟨b, off, hp, hb, hc 0 _ rfl, hc 1 _ rfl, hc 2 _ rfl, (h.2 _ (List.getElem_mem hk)).1, (h.2 _ (List.getElem_mem hk)).2⟩
def IsStrs (n : Nat) (w : World) (v : Value) (l : List ByteArray) : Prop := Arr n w v 1 (l.map fun s => [.string s]) ∧ ∀ s ∈ l, s.size ≤ maxLen
theorem IsStrs.mono {n m : Nat} {w w' : World} {v : Value} {l : List ByteArray} (h : IsStrs n w v l) (hb : Below n w w') (hm : n ≤ m) : IsStrs m w' v l :=
  ⟨h.1.mono hb hm, h.2⟩
theorem IsStrs.open {n : Nat} {w : World} {v : Value} {l : List ByteArray} (h : IsStrs n w v l) : ∃ p cap, v = .slice p l.length cap ∧ l.length ≤ cap ∧ cap ≤ maxLen ∧ l.length ≤ maxLen := by
  obtain ⟨⟨p, cap, hv, h1, h2, _⟩, _⟩ := h
  simp only [List.length_map] at hv h1
  exact ⟨p, cap, hv, h1, h2, by omega⟩
theorem IsStrs.get {n : Nat} {w : World} {p : Option Addr} {len cap : Nat} {l : List ByteArray} (h : IsStrs n w (.slice p len cap) l) {k : Nat} (hk : k < l.length) :
    ∃ b off, p = some ⟨b, off, none⟩ ∧ b < n ∧ w.cell? ⟨b, off + k, none⟩ = some (.string l[k]) ∧ l[k].size ≤ maxLen := by
  obtain ⟨b, off, hp, hb, hc⟩ := h.1.at k [.string l[k]] (by simp [hk])
  have := hc 0 _ rfl
  rw [Nat.mul_one] at this
  exact ⟨b, off, hp, hb, this, h.2 _ (List.getElem_mem hk)⟩
inductive Ex where
  | mk (kind fn op num : Int) (metric : ByteArray) (mats : List Mat) (span : Int) (names : List ByteArray) (kids : List Ex)
def Ex.kind : Ex → Int | .mk k _ _ _ _ _ _ _ _ => k
def Ex.fn : Ex → Int | .mk _ f _ _ _ _ _ _ _ => f
def Ex.op : Ex → Int | .mk _ _ o _ _ _ _ _ _ => o
def Ex.num : Ex → Int | .mk _ _ _ n _ _ _ _ _ => n
def Ex.metric : Ex → ByteArray | .mk _ _ _ _ m _ _ _ _ => m
def Ex.mats : Ex → List Mat | .mk _ _ _ _ _ m _ _ _ => m
def Ex.span : Ex → Int | .mk _ _ _ _ _ _ s _ _ => s
def Ex.names : Ex → List ByteArray | .mk _ _ _ _ _ _ _ n _ => n
def Ex.kids : Ex → List Ex | .mk _ _ _ _ _ _ _ _ k => k
inductive IsEx (n : Nat) (w : World) : Ex → List Value → Prop where
  | mk {kind fn op num : Int} {metric : ByteArray} {mats : List Mat} {span : Int} {names : List ByteArray} {kids : List Ex} {vm vn vk : Value} {rows : List (List Value)}
      (hs : metric.size ≤ maxLen) (hm : IsMats n w vm mats) (hn : IsStrs n w vn names) (hk : Arr n w vk 9 rows) (hl : rows.length = kids.length)
      (hr : ∀ (k : Nat) (r : List Value) (e : Ex), rows[k]? = some r → kids[k]? = some e → IsEx n w e r) :
      IsEx n w (.mk kind fn op num metric mats span names kids) [.int .i64 kind, .int .i64 fn, .int .i64 op, .int .i64 num, .string metric, vm, .int .i64 span, vn, vk]
theorem IsEx.mono {n m : Nat} {w w' : World} {e : Ex} {cs : List Value} (h : IsEx n w e cs) (hb : Below n w w') (hm : n ≤ m) : IsEx m w' e cs := by
  induction h with
  | mk hs h1 h2 h3 hl _ ih => exact .mk hs (h1.mono hb hm) (h2.mono hb hm) (h3.mono hb hm) hl fun k r e hr he => ih k r e hr he
def IsExs (n : Nat) (w : World) (v : Value) (l : List Ex) : Prop :=
  ∃ rows : List (List Value), Arr n w v 9 rows ∧ rows.length = l.length ∧ ∀ (k : Nat) (r : List Value) (e : Ex), rows[k]? = some r → l[k]? = some e → IsEx n w e r
theorem IsExs.mono {n m : Nat} {w w' : World} {v : Value} {l : List Ex} (h : IsExs n w v l) (hb : Below n w w') (hm : n ≤ m) : IsExs m w' v l := by
  obtain ⟨rows, h1, h2, h3⟩ := h
  exact ⟨rows, h1.mono hb hm, h2, fun k r e hr he => (h3 k r e hr he).mono hb hm⟩
theorem IsExs.open {n : Nat} {w : World} {v : Value} {l : List Ex} (h : IsExs n w v l) : ∃ p cap, v = .slice p l.length cap ∧ l.length ≤ cap ∧ cap ≤ maxLen ∧ l.length ≤ maxLen := by
  obtain ⟨rows, ⟨p, cap, hv, h1, h2, _⟩, hl, _⟩ := h
  rw [hl] at hv h1
  exact ⟨p, cap, hv, h1, h2, by omega⟩
theorem IsEx.cells {n : Nat} {w : World} {e : Ex} {cs : List Value} (h : IsEx n w e cs) :
    ∃ vm vn vk, cs = [.int .i64 e.kind, .int .i64 e.fn, .int .i64 e.op, .int .i64 e.num, .string e.metric, vm, .int .i64 e.span, vn, vk] ∧
      e.metric.size ≤ maxLen ∧ IsMats n w vm e.mats ∧ IsStrs n w vn e.names ∧ IsExs n w vk e.kids := by
  cases h with
  | mk hs h1 h2 h3 hl hr => exact ⟨_, _, _, rfl, hs, h1, h2, _, h3, hl, hr⟩
theorem IsExs.get {n : Nat} {w : World} {p : Option Addr} {len cap : Nat} {l : List Ex} (h : IsExs n w (.slice p len cap) l) {k : Nat} (hk : k < l.length) :
    ∃ b off r0 r1 r2 r3 r4 r5 r6 r7 r8, p = some ⟨b, off, none⟩ ∧ b < n ∧ IsEx n w l[k] [r0, r1, r2, r3, r4, r5, r6, r7, r8] ∧
      w.cell? ⟨b, off + k * 9, none⟩ = some r0 ∧ w.cell? ⟨b, off + k * 9 + 1, none⟩ = some r1 ∧ w.cell? ⟨b, off + k * 9 + 2, none⟩ = some r2 ∧
      w.cell? ⟨b, off + k * 9 + 3, none⟩ = some r3 ∧ w.cell? ⟨b, off + k * 9 + 4, none⟩ = some r4 ∧ w.cell? ⟨b, off + k * 9 + 5, none⟩ = some r5 ∧
      w.cell? ⟨b, off + k * 9 + 6, none⟩ = some r6 ∧ w.cell? ⟨b, off + k * 9 + 7, none⟩ = some r7 ∧ w.cell? ⟨b, off + k * 9 + 8, none⟩ = some r8 := by
  obtain ⟨rows, h1, h2, h3⟩ := h
  have hk' : k < rows.length := by omega
  obtain ⟨b, off, hp, hb, hc⟩ := h1.at k rows[k] (by simp [hk'])
  have he := h3 k rows[k] l[k] (by simp [hk']) (by simp [hk])
  obtain ⟨vm, vn, vk, hcs, _⟩ := he.cells
  rw [hcs] at he hc
  exact ⟨b, off, _, _, _, _, _, _, _, _, _, hp, hb, he, hc 0 _ rfl, hc 1 _ rfl, hc 2 _ rfl, hc 3 _ rfl, hc 4 _ rfl, hc 5 _ rfl, hc 6 _ rfl, hc 7 _ rfl, hc 8 _ rfl⟩
end Go.Proofs.YtdjdikiimhhjpaaGreatDoor
namespace Go.Proofs.YtdjdikiimhhjpaaGreatDoor
open Go.RowKit
set_option linter.unusedSimpArgs false
set_option linter.unusedVariables false
theorem Ex.ind {P : Ex → Prop} (h : ∀ e : Ex, (∀ k ∈ e.kids, P k) → P e) : ∀ e, P e := by
  have key : ∀ n : Nat, ∀ e : Ex, SizeOf.sizeOf e ≤ n → P e := by
    intro n
    induction n with
    | zero => intro e he; cases e; simp at he
    | succ n ih =>
      intro e he; refine h e fun k hk => ih k ?_
      cases e with
      | mk a b c d f g i j ks =>
        have := List.sizeOf_lt_of_mem hk; simp only [Ex.kids] at this
        simp at he
        omega
  exact fun e => key _ e (Nat.le_refl _)
theorem snoc_ind {α : Type} {P : List α → Prop} (l : List α) (nil : P []) (snoc : ∀ l x, P l → P (l ++ [x])) : P l := by
  have : ∀ r : List α, P r.reverse := by
    intro r
    induction r with
    | nil => exact nil
    | cons x r ih => rw [List.reverse_cons]; exact snoc _ _ ih
  have h := this l.reverse
  rwa [List.reverse_reverse] at h
noncomputable instance : DecidableEq Ex := fun a b => Classical.propDecidable (a = b)
mutual
def Ex.size : Ex → Nat
  | .mk _ _ _ _ _ _ _ _ ks => 1 + sizes ks
def sizes : List Ex → Nat
  | [] => 0
  | k :: ks => k.size + sizes ks
end
mutual
def Ex.deep : Ex → Nat
  | .mk _ _ _ _ _ _ _ _ ks => deeps ks + 1
def deeps : List Ex → Nat
  | [] => 0
  | k :: ks => max k.deep (deeps ks)
end
mutual
def Ex.flat : Ex → List Ex
  | .mk a b c d e f g h ks => .mk a b c d e f g h ks :: flats ks
def flats : List Ex → List Ex
  | [] => []
  | k :: ks => k.flat ++ flats ks
end
theorem Ex.size_eq (e : Ex) : e.size = 1 + sizes e.kids := by cases e; simp [Ex.size, Ex.kids]
theorem Ex.deep_eq (e : Ex) : e.deep = deeps e.kids + 1 := by cases e; simp [Ex.deep, Ex.kids]
theorem Ex.flat_eq (e : Ex) : e.flat = e :: flats e.kids := by cases e; simp [Ex.flat, Ex.kids]
theorem Ex.eq_mk (e : Ex) : e = .mk e.kind e.fn e.op e.num e.metric e.mats e.span e.names e.kids := by cases e; rfl
theorem Ex.ext {a b : Ex} (h1 : a.kind = b.kind) (h2 : a.fn = b.fn) (h3 : a.op = b.op) (h4 : a.num = b.num) (h5 : a.metric = b.metric) (h6 : a.mats = b.mats) (h7 : a.span = b.span)
    (h8 : a.names = b.names) (h9 : a.kids = b.kids) : a = b := by
  cases a; cases b
  simp only [Ex.kind, Ex.fn, Ex.op, Ex.num, Ex.metric, Ex.mats, Ex.span, Ex.names, Ex.kids] at *
  subst h1 h2 h3 h4 h5 h6 h7 h8 h9
  rfl
theorem sizes_append (a b : List Ex) : sizes (a ++ b) = sizes a + sizes b := by
  induction a with
  | nil => simp [sizes]
  | cons k a ih => simp only [List.cons_append, sizes, ih]; omega
theorem deeps_append (a b : List Ex) : deeps (a ++ b) = max (deeps a) (deeps b) := by
  induction a with
  | nil => simp [deeps]
  | cons k a ih => simp only [List.cons_append, deeps, ih]; omega
theorem flats_append (a b : List Ex) : flats (a ++ b) = flats a ++ flats b := by
  induction a with
  | nil => simp [flats]
  | cons k a ih => simp only [List.cons_append, flats, ih, List.append_assoc]
theorem sizes_step {l : List Ex} {k : Nat} (h : k < l.length) : sizes (l.take (k + 1)) = sizes (l.take k) + l[k].size := by
  rw [List.take_succ_eq_append_getElem h, sizes_append]; simp [sizes]
theorem deeps_step {l : List Ex} {k : Nat} (h : k < l.length) : deeps (l.take (k + 1)) = max (deeps (l.take k)) l[k].deep := by
  rw [List.take_succ_eq_append_getElem h, deeps_append]; simp [deeps]
theorem flats_step {l : List Ex} {k : Nat} (h : k < l.length) : flats (l.take (k + 1)) = flats (l.take k) ++ l[k].flat := by
  rw [List.take_succ_eq_append_getElem h, flats_append]; simp [flats]
theorem size_le_sizes {l : List Ex} {k : Ex} (h : k ∈ l) : k.size ≤ sizes l := by
  induction l with
  | nil => simp at h
  | cons x l ih =>
    simp only [sizes]; rcases List.mem_cons.1 h with rfl | h
    · omega
    · have := ih h; omega
theorem sizes_take_le (l : List Ex) (k : Nat) : sizes (l.take k) ≤ sizes l := by
  have := sizes_append (l.take k) (l.drop k)
  rw [List.take_append_drop] at this
  omega
theorem length_le_sizes (l : List Ex) : l.length ≤ sizes l := by
  induction l with
  | nil => simp [sizes]
  | cons x l ih => simp only [sizes, List.length_cons]; have := x.size_eq; omega
theorem Ex.size_pos (e : Ex) : 1 ≤ e.size := by have := e.size_eq; omega
theorem flat_length : ∀ e : Ex, e.flat.length = e.size := by
  refine Ex.ind fun e ih => ?_
  rw [Ex.flat_eq, Ex.size_eq, List.length_cons]
  have : ∀ l : List Ex, (∀ k ∈ l, k.flat.length = k.size) → (flats l).length = sizes l := by
    intro l
    induction l with
    | nil => intro _; simp [flats, sizes]
    | cons x l ih => intro h; simp only [flats, sizes, List.length_append]; rw [h x (by simp), ih (fun k hk => h k (by simp [hk]))]
  rw [this _ ih]; omega
theorem flats_length (l : List Ex) : (flats l).length = sizes l := by
  induction l with
  | nil => simp [flats, sizes]
  | cons x l ih => simp only [flats, sizes, List.length_append, ih, flat_length]
theorem deep_le_size : ∀ e : Ex, e.deep ≤ e.size := by
  refine Ex.ind fun e ih => ?_
  rw [Ex.deep_eq, Ex.size_eq]
  have : ∀ l : List Ex, (∀ k ∈ l, k.deep ≤ k.size) → deeps l ≤ sizes l := by
    intro l
    induction l with
    | nil => intro _; simp [deeps, sizes]
    | cons x l ih => intro h; simp only [deeps, sizes]; have h1 := h x (by simp); have h2 := ih (fun k hk => h k (by simp [hk])); omega
  have := this _ ih; omega
theorem deeps_le_sizes (l : List Ex) : deeps l ≤ sizes l := by
  induction l with
  | nil => simp [deeps, sizes]
  | cons x l ih => simp only [deeps, sizes]; have := deep_le_size x; omega
def Ex.num64 (e : Ex) : Prop := ∀ x ∈ e.flat, -9223372036854775808 ≤ x.num ∧ x.num ≤ 9223372036854775807
theorem flats_iff {x : Ex} : ∀ {l : List Ex}, x ∈ flats l ↔ ∃ k ∈ l, x ∈ k.flat
  | [] => by simp [flats]
  | y :: l => by simp only [flats, List.mem_append, flats_iff (l := l), List.mem_cons, exists_eq_or_imp]
theorem Ex.num64.self {e : Ex} (h : e.num64) : -9223372036854775808 ≤ e.num ∧ e.num ≤ 9223372036854775807 := h e (by rw [Ex.flat_eq]; exact List.mem_cons_self)
theorem Ex.num64.kid {e k : Ex} (h : e.num64) (hk : k ∈ e.kids) : k.num64 := fun x hx => h x (by rw [Ex.flat_eq]; exact List.mem_cons_of_mem _ (flats_iff.2 ⟨k, hk, hx⟩))
theorem Ex.num64_of {e : Ex} (h : -9223372036854775808 ≤ e.num ∧ e.num ≤ 9223372036854775807) (hk : ∀ k ∈ e.kids, k.num64) : e.num64 := fun x hx => by
  rw [Ex.flat_eq] at hx
  rcases List.mem_cons.1 hx with rfl | hx
  · exact h
  · obtain ⟨k, h1, h2⟩ := flats_iff.1 hx
    exact hk k h1 x h2
def weigh : Nat → Ex → Int → Int
  | 0, _, most => most + 1
  | d + 1, e, most => e.kids.foldl (fun n k => if n ≤ most then n + weigh d k (most - n) else n) (1 + min (e.mats.length : Int) most + min (e.names.length : Int) most)
def weighTo (d : Nat) (e : Ex) (most : Int) (ks : List Ex) : Int :=
  ks.foldl (fun n k => if n ≤ most then n + weigh d k (most - n) else n) (1 + min (e.mats.length : Int) most + min (e.names.length : Int) most)
theorem weigh_eq (d : Nat) (e : Ex) (most : Int) : weigh (d + 1) e most = weighTo d e most e.kids := rfl
theorem weighTo_step (d : Nat) (e : Ex) (most : Int) {l : List Ex} {k : Nat} (h : k < l.length) :
    weighTo d e most (l.take (k + 1)) = if weighTo d e most (l.take k) ≤ most then weighTo d e most (l.take k) + weigh d l[k] (most - weighTo d e most (l.take k)) else weighTo d e most (l.take k) := by
  rw [List.take_succ_eq_append_getElem h]; simp only [weighTo, List.foldl_append]; rfl
theorem weighTo_stuck (d : Nat) (e : Ex) (most : Int) (a b : List Ex) (h : most < weighTo d e most a) : weighTo d e most (a ++ b) = weighTo d e most a := by
  unfold weighTo at *
  rw [List.foldl_append]
  generalize List.foldl _ _ a = n at *
  induction b with
  | nil => rfl
  | cons k b ih => rw [List.foldl_cons, if_neg (by omega)]; exact ih
theorem weigh_bd : ∀ (d : Nat) (e : Ex) (most : Int), 0 ≤ most → 1 ≤ weigh d e most ∧ weigh d e most ≤ 2 * most + 2 := by
  intro d
  induction d with
  | zero => intro e most h; simp only [weigh]; omega
  | succ d ih =>
    intro e most h; rw [weigh_eq]; unfold weighTo; generalize hs : (1 + min (e.mats.length : Int) most + min (e.names.length : Int) most) = s; have h0 : 1 ≤ s ∧ s ≤ 2 * most + 2 := by omega
    clear hs; generalize e.kids = ks
    induction ks generalizing s with
    | nil => exact h0
    | cons k ks ihk =>
      rw [List.foldl_cons]; refine ihk _ ?_
      split
      · have := ih k (most - s) (by omega); omega
      · exact h0
theorem weighTo_bd (d : Nat) (e : Ex) (most : Int) (ks : List Ex) (h : 0 ≤ most) : 1 ≤ weighTo d e most ks ∧ weighTo d e most ks ≤ 2 * most + 2 := by
  have := weigh_bd (d + 1) (.mk 0 0 0 0 e.metric e.mats 0 e.names ks) most h
  exact this
theorem weigh_size : ∀ (d : Nat) (e : Ex) (most : Int), 0 ≤ most → weigh d e most ≤ most → (e.size : Int) ≤ weigh d e most := by
  intro d
  induction d with
  | zero => intro e most h hw; simp only [weigh] at hw; omega
  | succ d ih =>
    intro e most h hw; rw [weigh_eq] at hw ⊢; rw [Ex.size_eq]; have key : ∀ (l : List Ex), weighTo d e most l ≤ most → 1 + (sizes l : Int) ≤ weighTo d e most l := by
      intro l
      induction l using snoc_ind with
      | nil => intro _; simp [weighTo, sizes]; omega
      | snoc l k ihl =>
        intro hl; have hs : weighTo d e most (l ++ [k]) = if weighTo d e most l ≤ most then weighTo d e most l + weigh d k (most - weighTo d e most l) else weighTo d e most l := by
          simp only [weighTo, List.foldl_append]; rfl
        rw [hs] at hl ⊢
        by_cases hle : weighTo d e most l ≤ most
        · rw [if_pos hle] at hl ⊢
          have h1 := ihl hle; have h2 := ih k (most - weighTo d e most l) (by omega) (by omega); rw [sizes_append]; simp only [sizes]; omega
        · rw [if_neg hle] at hl; omega
    have := key _ hw; omega
def matShort (m : Mat) : Bool := decide (m.name.size ≤ 300) && decide (m.text.size ≤ 300)
mutual
def Ex.short : Ex → Bool
  | .mk _ _ _ _ me ms _ ns ks => decide (me.size ≤ 300) && ms.all matShort && ns.all (fun s => decide (s.size ≤ 300)) && shorts ks
def shorts : List Ex → Bool
  | [] => true
  | k :: ks => k.short && shorts ks
end
theorem Ex.short_eq (e : Ex) : e.short = (decide (e.metric.size ≤ 300) && e.mats.all matShort && e.names.all (fun s => decide (s.size ≤ 300)) && shorts e.kids) := by
  cases e; rfl
theorem shorts_append (a b : List Ex) : shorts (a ++ b) = (shorts a && shorts b) := by
  induction a with
  | nil => simp [shorts]
  | cons k a ih => simp only [List.cons_append, shorts, ih, Bool.and_assoc]
theorem shorts_step {l : List Ex} {k : Nat} (h : k < l.length) : shorts (l.take (k + 1)) = (shorts (l.take k) && l[k].short) := by
  rw [List.take_succ_eq_append_getElem h, shorts_append]; simp [shorts]
def light (e : Ex) (most : Int) : Bool := decide (weigh 40 e most ≤ most) && e.short
theorem light_size {e : Ex} {most : Int} (h : light e most = true) (hm : 0 ≤ most) : (e.size : Int) ≤ most := by
  unfold light at h
  simp only [Bool.and_eq_true, decide_eq_true_eq] at h
  have := weigh_size 40 e most hm h.1
  omega
end Go.Proofs.YtdjdikiimhhjpaaGreatDoor
namespace Go.Proofs.YtdjdikiimhhjpaaGreatDoor
open Go.RowKit
set_option linter.unusedSimpArgs false
set_option linter.unusedVariables false
def letC (c : UInt8) : Bool := (97 ≤ c && c ≤ 122) || c == 95
def dgC (c : UInt8) : Bool := 48 ≤ c && c ≤ 57
def wordC (c : UInt8) : Bool := letC c || dgC c
def blankC (c : UInt8) : Bool := c == 32 || c == 9 || c == 10 || c == 13
def notNl (c : UInt8) : Bool := c != 10
def hexC (c : UInt8) : Bool := dgC c || (97 ≤ c && c ≤ 102)
def hexV (c : UInt8) : Nat := if dgC c then c.toNat - 48 else c.toNat - 87
def signC (c : UInt8) : Bool := c == 60 || c == 62 || c == 43 || c == 45 || c == 42 || c == 61 || c == 40 || c == 41 || c == 123 || c == 125 || c == 91 || c == 93 || c == 44 || c == 58
def pairC (c : UInt8) : Bool := c == 61 || c == 33 || c == 60 || c == 62
def headIs (p : UInt8 → Bool) : List UInt8 → Bool
  | [] => false
  | c :: _ => p c
def runN (p : UInt8 → Bool) : List UInt8 → Nat
  | [] => 0
  | c :: r => if p c then runN p r + 1 else 0
def textAt : List UInt8 → Option (List UInt8 × Nat)
  | [] => none
  | [c] => if c == 34 then some ([], 1) else none
  | [c, d] =>
    if c == 34 then some ([], 1)
    else if c < 32 || 126 < c then none
    else if c == 92 then (if d == 92 || d == 34 then (textAt []).map fun x => (d :: x.1, x.2 + 2) else none)
    else (textAt [d]).map fun x => (c :: x.1, x.2 + 1)
  | [c, d, a] =>
    if c == 34 then some ([], 1)
    else if c < 32 || 126 < c then none
    else if c == 92 then (if d == 92 || d == 34 then (textAt [a]).map fun x => (d :: x.1, x.2 + 2) else none)
    else (textAt [d, a]).map fun x => (c :: x.1, x.2 + 1)
  | c :: d :: a :: b :: r =>
    if c == 34 then some ([], 1)
    else if c < 32 || 126 < c then none
    else if c == 92 then
      (if d == 92 || d == 34 then (textAt (a :: b :: r)).map fun x => (d :: x.1, x.2 + 2)
       else if d == 120 && hexC a && hexC b then (textAt r).map fun x => (UInt8.ofNat (16 * hexV a + hexV b) :: x.1, x.2 + 4) else none)
    else (textAt (d :: a :: b :: r)).map fun x => (c :: x.1, x.2 + 1)
def decV (l : List UInt8) : Nat := l.foldl (fun n c => n * 10 + (c.toNat - 48)) 0
def wholeOk : List UInt8 → Bool
  | [] => false
  | c :: r =>
    if c == 45 then r != [] && !headIs (· == 48) r && decide (decV r ≤ 9223372036854775808)
    else (!(c == 48) || r == []) && decide (decV (c :: r) < 9223372036854775808)
def wholeV : List UInt8 → Int
  | [] => 0
  | c :: r => if c == 45 then -(decV r : Int) else decV (c :: r)
structure Tok where
  kind : Int
  text : List UInt8
  num : Int
  pos : Int
deriving DecidableEq
def Tok.free (t : Tok) : Bool := t.kind == 4 && t.text != [41] && t.text != [93] && t.text != [125]
def signAt : List UInt8 → Option (Tok × Nat)
  | [] => none
  | c :: r => if pairC c && headIs (· == 61) r then some (⟨4, [c, 61], 0, 0⟩, 2) else if signC c then some (⟨4, [c], 0, 0⟩, 1) else none
def tokAt (free : Bool) : List UInt8 → Option (Tok × Nat)
  | [] => none
  | c :: r =>
    if letC c then (if runN wordC r + 1 ≤ 24 then some (⟨1, (c :: r).take (runN wordC r + 1), 0, 0⟩, runN wordC r + 1) else none)
    else if c == 34 then
      match textAt r with
      | some (x, n) => if x.length ≤ 64 then some (⟨3, x, 0, 0⟩, n + 1) else none
      | none => none
    else if dgC c || (c == 45 && free && headIs dgC r) then
      (if wholeOk ((c :: r).take (runN dgC r + 1)) && !headIs letC (r.drop (runN dgC r)) then
        some (⟨2, (c :: r).take (runN dgC r + 1), wholeV ((c :: r).take (runN dgC r + 1)), 0⟩, runN dgC r + 1) else none)
    else signAt (c :: r)
def scan : Nat → Bool → Nat → List UInt8 → Except Nat (List Tok)
  | 0, _, at', _ => .error at'
  | _ + 1, _, at', [] => .ok [⟨5, [], 0, at'⟩]
  | f + 1, free, at', c :: r =>
    if blankC c then scan f free (at' + 1) r
    else if c == 35 then scan f free (at' + (runN notNl r + 1)) (r.drop (runN notNl r))
    else match tokAt free (c :: r) with
      | none => .error at'
      | some (t, n) =>
        match scan f t.free (at' + n) ((c :: r).drop n) with
        | .ok l => .ok ({ t with pos := at' } :: l)
        | .error a => .error a
def lexL (free : Bool) (at' : Nat) (r : List UInt8) : Except Nat (List Tok) := scan (r.length + 1) free at' r
/-! ### runs -/
theorem runN_le (p : UInt8 → Bool) : ∀ l, runN p l ≤ l.length
  | [] => Nat.le_refl _
  | c :: r => by have := runN_le p r; simp only [runN]; split <;> simp <;> omega
theorem runN_all (p : UInt8 → Bool) : ∀ l : List UInt8, (l.take (runN p l)).all p = true
  | [] => rfl
  | c :: r => by
    simp only [runN]
    split
    · rename_i h; simp [h]; have := runN_all p r; rw [List.all_eq_true] at this; exact this
    · simp
theorem runN_stop (p : UInt8 → Bool) : ∀ l : List UInt8, headIs p (l.drop (runN p l)) = false
  | [] => rfl
  | c :: r => by
    simp only [runN]
    split
    · simp; exact runN_stop p r
    · rename_i h; simp [headIs]; simpa using h
theorem runN_eq {p : UInt8 → Bool} : ∀ {l : List UInt8} {n : Nat}, n ≤ l.length → (l.take n).all p = true → headIs p (l.drop n) = false → runN p l = n
  | [], n, h, _, _ => by simp at h; simp [runN, h]
  | c :: r, 0, _, _, h => by simp [headIs] at h; simp [runN, h]
  | c :: r, n + 1, hn, ha, hs => by
    simp only [List.take_succ_cons, List.all_cons, Bool.and_eq_true] at ha; simp only [runN, ha.1, if_true]; rw [runN_eq (by simpa using hn) ha.2 (by simpa using hs)]
theorem runN_app {p : UInt8 → Bool} : ∀ (l : List UInt8) {x : UInt8} (t : List UInt8), p x = false → runN p (l ++ x :: t) = runN p l
  | [], x, t, h => by simp [runN, h]
  | c :: r, x, t, h => by
    simp only [List.cons_append, runN]; rw [runN_app r t h]
/-! ### textAt, one byte after the other -/
theorem textAt_quote (r : List UInt8) : textAt (34 :: r) = some ([], 1) := by
  match r with
  | [] | [_] | [_, _] | _ :: _ :: _ :: _ => simp [textAt]
theorem textAt_bad {c : UInt8} (r : List UInt8) (h : c ≠ 34) (hb : c < 32 ∨ 126 < c) : textAt (c :: r) = none := by
  match r with
  | [] | [_] | [_, _] | _ :: _ :: _ :: _ => simp [textAt, h, hb]
theorem textAt_plain {c : UInt8} (r : List UInt8) (h : c ≠ 34) (h1 : 32 ≤ c) (h2 : c ≤ 126) (h3 : c ≠ 92) : textAt (c :: r) = (textAt r).map fun x => (c :: x.1, x.2 + 1) := by
  have hb : ¬ (c < 32 ∨ 126 < c) := by rintro (h | h) <;> simp [UInt8.lt_iff_toNat_lt, UInt8.le_iff_toNat_le] at * <;> omega
  match r with
  | [] => simp [textAt, h]
  | [_] | [_, _] | _ :: _ :: _ :: _ => simp [textAt, h, hb, h3]
theorem textAt_esc {d : UInt8} (r : List UInt8) (h : d = 92 ∨ d = 34) : textAt (92 :: d :: r) = (textAt r).map fun x => (d :: x.1, x.2 + 2) := by
  match r with
  | [] | [_] | _ :: _ :: _ => simp [textAt, h]
theorem textAt_hex {a b : UInt8} (r : List UInt8) (ha : hexC a = true) (hb : hexC b = true) : textAt (92 :: 120 :: a :: b :: r) = (textAt r).map fun x => (UInt8.ofNat (16 * hexV a + hexV b) :: x.1, x.2 + 4) := by
  simp [textAt, ha, hb]
theorem textAt_no {r : List UInt8} (h : headIs (fun d => d == 92 || d == 34) r = false) (h' : ∀ a b r', r = 120 :: a :: b :: r' → hexC a = false ∨ hexC b = false) : textAt (92 :: r) = none := by
  match r, h, h' with
  | [], _, _ => simp [textAt]
  | [d], h, _ => simp [headIs] at h; simp [textAt, h]
  | [d, a], h, _ => simp [headIs] at h; simp [textAt, h]
  | d :: a :: b :: r', h, h' =>
    simp [headIs] at h
    simp [textAt, h]
    intro hd; subst hd; rcases h' a b r' rfl with h1 | h1 <;> simp [h1]
theorem textAt_nil : textAt [] = none := rfl
theorem textAt_ind {P : List UInt8 → Prop} (h : ∀ l, (∀ l', l'.length < l.length → P l') → P l) (l : List UInt8) : P l := by
  have : ∀ n, ∀ l : List UInt8, l.length = n → P l := by
    intro n
    induction n using Nat.strongRecOn with
    | ind n ih => exact fun l hl => h l fun l' hl' => ih l'.length (by omega) l' rfl
  exact this _ l rfl
theorem tokAt_pos {free : Bool} {l : List UInt8} {t : Tok} {n : Nat} (h : tokAt free l = some (t, n)) : 0 < n := by
  unfold tokAt at h
  split at h
  · cases h
  · repeat' split at h
    all_goals first
      | (cases h; done)
      | (simp only [Option.some.injEq, Prod.mk.injEq] at h; obtain ⟨-, rfl⟩ := h; omega)
      | skip
    unfold signAt at h; simp only at h
    repeat' split at h
    all_goals first
      | (cases h; done)
      | (simp only [Option.some.injEq, Prod.mk.injEq] at h; obtain ⟨-, rfl⟩ := h; omega)
theorem tokAt_place {free : Bool} {l : List UInt8} {t : Tok} {n : Nat} (h : tokAt free l = some (t, n)) : t.pos = 0 := by
  unfold tokAt at h
  split at h
  · cases h
  · repeat' split at h
    all_goals first
      | (cases h; done)
      | (simp only [Option.some.injEq, Prod.mk.injEq] at h; obtain ⟨rfl, -⟩ := h; rfl)
      | skip
    unfold signAt at h; simp only at h
    repeat' split at h
    all_goals first
      | (cases h; done)
      | (simp only [Option.some.injEq, Prod.mk.injEq] at h; obtain ⟨rfl, -⟩ := h; rfl)
/-! ### scan does not hang on its fuel -/
theorem scan_fuel : ∀ (f g : Nat) (free : Bool) (at' : Nat) (r : List UInt8), r.length < f → r.length < g → scan f free at' r = scan g free at' r := by
  intro f
  induction f with
  | zero => intro _ _ _ r h; omega
  | succ f ih =>
    intro g free at' r h hg; obtain ⟨g, rfl⟩ : ∃ k, g = k + 1 := ⟨g - 1, by omega⟩; cases r with
    | nil => rfl
    | cons c r =>
      simp only [List.length_cons] at h hg; simp only [scan]
      by_cases hb : blankC c = true
      · simp only [hb, if_true]; exact ih g _ _ _ (by omega) (by omega)
      · by_cases hc : (c == 35) = true
        · simp only [hb, hc, if_true, Bool.false_eq_true, if_false]
          exact ih g _ _ _ (by simp; omega) (by simp; omega)
        · simp only [hb, hc, Bool.false_eq_true, if_false]
          cases ht : tokAt free (c :: r) with
          | none => rfl
          | some x =>
            obtain ⟨t, n⟩ := x; have hn := tokAt_pos ht; simp only; rw [ih g t.free (at' + n) ((c :: r).drop n) (by simp; omega) (by simp; omega)]
theorem lexL_nil (free : Bool) (at' : Nat) : lexL free at' [] = .ok [⟨5, [], 0, at'⟩] := rfl
theorem lexL_blank {c : UInt8} (free : Bool) (at' : Nat) (r : List UInt8) (h : blankC c = true) : lexL free at' (c :: r) = lexL free (at' + 1) r := by
  unfold lexL; simp [scan, h]
theorem lexL_note (free : Bool) (at' : Nat) (r : List UInt8) : lexL free at' (35 :: r) = lexL free (at' + (runN notNl r + 1)) (r.drop (runN notNl r)) := by
  unfold lexL
  have h : blankC 35 = false := by decide
  simp only [List.length_cons, scan, h, Bool.false_eq_true, if_false, beq_self_eq_true, if_true]
  exact scan_fuel _ _ _ _ _ (by simp; omega) (by omega)
theorem lexL_bad {c : UInt8} {free : Bool} (at' : Nat) {r : List UInt8} (h : blankC c = false) (h2 : c ≠ 35) (ht : tokAt free (c :: r) = none) : lexL free at' (c :: r) = .error at' := by
  unfold lexL; simp [scan, h, h2, ht]
theorem lexL_tok {c : UInt8} {free : Bool} (at' : Nat) {r : List UInt8} {t : Tok} {n : Nat} (h : blankC c = false) (h2 : c ≠ 35) (ht : tokAt free (c :: r) = some (t, n)) :
    lexL free at' (c :: r) = (lexL t.free (at' + n) ((c :: r).drop n)).map ({ t with pos := at' } :: ·) := by
  have hn := tokAt_pos ht
  have hb : (c == 35) = false := by simp [h2]
  unfold lexL
  simp only [List.length_cons, scan, h, Bool.false_eq_true, if_false, hb, ht]
  rw [scan_fuel (r.length + 1) (((c :: r).drop n).length + 1) t.free (at' + n) ((c :: r).drop n) (by simp; omega) (by omega)]
  cases scan (((c :: r).drop n).length + 1) t.free (at' + n) ((c :: r).drop n) <;> rfl
end Go.Proofs.YtdjdikiimhhjpaaGreatDoor
namespace Go.Proofs.YtdjdikiimhhjpaaGreatDoor
open Go.RowKit
set_option linter.unusedSimpArgs false
set_option linter.unusedVariables false
def signsL : List UInt8 := [48, 49, 50, 51, 52, 53, 54, 55, 56, 57, 97, 98, 99, 100, 101, 102]
def hexAt (n : Nat) : UInt8 := signsL.getD n 0
def qc (c : UInt8) : List UInt8 := if c = 92 ∨ c = 34 then [92, c] else if c < 32 ∨ 126 < c then [92, 120, hexAt (c.toNat / 16), hexAt (c.toNat % 16)] else [c]
def qs (l : List UInt8) : List UInt8 := l.flatMap qc
def quoteL (l : List UInt8) : List UInt8 := 34 :: qs l ++ [34]
theorem qs_snoc (l : List UInt8) (c : UInt8) : qs (l ++ [c]) = qs l ++ qc c := by simp [qs]
theorem qc_length (c : UInt8) : 1 ≤ (qc c).length ∧ (qc c).length ≤ 4 := by unfold qc; (repeat' split) <;> simp
theorem qs_length (l : List UInt8) : (qs l).length ≤ 4 * l.length := by
  induction l with
  | nil => simp [qs]
  | cons c l ih => have := (qc_length c).2; simp only [qs, List.flatMap_cons, List.length_append, List.length_cons] at *; omega
theorem quoteL_length (l : List UInt8) : (quoteL l).length ≤ 4 * l.length + 2 := by have := qs_length l; simp [quoteL]; omega
theorem bd_len (q l : List UInt8) (e : Nat) (h : q.length ≤ 9000000) (hl : l.length = q.length + e) (he : e ≤ 100) : l.length ≤ 10000000 := by omega
theorem e92 : (92 : Int) = ((92 : UInt8).toNat : Int) := rfl
theorem e34 : (34 : Int) = ((34 : UInt8).toNat : Int) := rfl
theorem hex_at (n : Nat) (h : n < (⟨#[48, 49, 50, 51, 52, 53, 54, 55, 56, 57, 97, 98, 99, 100, 101, 102]⟩ : ByteArray).size) : (⟨#[48, 49, 50, 51, 52, 53, 54, 55, 56, 57, 97, 98, 99, 100, 101, 102]⟩ : ByteArray)[n] = hexAt n := by
  have h' : n < signsL.length := h
  unfold hexAt
  rw [List.getD_eq_getElem?_getD, List.getElem?_eq_getElem h', Option.getD_some]
  rfl
theorem qc_two {c : UInt8} (h : c.toNat = 92 ∨ c.toNat = 34) : qc c = [92, c] := by
  unfold qc; rw [if_pos]
  rcases h with h | h
  · left; exact UInt8.toNat_inj.1 h
  · right; exact UInt8.toNat_inj.1 h
theorem qc_four {c : UInt8} (h : ¬ (c.toNat = 92 ∨ c.toNat = 34)) (h2 : c.toNat < 32 ∨ 126 < c.toNat) : qc c = [92, 120, hexAt (c.toNat / 16), hexAt (c.toNat % 16)] := by
  unfold qc
  rw [if_neg (by rintro (rfl | rfl) <;> exact h (by decide)), if_pos]
  rcases h2 with h2 | h2
  · left; exact UInt8.lt_iff_toNat_lt.2 h2
  · right; exact UInt8.lt_iff_toNat_lt.2 h2
theorem qc_one {c : UInt8} (h : ¬ (c.toNat = 92 ∨ c.toNat = 34)) (h2 : ¬ (c.toNat < 32 ∨ 126 < c.toNat)) : qc c = [c] := by
  unfold qc
  rw [if_neg (by rintro (rfl | rfl) <;> exact h (by decide)), if_neg]
  rintro (h3 | h3)
  · exact h2 (.inl (UInt8.lt_iff_toNat_lt.1 h3))
  · exact h2 (.inr (UInt8.lt_iff_toNat_lt.1 h3))
theorem take_snoc' (s : ByteArray) (k : Nat) (h : k < s.size) : s.data.toList.take (k + 1) = s.data.toList.take k ++ [s[k]] := by
  rw [List.take_succ_eq_append_getElem (by simpa using h)]; rfl
end Go.Proofs.YtdjdikiimhhjpaaGreatDoor
