/- A Builder that is written through a pointer: what a write keeps; FormatInt at base 10. -/
import Derived.Test.YtgmdlnobajmjfaaDoorShBl
import Derived.Test.YtgmdlnobajmjfaaDoorShelf
import Derived.Test.YtgmdlnobajmjfaaDoorQt0
import Derived.Shelf.Strings.BuilderK
import Derived.Lib.AppendIntMem
import Derived.Lib.ItoaLen
import Derived.Deep.CutRange
namespace Go.Proofs.YtgmdlnobajmjfaaDoor
open Go.RowKit
set_option linter.unusedSimpArgs false
set_option linter.unusedVariables false

/-- Block b is a Builder of the call's own (from B on) that holds these bytes. -/
def Bld (B b : Nat) (l : List UInt8) (w : World) : Prop := Lib.IsBuilderF 60 5 B b (Lib.byteCells l) w
/-- Whatever is not block b and no row of bytes stands as it stood. -/
def Kp (b : Nat) (w w' : World) : Prop := Lib.OthersKept 5 (some b) w w'
theorem Kp.refl (b : Nat) (w : World) : Kp b w w := Lib.OthersKept.refl _ _ _
theorem Kp.trans {b : Nat} {a c d : World} (h : Kp b a c) (k : Kp b c d) : Kp b a d := Lib.OthersKept.trans h k
theorem Kp.of {b : Nat} {w w' : World} (hb : Below w.heap.size w w') : Kp b w w' := fun k o hk _ _ => by
  rw [hb.block k (Array.getElem?_eq_some_iff.1 hk).1]; exact hk
theorem Kp.alloc (b : Nat) (w : World) (o : Obj) : Kp b w (w.alloc o) := Kp.of ((Below.refl _ _).alloc (Nat.le_refl _) _)
theorem Bld.keep {B b : Nat} {l : List UInt8} {w w' : World} (h : Bld B b l w) (hb : Below w.heap.size w w') : Bld B b l w' := by
  have key : ∀ p, Lib.BuilderAtF 60 5 B b p (Lib.byteCells l) w → Lib.BuilderAtF 60 5 B b p (Lib.byteCells l) w' := by
    rintro p ⟨h1, v, h2, h3, h4⟩
    refine ⟨h1, v, by rw [hb.block b (Array.getElem?_eq_some_iff.1 h2).1]; exact h2, ⟨h3.1, ?_⟩, h4⟩
    rcases h3.2 with hn | ⟨g, cap, cur, fz, rfl, hB, hg, rest⟩
    · exact .inl hn
    · exact .inr ⟨g, cap, cur, fz, rfl, hB, by rw [hb.block g (Array.getElem?_eq_some_iff.1 hg).1]; exact hg, rest⟩
  exact h.elim (fun x => .inl (key _ x)) (fun x => .inr (key _ x))
theorem Bld.blk {B b : Nat} {l : List UInt8} {w : World} (h : Bld B b l w) : ∃ cs, w.heap[b]? = some (.cells cs 60 (0, 0)) := by
  rcases h with ⟨_, v, h, _⟩ | ⟨_, v, h, _⟩ <;> exact ⟨_, h⟩
theorem Bld.lt {B b : Nat} {l : List UInt8} {w : World} (h : Bld B b l w) : b < w.heap.size := (Array.getElem?_eq_some_iff.1 h.blk.choose_spec).1
theorem Bld.ne {B b g t : Nat} {l : List UInt8} {w : World} {cs : List Value} (h : Bld B b l w) (hg : Blk w g t cs) (ht : t ≠ 60) : g ≠ b := by
  rintro rfl
  obtain ⟨c, hc⟩ := h.blk
  have hg' : w.heap[g]? = some (.cells cs.toArray t (0, 0)) := hg
  rw [hg'] at hc
  cases hc
  exact ht rfl
theorem Blk.kp {b g t : Nat} {cs : List Value} {w w' : World} (h : Blk w g t cs) (hk : Kp b w w') (hg : g ≠ b) (ht : t ≠ 5) : Blk w' g t cs :=
  hk g _ h (by simpa using hg) (fun c fz e => by cases e; exact ht rfl)
theorem Bld.fresh (w : World) : Bld w.heap.size w.heap.size [] (w.alloc (.cells #[.pointer none, .slice none 0 0] 60)) := Lib.IsBuilderF.of (Lib.fresh_isBuilder _ _ w)

theorem bWS (B b : Nat) (l : List UInt8) (s : ByteArray) (W : World) (h : Bld B b l W) (hl : l.length + s.size ≤ 1000000000) (hB : B ≤ W.heap.size) :
    Calls Tryd.prog 38 #[.pointer (some ⟨b, 0, none⟩), .string s] W fun e w' => e = .returned (.tuple #[.int .i64 s.size, .nilIface]) ∧ Bld B b (l ++ s.data.toList) w' ∧ Below B W w' ∧ Kp b W w' :=
  (Any.Builder_WriteString_k Tryd.bl166 Tryd.blE166 B b (Lib.byteCells l) s W h (by simp [Lib.byteCells]; omega) hB).mono fun e w' ⟨h1, h2, h3, h4⟩ =>
    ⟨h1, by unfold Bld; rw [Lib.byteCells_append, ← Lib.strCells_eq]; exact .inr h2, h3, h4⟩
theorem bWB (B b : Nat) (l : List UInt8) (c : UInt8) (v : Int) (hv : v = (c.toNat : Int)) (W : World) (h : Bld B b l W) (hl : l.length ≤ 1000000000) (hB : B ≤ W.heap.size) :
    Calls Tryd.prog 40 #[.pointer (some ⟨b, 0, none⟩), .int .u8 v] W fun e w' => e = .returned .nilIface ∧ Bld B b (l ++ [c]) w' ∧ Below B W w' ∧ Kp b W w' :=
  (Any.Builder_WriteByte_k Tryd.bl167 Tryd.blE167 B b (Lib.byteCells l) v W h (by simp [Lib.byteCells]; omega) hB).mono fun e w' ⟨h1, h2, h3, h4⟩ =>
    ⟨h1, by unfold Bld; rw [Lib.byteCells_append]; subst hv; exact .inr h2, h3, h4⟩
theorem bStr (B b : Nat) (l : List UInt8) (W : World) (h : Bld B b l W) (hB : B ≤ W.heap.size) :
    Calls Tryd.prog 42 #[.pointer (some ⟨b, 0, none⟩)] W fun e w' => e = .returned (.string ⟨l.toArray⟩) ∧ Bld B b l w' ∧ Below B W w' ∧ Kp b W w' :=
  Tryd.Builder_String_any_k B b l W h hB

/-- The table of powers stands as the program's text lays it, whatever is done from block B on. -/
def TB (B : Nat) (w : World) : Prop := Lib.TabBelow Tryd.prog B w "internal/strconv.uint64pow10" .u64 Lib.pow10Tab
theorem TB.on {B : Nat} {w w' : World} (h : TB B w) (hb : Below B w w') : TB B w' := Lib.TabBelow.on h hb
theorem TB.less {B C : Nat} {w : World} (h : TB B w) (hB : B ≤ C) : TB C w := fun w' hb => h w' (hb.mono hB)
theorem bFmt (n : Int) (hn : -9223372036854775808 ≤ n ∧ n ≤ 9223372036854775807) (B : Nat) (W : World) (hT : TB B W) :
    Calls Tryd.prog 41 #[.int .i64 n, .int .i64 10] W fun e w' => e = .returned (.string ⟨(Lib.itoa n).toArray⟩) ∧ Below W.heap.size W w' :=
  (Tryd.strconv_FormatInt_10 n hn.1 hn.2 W hT.here).mono fun e w' ⟨h1, k, os, h2⟩ => ⟨h1, by subst h2; exact Lib.below_grow _ W (Nat.le_refl _) k os⟩
end Go.Proofs.YtgmdlnobajmjfaaDoor
