/- Two copies and two blocks for them, made in whatever order. No walk here. -/
import Derived.Test.YtikaiiamoaahdaaCopy0
import Derived.Deep.RegionHeld
import Derived.Laws.Tables
namespace Go.Proofs.Ytikaiiamoaahdaa
open Go.RowKit
set_option linter.unusedSimpArgs false
set_option linter.unusedVariables false

theorem setRow_other (w : World) (g k : Nat) (cs : Array Value) (h : k ≠ g) : (w.setRow g cs).heap[k]? = w.heap[k]? := by
  show (w.heap.modify g _)[k]? = _
  rw [Array.getElem?_modify, if_neg (by omega)]

def Cpd (T : Nat) (e : Ex) (w0 : World) (z1 z2 : List Value) (oc od : Option (List Value)) (og oh : Option Nat) (X : World) : Prop :=
  Below w0.heap.size w0 X ∧ ∃ lo hi lo2 hi2 : Nat,
    (∀ cs, oc = some cs → w0.heap.size ≤ lo ∧ hi ≤ X.heap.size ∧ Fresh lo hi X e cs) ∧
    (∀ ds, od = some ds → hi ≤ lo2 ∧ w0.heap.size ≤ lo2 ∧ hi2 ≤ X.heap.size ∧ Fresh lo2 hi2 X e ds) ∧
    (∀ g, og = some g → w0.heap.size ≤ g ∧ Blk X g T z1 ∧ (oc ≠ none → g < lo ∨ hi ≤ g) ∧ (od ≠ none → g < lo2 ∨ hi2 ≤ g)) ∧
    (∀ g, oh = some g → w0.heap.size ≤ g ∧ Blk X g T z2 ∧ (oc ≠ none → g < lo ∨ hi ≤ g) ∧ (od ≠ none → g < lo2 ∨ hi2 ≤ g)) ∧
    (∀ g h, og = some g → oh = some h → g ≠ h)

theorem Cpd.start {T : Nat} {e : Ex} {w0 X : World} {z1 z2 : List Value} (h : Below w0.heap.size w0 X) : Cpd T e w0 z1 z2 none none none none X :=
  ⟨h, 0, 0, 0, 0, fun _ h => (nomatch h), fun _ h => (nomatch h), fun _ h => (nomatch h), fun _ h => (nomatch h), fun _ _ h => (nomatch h)⟩
theorem Cpd.c {T : Nat} {e : Ex} {w0 X Y : World} {z1 z2 cs : List Value} {og oh : Option Nat} (h : Cpd T e w0 z1 z2 none none og oh X) (hf : Fresh X.heap.size Y.heap.size Y e cs) (k : Below X.heap.size X Y) : Cpd T e w0 z1 z2 (some cs) none og oh Y := by
  obtain ⟨hb, lo, hi, lo2, hi2, h1, h2, h3, h4, h5⟩ := h
  refine ⟨hb.trans (k.mono hb.size), X.heap.size, Y.heap.size, lo2, hi2, fun cs' e => by cases e; exact ⟨hb.size, Nat.le_refl _, hf⟩, fun _ e => (nomatch e), fun g e => ?_, fun g e => ?_, h5⟩
  · obtain ⟨a1, a2, a3, a4⟩ := h3 g e
    exact ⟨a1, a2.keep k, fun _ => .inl a2.lt, fun h => absurd rfl h⟩
  · obtain ⟨a1, a2, a3, a4⟩ := h4 g e
    exact ⟨a1, a2.keep k, fun _ => .inl a2.lt, fun h => absurd rfl h⟩
theorem Cpd.d {T : Nat} {e : Ex} {w0 X Y : World} {z1 z2 cs ds : List Value} {og oh : Option Nat} (h : Cpd T e w0 z1 z2 (some cs) none og oh X) (hf : Fresh X.heap.size Y.heap.size Y e ds) (k : Below X.heap.size X Y) : Cpd T e w0 z1 z2 (some cs) (some ds) og oh Y := by
  obtain ⟨hb, lo, hi, lo2, hi2, h1, h2, h3, h4, h5⟩ := h
  obtain ⟨b1, b2, b3⟩ := h1 cs rfl
  refine ⟨hb.trans (k.mono hb.size), lo, hi, X.heap.size, Y.heap.size, fun cs' e => by cases e; exact ⟨b1, Nat.le_trans b2 k.size, b3.keep fun j _ hj => k.block j (by omega)⟩, fun _ e => by cases e; exact ⟨b2, hb.size, Nat.le_refl _, hf⟩, fun g e => ?_, fun g e => ?_, h5⟩
  · obtain ⟨a1, a2, a3, a4⟩ := h3 g e
    exact ⟨a1, a2.keep k, fun _ => a3 (by simp), fun _ => .inl a2.lt⟩
  · obtain ⟨a1, a2, a3, a4⟩ := h4 g e
    exact ⟨a1, a2.keep k, fun _ => a3 (by simp), fun _ => .inl a2.lt⟩
theorem Cpd.g {T : Nat} {e : Ex} {w0 X : World} {z1 z2 : List Value} {oc od : Option (List Value)} {oh : Option Nat} (h : Cpd T e w0 z1 z2 oc od none oh X) : Cpd T e w0 z1 z2 oc od (some X.heap.size) oh (X.alloc (.cells z1.toArray T)) := by
  obtain ⟨hb, lo, hi, lo2, hi2, h1, h2, h3, h4, h5⟩ := h
  have k : Below X.heap.size X (X.alloc (.cells z1.toArray T)) := (Below.refl _ _).alloc (Nat.le_refl _) _
  have hX := k.size
  refine ⟨hb.trans (k.mono hb.size), lo, hi, lo2, hi2, fun cs e => ?_, fun ds e => ?_, fun g e => ?_, fun g e => ?_, fun g h e1 e2 => ?_⟩
  · obtain ⟨b1, b2, b3⟩ := h1 cs e
    exact ⟨b1, Nat.le_trans b2 hX, b3.keep fun j _ hj => k.block j (by omega)⟩
  · obtain ⟨b1, b2, b3, b4⟩ := h2 ds e
    exact ⟨b1, b2, Nat.le_trans b3 hX, b4.keep fun j _ hj => k.block j (by omega)⟩
  · cases e
    refine ⟨hb.size, Blk.new _ _ _, fun ho => ?_, fun ho => ?_⟩
    · obtain ⟨c, hc⟩ := Option.ne_none_iff_exists'.1 ho
      exact .inr (h1 c hc).2.1
    · obtain ⟨c, hc⟩ := Option.ne_none_iff_exists'.1 ho
      exact .inr (h2 c hc).2.2.1
  · obtain ⟨a1, a2, a3, a4⟩ := h4 g e
    exact ⟨a1, a2.keep k, a3, a4⟩
  · cases e1
    have := (h4 h e2).2.1.lt
    omega
theorem Cpd.h {T : Nat} {e : Ex} {w0 X : World} {z1 z2 : List Value} {oc od : Option (List Value)} {og : Option Nat} (h : Cpd T e w0 z1 z2 oc od og none X) : Cpd T e w0 z1 z2 oc od og (some X.heap.size) (X.alloc (.cells z2.toArray T)) := by
  obtain ⟨hb, lo, hi, lo2, hi2, h1, h2, h3, h4, h5⟩ := h
  have k : Below X.heap.size X (X.alloc (.cells z2.toArray T)) := (Below.refl _ _).alloc (Nat.le_refl _) _
  have hX := k.size
  refine ⟨hb.trans (k.mono hb.size), lo, hi, lo2, hi2, fun cs e => ?_, fun ds e => ?_, fun g e => ?_, fun g e => ?_, fun g h e1 e2 => ?_⟩
  · obtain ⟨b1, b2, b3⟩ := h1 cs e
    exact ⟨b1, Nat.le_trans b2 hX, b3.keep fun j _ hj => k.block j (by omega)⟩
  · obtain ⟨b1, b2, b3, b4⟩ := h2 ds e
    exact ⟨b1, b2, Nat.le_trans b3 hX, b4.keep fun j _ hj => k.block j (by omega)⟩
  · obtain ⟨a1, a2, a3, a4⟩ := h3 g e
    exact ⟨a1, a2.keep k, a3, a4⟩
  · cases e
    refine ⟨hb.size, Blk.new _ _ _, fun ho => ?_, fun ho => ?_⟩
    · obtain ⟨c, hc⟩ := Option.ne_none_iff_exists'.1 ho
      exact .inr (h1 c hc).2.1
    · obtain ⟨c, hc⟩ := Option.ne_none_iff_exists'.1 ho
      exact .inr (h2 c hc).2.2.1
  · cases e2
    have := (h3 g e1).2.1.lt
    omega
theorem Cpd.setG {T : Nat} {e : Ex} {w0 X : World} {z1 z2 cs ds : List Value} {g h : Nat} (H : Cpd T e w0 z1 z2 (some cs) (some ds) (some g) (some h) X) (u : List Value) : Cpd T e w0 u z2 (some cs) (some ds) (some g) (some h) (X.setRow g u.toArray) := by
  obtain ⟨hb, lo, hi, lo2, hi2, h1, h2, h3, h4, h5⟩ := H
  obtain ⟨b1, b2, b3⟩ := h1 _ rfl
  obtain ⟨d1, d2, d3, d4⟩ := h2 _ rfl
  obtain ⟨a1, a2, a3, a4⟩ := h3 _ rfl
  obtain ⟨c1, c2, c3, c4⟩ := h4 _ rfl
  have a3 := a3 (by simp)
  have a4 := a4 (by simp)
  have hne := h5 _ _ rfl rfl
  refine ⟨below_setRow hb a1 _, lo, hi, lo2, hi2, fun _ e => by cases e; exact ⟨b1, by rw [setRow_size]; exact b2, b3.keep fun j _ _ => setRow_other _ _ _ _ (by omega)⟩, fun _ e => by cases e; exact ⟨d1, d2, by rw [setRow_size]; exact d3, d4.keep fun j _ _ => setRow_other _ _ _ _ (by omega)⟩,
    fun _ e => by cases e; exact ⟨a1, a2.row _, fun _ => a3, fun _ => a4⟩, fun _ e => by cases e; exact ⟨c1, (setRow_other _ _ _ _ (Ne.symm hne)).trans c2, c3, c4⟩, h5⟩
theorem Cpd.setH {T : Nat} {e : Ex} {w0 X : World} {z1 z2 cs ds : List Value} {g h : Nat} (H : Cpd T e w0 z1 z2 (some cs) (some ds) (some g) (some h) X) (u : List Value) : Cpd T e w0 z1 u (some cs) (some ds) (some g) (some h) (X.setRow h u.toArray) := by
  obtain ⟨hb, lo, hi, lo2, hi2, h1, h2, h3, h4, h5⟩ := H
  obtain ⟨b1, b2, b3⟩ := h1 _ rfl
  obtain ⟨d1, d2, d3, d4⟩ := h2 _ rfl
  obtain ⟨a1, a2, a3, a4⟩ := h3 _ rfl
  obtain ⟨c1, c2, c3, c4⟩ := h4 _ rfl
  have c3 := c3 (by simp)
  have c4 := c4 (by simp)
  have hne := h5 _ _ rfl rfl
  refine ⟨below_setRow hb c1 _, lo, hi, lo2, hi2, fun _ e => by cases e; exact ⟨b1, by rw [setRow_size]; exact b2, b3.keep fun j _ _ => setRow_other _ _ _ _ (by omega)⟩, fun _ e => by cases e; exact ⟨d1, d2, by rw [setRow_size]; exact d3, d4.keep fun j _ _ => setRow_other _ _ _ _ (by omega)⟩,
    fun _ e => by cases e; exact ⟨a1, (setRow_other _ _ _ _ hne).trans a2, a3, a4⟩, fun _ e => by cases e; exact ⟨c1, c2.row _, fun _ => c3, fun _ => c4⟩, h5⟩

theorem Cpd.swap {T : Nat} {e : Ex} {w0 X : World} {z1 z2 : List Value} {oc od : Option (List Value)} {og oh : Option Nat} (h : Cpd T e w0 z1 z2 oc od og oh X) : Cpd T e w0 z2 z1 oc od oh og X := by
  obtain ⟨hb, lo, hi, lo2, hi2, h1, h2, h3, h4, h5⟩ := h
  exact ⟨hb, lo, hi, lo2, hi2, h1, h2, h4, h3, fun g h e1 e2 => Ne.symm (h5 _ _ e2 e1)⟩
theorem Cpd.blkG {T : Nat} {e : Ex} {w0 X : World} {z1 z2 : List Value} {oc od : Option (List Value)} {g : Nat} {oh : Option Nat} (h : Cpd T e w0 z1 z2 oc od (some g) oh X) : Blk X g T z1 := by
  obtain ⟨hb, lo, hi, lo2, hi2, h1, h2, h3, h4, h5⟩ := h
  exact (h3 _ rfl).2.1
theorem Cpd.blkH {T : Nat} {e : Ex} {w0 X : World} {z1 z2 : List Value} {oc od : Option (List Value)} {h : Nat} {og : Option Nat} (H : Cpd T e w0 z1 z2 oc od og (some h) X) : Blk X h T z2 := H.swap.blkG
theorem Fresh.all {lo hi : Nat} {w : World} {e : Ex} {cs : List Value} (h : Fresh lo hi w e cs) : cs.toArray.all (·.oneCell') = true := by
  have := (h.isEx (Nat.le_refl hi)).oneCells
  simpa using this
theorem infoSz9 : (Try.prog.info? 26).map (·.size) = some 9 := by kernel_rfl
theorem genG {P : Program} {md : Region.Mode} {ops : Array Oper} {Q : Exit → Act → World → Prop} {S : World → Prop} {fuel : Nat} {l : Array Bool} {a : Act} {T : Nat} {e : Ex} {w0 X : World} {z1 z2 : List Value} {oc od : Option (List Value)} {oh : Option Nat}
    (h : Cpd T e w0 z1 z2 oc od none oh X) (k : ∀ Y, Cpd T e w0 z1 z2 oc od (some X.heap.size) oh Y → wpAnyH P md ops Q S fuel l a Y) : wpAnyH P md ops Q S fuel l a (X.alloc (.cells z1.toArray T)) := k _ h.g
theorem genH {P : Program} {md : Region.Mode} {ops : Array Oper} {Q : Exit → Act → World → Prop} {S : World → Prop} {fuel : Nat} {l : Array Bool} {a : Act} {T : Nat} {e : Ex} {w0 X : World} {z1 z2 : List Value} {oc od : Option (List Value)} {og : Option Nat}
    (h : Cpd T e w0 z1 z2 oc od og none X) (k : ∀ Y, Cpd T e w0 z1 z2 oc od og (some X.heap.size) Y → wpAnyH P md ops Q S fuel l a Y) : wpAnyH P md ops Q S fuel l a (X.alloc (.cells z2.toArray T)) := k _ h.h

end Go.Proofs.Ytikaiiamoaahdaa
