/- General lemmas on what is as it was but for some blocks (for a seat without expressions; the same as in Ks0, Pa3, Pb7, Xr1, Rc1). No program here. -/
import Derived.Test.YtkheeiipkdeihaaIt0
import Derived.Test.YtkheeiipkdeihaaBase2
namespace Go.Proofs.Ytkheeiipkdeihaa
open Go.RowKit
set_option linter.unusedSimpArgs false
set_option linter.unusedVariables false

structure OffM (M : Nat → Prop) (w w' : World) : Prop where
  os : w'.os = w.os
  tape : w'.tape = w.tape
  output : w'.output = w.output
  size : w.heap.size ≤ w'.heap.size
  block : ∀ k, k < w.heap.size → ¬ M k → w'.heap[k]? = w.heap[k]?
theorem OffM.refl (M : Nat → Prop) (w : World) : OffM M w w := ⟨rfl, rfl, rfl, Nat.le_refl _, fun _ _ _ => rfl⟩
theorem OffM.of {M : Nat → Prop} {w w' : World} (h : Below w.heap.size w w') : OffM M w w' := ⟨h.os, h.tape, h.output, h.size, fun k hk _ => h.block k hk⟩
theorem OffM.trans {M N : Nat → Prop} {a b c : World} (h : OffM M a b) (k : OffM N b c) (hN : ∀ i, i < a.heap.size → N i → M i) : OffM M a c :=
  ⟨k.os.trans h.os, k.tape.trans h.tape, k.output.trans h.output, Nat.le_trans h.size k.size, fun i hi hm => (k.block i (Nat.lt_of_lt_of_le hi h.size) (fun hn => hm (hN i hi hn))).trans (h.block i hi hm)⟩
theorem OffM.below {M : Nat → Prop} {n : Nat} {w w' : World} (h : OffM M w w') (hM : ∀ k, M k → n ≤ k) (hn : n ≤ w.heap.size) : Below n w w' :=
  ⟨h.os, h.tape, h.output, h.size, fun k hk => h.block k (by omega) (fun hm => by have := hM k hm; omega)⟩
theorem OffM.grown {w w' : World} {row : Option Nat} (h : w.grownBy w' row) : OffM (fun k => row = some k) w w' :=
  ⟨h.os, h.tape, h.output, h.size, fun k hk hm => h.block k hk (fun e => hm e.symm)⟩
theorem OffM.row (w : World) (g : Nat) (cs : Array Value) : OffM (fun k => k = g) w (w.setRow g cs) :=
  ⟨rfl, rfl, rfl, by rw [setRow_size]; exact Nat.le_refl _, fun k _ hk => by
    show (w.heap.modify g _)[k]? = _
    rw [Array.getElem?_modify, if_neg (fun e => hk e.symm)]⟩
theorem OffM.cell1 (w : World) (g i : Nat) (u : Value) : OffM (fun k => k = g) w (w.setCell ⟨g, i, none⟩ u) :=
  ⟨rfl, rfl, rfl, by unfold World.setCell; simp, fun k _ hk => by
    unfold World.setCell
    show (w.heap.modify g _)[k]? = _
    rw [Array.getElem?_modify, if_neg (fun e => hk e.symm)]⟩
theorem OffM.more {M N : Nat → Prop} {w w' : World} (h : OffM M w w') (hM : ∀ k, k < w.heap.size → M k → N k) : OffM N w w' := ⟨h.os, h.tape, h.output, h.size, fun k hk hn => h.block k hk (fun hm => hn (hM k hk hm))⟩
theorem ownsRow_offM {base e sz m : Nat} {w w' : World} {v : Value} {xs : List Value} {M : Nat → Prop} (h : w.ownsRow base e sz v m xs) (ho : OffM M w w') (hM : ∀ g, v.ownBlock = some g → ¬ M g) : w'.ownsRow base e sz v m xs := by
  refine ⟨h.1, ?_⟩
  rcases h.2 with h' | ⟨g, cap, cur, hv, hg, hh, h1⟩
  · exact .inl h'
  · exact .inr ⟨g, cap, cur, hv, hg, (ho.block g (Array.getElem?_eq_some_iff.1 hh).1 (hM g (by rw [hv]; rfl))).trans hh, h1⟩
theorem own_ne {lo lo' e e' sz sz' n n' : Nat} {w : World} {v v' : Value} {xs xs' : List Value} (h : w.ownsRow lo e sz v n xs) (h' : w.ownsRow lo' e' sz' v' n' xs') (hne : e ≠ e') {g : Nat} (hg : v.ownBlock = some g) : v'.ownBlock ≠ some g := by
  intro hg'
  rcases h.2 with ⟨rfl, _⟩ | ⟨g1, c1, u1, rfl, _, hh, _⟩
  · cases hg
  · rcases h'.2 with ⟨rfl, _⟩ | ⟨g2, c2, u2, rfl, _, hh', _⟩
    · cases hg'
    · simp [Value.ownBlock] at hg hg'
      subst hg hg'
      rw [hh] at hh'
      simp at hh'
      exact hne hh'.2
theorem OwnI.offM {t base : Nat} {w w' : World} {v : Value} {l : List Int} {M : Nat → Prop} (h : OwnI t base w v l) (ho : OffM M w w') (hM : ∀ g, v.ownBlock = some g → ¬ M g) : OwnI t base w' v l := by
  refine ⟨h.1, ?_⟩
  rcases h.2 with h' | ⟨g, cap, cur, hv, hg, hh, h1⟩
  · exact .inl h'
  · exact .inr ⟨g, cap, cur, hv, hg, (ho.block g (Array.getElem?_eq_some_iff.1 hh).1 (hM g (by rw [hv]; rfl))).trans hh, h1⟩

theorem own_empty0 (t sz : Nat) (W : World) : (W.alloc (.cells #[] t)).ownsRow W.heap.size t sz (.slice (some ⟨W.heap.size, 0, none⟩) 0 0) 0 [] :=
  ⟨by simp, .inr ⟨W.heap.size, 0, #[], rfl, Nat.le_refl _, World.alloc_heap_new W _, Nat.le_refl _, Nat.zero_le _, by simp, by simp⟩⟩
/-- Another list, of another kind, grows. -/
theorem own_other {w w' : World} {b1 b2 e1 e2 s1 s2 n1 n2 : Nat} {v1 v2 : Value} {x1 x2 : List Value} (h : w.ownsRow b1 e1 s1 v1 n1 x1) (k : w.ownsRow b2 e2 s2 v2 n2 x2) (hne : e1 ≠ e2) (hg : w.grownBy w' v2.ownBlock) : w'.ownsRow b1 e1 s1 v1 n1 x1 :=
  ownsRow_offM h (OffM.grown hg) (fun g hg1 hg2 => own_ne h k hne hg1 hg2)
theorem srcB {X : World} {b t sz m c : Nat} {cs : List Value} (h : Blk X b t cs) (hl : cs.length = m * sz) : Src X (.slice (some ⟨b, 0, none⟩) m c) sz m cs := by
  refine .inr ⟨_, c, rfl, hl, fun j u hu => ?_⟩
  have e : (⟨b, 0, none⟩ : Addr).add j = ⟨b, j, none⟩ := by
    unfold Addr.add
    split <;> simp <;> omega
  rw [e]
  exact h.cell j u hu
end Go.Proofs.Ytkheeiipkdeihaa
