/- Steps of a region that draws its order, one at a time, guards decided by the kernel, the state laid out anew. No program here. -/
import Derived.Test.YtkheeiipkdeihaaBase2
import Derived.StillTailTactics
import Derived.Deep.RegionHeld3
import Derived.KernelRfl
namespace Go.Proofs.Ytkheeiipkdeihaa
open Go.RowKit
set_option linter.unusedSimpArgs false
set_option linter.unusedVariables false

section
variable {P : Program} {ops : Array Oper} {Q : Exit → Act → World → Prop} {md : Region.Mode} {S : World → Prop}

theorem held_take (i d : Nat) (v : Value) {oi : Oper} {fuel : Nat} {listed : Array Bool} {T : List Value} {D : List Deferred} {w : World} (hi : ops[i]? = some oi) (hd : oi.dst = some d)
    (hs : Region.noSelect ops = true) (hf : Region.free md ops listed i = true) (hr : (Region.ready md ops listed).contains i = true)
    (hQ : ∀ c a w, Q (.panic c) (a.put oi.dst v) w → Q (.panic c) a w) (hw : Region.wanted oi (yielded ops T.toArray) = true)
    (hy : ∀ w, S w → (execOp (Act.eval ⟨T.toArray, D⟩) oi).run P w = .ok (.value v) w) (hS : S w)
    (h : wpAnyH P md ops Q S fuel (listed.setIfInBounds i true) ⟨(T.set d v).toArray, D⟩ w) : wpAnyH P md ops Q S (fuel + 1) listed ⟨T.toArray, D⟩ w := by
  refine wpAnyH_take hi hs hf hr hQ (.inl ⟨hw, hy⟩) hS ?_
  simpa [Act.put, hd] using h
theorem held_skip (i d : Nat) {oi : Oper} {fuel : Nat} {listed : Array Bool} {T : List Value} {D : List Deferred} {w : World} (hi : ops[i]? = some oi) (hd : oi.dst = some d)
    (hs : Region.noSelect ops = true) (hf : Region.free md ops listed i = true) (hr : (Region.ready md ops listed).contains i = true)
    (hQ : ∀ c a w, Q (.panic c) (a.put oi.dst undef) w → Q (.panic c) a w) (hw : Region.wanted oi (yielded ops T.toArray) = false) (hS : S w)
    (h : wpAnyH P md ops Q S fuel (listed.setIfInBounds i true) ⟨(T.set d undef).toArray, D⟩ w) : wpAnyH P md ops Q S (fuel + 1) listed ⟨T.toArray, D⟩ w := by
  refine wpAnyH_take hi hs hf hr hQ (.inr ⟨hw, rfl⟩) hS ?_
  simpa [Act.put, hd] using h
/-- A whole struct is stored, nothing else may come up. -/
theorem held_store (i : Nat) {oi : Oper} {fuel : Nat} {listed : Array Bool} {T : List Value} {D : List Deferred} {w : World} (hi : ops[i]? = some oi) (hr : Region.ready md ops listed = [i])
    (hw : Region.wanted oi (yielded ops T.toArray) = true) (hd : oi.dst = none) (ty : TypeId) (x y : Operand) (ho : oi.op = .store ty x y) (g : Nat) (cells old : List Value) (t : Nat)
    (hx : (Act.mk T.toArray D).eval x = .pointer (some ⟨g, 0, none⟩)) (hy : (Act.mk T.toArray D).eval y = .agg cells.toArray)
    (hg : Blk w g t old) (hsz : (P.info? ty).map (·.size) = some cells.length) (hold : old.length = cells.length) (h1 : cells.toArray.all (·.oneCell') = true) (hS : S (w.setRow g cells.toArray))
    (h : S (w.setRow g cells.toArray) → wpAnyH P md ops Q S fuel (listed.setIfInBounds i true) ⟨T.toArray, D⟩ (w.setRow g cells.toArray)) : wpAnyH P md ops Q S (fuel + 1) listed ⟨T.toArray, D⟩ w := by
  refine wpAnyH_ready (rs := [i]) hr (by simp) (.cons hi (fun K hK => ?_) .nil)
  rw [if_pos hw]
  refine wp_store_row ty x y ho g cells.toArray hx hy t old.toArray hg (by simpa using hsz) (by simpa using hold) h1 ?_
  rw [hd]
  exact hK.out _ _ hS h
end

end Go.Proofs.Ytkheeiipkdeihaa
