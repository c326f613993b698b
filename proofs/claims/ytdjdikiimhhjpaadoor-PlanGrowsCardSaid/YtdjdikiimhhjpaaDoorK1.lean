/- Steps of a region that draws its order, one at a time, guards decided by the kernel, the state laid out anew. No program here. -/
import Derived.Test.YtdjdikiimhhjpaaDoorK0
import Derived.StillTailTactics
import Derived.Deep.RegionHeld3
import Derived.KernelRfl
set_option maxRecDepth 100000
set_option maxHeartbeats 16000000
namespace Go.Proofs.YtdjdikiimhhjpaaDoor
open Go.RowKit
set_option linter.unusedSimpArgs false
set_option linter.unusedVariables false
section
variable {P : Program} {ops : Array Oper} {Q : Exit → Act → World → Prop} {md : Region.Mode} {S : World → Prop}
theorem held_take (i d : Nat) (v : Value) {oi : Oper} {fuel : Nat} {listed : Array Bool} {T : List Value} {D : List Deferred} {w : World} (hi : ops[i]? = some oi) (hd : oi.dst = some d)
    (hs : Region.noSelect ops = true) (hf : Region.free md ops listed i = true) (hr : (Region.ready md ops listed).contains i = true)
    (hQ : ∀ c a w, Q (.panic c) (a.put oi.dst v) w → Q (.panic c) a w) (hw : Region.wanted oi (yielded ops T.toArray) = true)
    (hy : ∀ w, S w → (execOp (Act.eval ⟨T.toArray, D⟩) oi).run P w = .ok (.value v) w) (hS : S w)
    (h : wpAnyH P md ops Q S fuel (listed.setIfInBounds i true) ⟨(T.set d v).toArray, D⟩ w) : wpAnyH P md ops Q S (fuel + 1) listed ⟨T.toArray, D⟩ w := by
  refine wpAnyH_take hi hs hf hr hQ (.inl ⟨hw, hy⟩) hS ?_
  simpa [Act.put, hd] using h
theorem held_skip (i d : Nat) {oi : Oper} {fuel : Nat} {listed : Array Bool} {T : List Value} {D : List Deferred} {w : World} (hi : ops[i]? = some oi) (hd : oi.dst = some d)
    (hs : Region.noSelect ops = true) (hf : Region.free md ops listed i = true) (hr : (Region.ready md ops listed).contains i = true)
    (hQ : ∀ c a w, Q (.panic c) (a.put oi.dst undef) w → Q (.panic c) a w) (hw : Region.wanted oi (yielded ops T.toArray) = false) (hS : S w)
    (h : wpAnyH P md ops Q S fuel (listed.setIfInBounds i true) ⟨(T.set d undef).toArray, D⟩ w) : wpAnyH P md ops Q S (fuel + 1) listed ⟨T.toArray, D⟩ w := by
  refine wpAnyH_take hi hs hf hr hQ (.inr ⟨hw, rfl⟩) hS ?_
  simpa [Act.put, hd] using h
theorem held_store (i : Nat) {oi : Oper} {fuel : Nat} {listed : Array Bool} {T : List Value} {D : List Deferred} {w : World} (hi : ops[i]? = some oi) (hr : Region.ready md ops listed = [i])
    (hw : Region.wanted oi (yielded ops T.toArray) = true) (hd : oi.dst = none) (ty : TypeId) (x y : Operand) (ho : oi.op = .store ty x y) (g : Nat) (cells old : List Value) (t : Nat)
    (hx : (Act.mk T.toArray D).eval x = .pointer (some ⟨g, 0, none⟩)) (hy : (Act.mk T.toArray D).eval y = .agg cells.toArray)
    (hg : Blk w g t old) (hsz : (P.info? ty).map (·.size) = some cells.length) (hold : old.length = cells.length) (h1 : cells.toArray.all (·.oneCell') = true) (hS : S (w.setRow g cells.toArray))
    (h : S (w.setRow g cells.toArray) → wpAnyH P md ops Q S fuel (listed.setIfInBounds i true) ⟨T.toArray, D⟩ (w.setRow g cells.toArray)) : wpAnyH P md ops Q S (fuel + 1) listed ⟨T.toArray, D⟩ w := by
  refine wpAnyH_ready (rs := [i]) hr (by simp) (.cons hi (fun K hK => ?_) .nil)
  rw [if_pos hw]
  refine wp_store_row ty x y ho g cells.toArray hx hy t old.toArray hg (by simpa using hsz) (by simpa using hold) h1 ?_
  rw [hd]
  exact hK.out _ _ hS h
end
end Go.Proofs.YtdjdikiimhhjpaaDoor
namespace Go.Proofs.YtdjdikiimhhjpaaDoor
open Go.RowKit
set_option linter.unusedSimpArgs false
set_option linter.unusedVariables false
section
variable {P : Program} {ops : Array Oper} {Q : Exit → Act → World → Prop} {md : Region.Mode} {S : World → Prop}
theorem htk (i d : Nat) (v : Value) {oi : Oper} {fuel : Nat} {listed : Array Bool} {T : List Value} {D : List Deferred} {w : World} (hi : ops[i]? = some oi)
    (hy : ∀ w, S w → (execOp (Act.eval ⟨T.toArray, D⟩) oi).run P w = .ok (.value v) w)
    (h : wpAnyH P md ops Q S fuel (listed.setIfInBounds i true) ⟨(T.set d v).toArray, D⟩ w)
    (hd : oi.dst = some d := by kernel_rfl) (hs : Region.noSelect ops = true := by kernel_rfl) (hf : Region.free md ops listed i = true := by kernel_rfl) (hr : (Region.ready md ops listed).contains i = true := by kernel_rfl)
    (hQ : ∀ c a w, Q (.panic c) (a.put oi.dst v) w → Q (.panic c) a w := by exact fun _ _ _ h => h) (hw : Region.wanted oi (yielded ops T.toArray) = true := by kernel_rfl)
    (hS : S w := by assumption) : wpAnyH P md ops Q S (fuel + 1) listed ⟨T.toArray, D⟩ w := held_take i d v hi hd hs hf hr hQ hw hy hS h
theorem hrd (i : Nat) {o : Oper} {fuel : Nat} {listed : Array Bool} {a : Act} {w : World} (ho : ops[i]? = some o)
    (h : ∀ K' : Act → World → Prop, Shut (∀ a w, S w → (S w → wpAnyH P md ops Q S fuel (listed.setIfInBounds i true) a w) → K' a w) → if Region.wanted o (yielded ops a.tmps) = true then Oper.wp P o a w K' Q else K' (a.put o.dst undef) w)
    (hr : Region.ready md ops listed = [i] := by kernel_rfl) : wpAnyH P md ops Q S (fuel + 1) listed a w := wpAnyH_ready hr (by simp) (.cons ho h .nil)
end
theorem lsz {α : Type} (a b : α) (l : List α) : (a :: l).set 0 b = b :: l := rfl
theorem lss {α : Type} (a b : α) (n : Nat) (l : List α) : (a :: l).set (n + 1) b = a :: l.set n b := rfl
theorem lsa {α : Type} (l : List α) (i : Nat) (a : α) : l.toArray.setIfInBounds i a = (l.set i a).toArray := by simp
end Go.Proofs.YtdjdikiimhhjpaaDoor
