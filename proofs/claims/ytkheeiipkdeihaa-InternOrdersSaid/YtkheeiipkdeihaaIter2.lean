/- ast.all as an iterator; ast.Size. -/
import Derived.Test.YtkheeiipkdeihaaIter
import Derived.Laws.EntriesVeiled
namespace Go.Proofs.Ytkheeiipkdeihaa
open Go.Shelf
open Go.RowKit
set_option linter.unusedSimpArgs false
set_option linter.unusedVariables false
attribute [local go_sem] Oper.semAt_some

theorem IsEx.cellsE {n : Nat} {w : World} {e : Ex} {cs : List Value} (h : IsEx n w e cs) :
    ∃ pm cm pn cn pk ck, cs = [.int .i64 e.kind, .int .i64 e.fn, .int .i64 e.op, .int .i64 e.num, .string e.metric, .slice pm e.mats.length cm, .int .i64 e.span, .slice pn e.names.length cn, .slice pk e.kids.length ck] ∧
      e.metric.size ≤ maxLen ∧ IsMats n w (.slice pm e.mats.length cm) e.mats ∧ IsStrs n w (.slice pn e.names.length cn) e.names ∧ IsExs n w (.slice pk e.kids.length ck) e.kids := by
  obtain ⟨vm, vn, vk, hcs, hs, hm, hna, hki⟩ := h.cells
  obtain ⟨pm, cm, rfl, _⟩ := hm.open
  obtain ⟨pn, cn, rfl, _⟩ := hna.open
  obtain ⟨pk, ck, rfl, _⟩ := hki.open
  exact ⟨pm, cm, pn, cn, pk, ck, hcs, hs, hm, hna, hki⟩

theorem aAll (e : Ex) (cs : List Value) (n : Nat) (w : World) (he : IsEx n w e cs) :
    Calls Try.prog 46 #[.agg cs.toArray] w fun e' w' => e' = .returned (.func (.func 60) #[] #[.pointer (some ⟨w.heap.size, 0, none⟩)]) ∧ w' = w.alloc (.cells cs.toArray 45) := by
  obtain ⟨pm, cm, pn, cn, pk, ck, rfl, _⟩ := he.cellsE
  go_enter Try.func46, Try.ntmps46; (try simp only [List.append_eq, List.cons_append, List.nil_append])
  go_wp2
  go_ret
  exact ⟨rfl, rfl⟩

set_option maxRecDepth 100000 in
set_option maxHeartbeats 4000000 in
theorem allStops {n₀ : Nat} {w₀ : World} {V : World → Prop} {X : World → Nat → Prop} (hd : Dirty n₀ V X) (n : Nat) (e : Ex) (cs : List Value) (w : World) (eB : Nat) (he : IsEx n₀ w₀ e cs) (hc : Cells n₀ w₀ w)
    (hB : Box w eB cs) (hn : n₀ ≤ w.heap.size) (hV : ∀ W, Below w.heap.size w W → V W) :
    SeqStopsK Fence.wide n Try.prog 60 #[.pointer (some ⟨eB, 0, none⟩)] (fun x : Node n₀ w₀ => #[.agg x.1.2.toArray]) (KpX V X) (fun xs => exs xs = e.flat) (fun xs => exs xs <+: e.flat) e.size w := by
  intro l J Jx W hW hJ hJx hY h0
  have hdd : ∀ k : Nat, (Fence.wide.depth.isSome = true → 1 ≤ k) := fun k h => by cases h
  have hv := hV W hW
  obtain ⟨pm, cm, pn, cn, pk, ck, rfl, _⟩ := he.cellsE
  have hbox := hB.keep hW
  have hJa : ∀ pre W o, J pre W → J pre (W.alloc o) := fun pre W o h => hJ pre W _ none h (World.grownBy_alloc W o none) (fun r e => by cases e)
  have K1 := KpX.alloc hd W (.cells #[.func (.yield l) #[] #[]] 86)
  have K2 := KpX.alloc hd (W.alloc (.cells #[.func (.yield l) #[] #[]] 86)) (.cells #[.func (.func 61) #[] #[.pointer (some ⟨W.heap.size, 0, none⟩), .pointer (some ⟨W.heap.size + 1, 0, none⟩)]] 86)
  have hnX : ∀ k, W.heap.size ≤ k → ¬ X ((W.alloc (.cells #[.func (.yield l) #[] #[]] 86)).alloc (.cells #[.func (.func 61) #[] #[.pointer (some ⟨W.heap.size, 0, none⟩), .pointer (some ⟨W.heap.size + 1, 0, none⟩)]] 86)) k := by
    intro k hk h
    have := (hd.lo W k hv ((hd.al W _ hv).2 k ((hd.al _ _ (hd.al W _ hv).1).2 k h))).2
    omega
  have hcall := allRec hd l e.size W.heap.size (W.heap.size + 1) J Jx hJa (fun m pre x W hj hl => YieldAt.anyD m (hY pre x W hj hl)) e (n - 1) _ [] _ he
    ((hc.trans (Cells.of_below (hW.mono hn))).trans (((K1.trans K2) hv).2.low hd hv)) ((K1.trans K2) hv).1 (hnX _ (Nat.le_refl _)) (hnX _ (by omega))
    (by simp [go_sem]) (by simp [go_sem]) (hJa _ _ _ (hJa _ _ _ h0)) (by simp)
  have Hcall := Lib.hid hcall; clear hcall
  have b0 := hbox.2 0 _ rfl
  have b1 := hbox.2 1 _ rfl
  have b2 := hbox.2 2 _ rfl
  have b3 := hbox.2 3 _ rfl
  have b4 := hbox.2 4 _ rfl
  have b5 := hbox.2 5 _ rfl
  have b6 := hbox.2 6 _ rfl
  have b7 := hbox.2 7 _ rfl
  have b8 := hbox.2 8 _ rfl
  have heB := hbox.1
  clear K1 K2 hnX hY hJ hJx hV
  refine callsIn_of_wp Try.func60 rfl trivial ?_ rfl; simp only [Try.ntmps60, List.size_toArray, List.length_cons, List.length_nil, Nat.reduceAdd, Nat.reduceSub, Array.replicate_succ, Array.replicate_zero, List.push_toArray, List.append_toArray, List.nil_append, List.cons_append]; (try simp only [List.append_eq, List.cons_append, List.nil_append])
  gi_wp2_with ((try refine ⟨trivial, hdd _, ?_⟩); gi_at_call 61; refine Hcall.out.mono ?_; rintro e' W4 (⟨rfl, ys, hys, hJ4, hK4⟩ | ⟨rfl, ys, hys, hJ4⟩))
  · go_end0
    exact ⟨⟨_, rfl⟩, .inl ⟨ys, hys, hJ4⟩⟩
  · go_end0
    exact ⟨⟨_, rfl⟩, .inr ⟨ys, hys, hJ4⟩⟩

end Go.Proofs.Ytkheeiipkdeihaa
