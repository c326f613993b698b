/- Numbers are put behind numbers; truths in memory; a query's cells in a later world. -/
import Derived.Test.YtdjdikiimhhjpaaDoorK30
import Derived.Test.YtdjdikiimhhjpaaDoorK33
import Derived.Test.YtdjdikiimhhjpaaDoorK12
set_option maxRecDepth 100000
set_option maxHeartbeats 16000000
namespace Go.Proofs.YtdjdikiimhhjpaaDoor
open Go.RowKit
set_option linter.unusedSimpArgs false
set_option linter.unusedVariables false
theorem app_isg {ops : Array Oper} {rest : List Oper} {o : Oper} {a : Act} {w : World} {Q : Exit → Act → World → Prop} (hgd : Region.wanted o (yielded ops a.tmps) = true) (s x : Operand)
    (ho : o.op = .call { callee := .builtin .append, args := #[s, x], argTypes := #[27, 27] }) (base : Nat) (v vs : Value) (l l2 : List Int)
    (hs : a.eval s = v) (hx : a.eval x = vs) (hown : OwnI 3 base w v l) (hsrc : Src w vs 1 l2.length (l2.map fun i => Value.int .i64 i))
    (hl : l.length + l2.length ≤ 1000000) (hbase : base ≤ w.heap.size)
    (h : ∀ v' w', OwnI 3 base w' v' (l ++ l2) → w.grownBy w' v.ownBlock → (v'.ownBlock = v.ownBlock ∨ v'.ownBlock = some w.heap.size) → Below base w w' → wpList Tryd.prog ops Q rest (a.put o.dst v') w') :
    wpList Tryd.prog ops Q (o :: rest) a w := by
  obtain ⟨i0, hi, hz0, hz1, hz2⟩ := info_parts infoI64
  refine wpList_step fun K hK => ?_
  rw [if_pos hgd]
  refine wp_append_src w s x 27 ho base 3 i0 (.int .i64 0) 1 8 Tryd.underlying27 hi hz0 hz1 hz2 rfl (by decide) v l.length _ hs hown _ l2.length _ hx hsrc (ints_one l2) (by unfold maxLen; omega) (by omega) hbase ?_
  intro v' w' g1 g2 g3
  refine hK _ _ (h v' w' ?_ g2 g3 (below_app (Below.refl _ _) hown g2 (Nat.le_refl _) hbase))
  unfold OwnI
  rw [List.length_append, List.map_append]
  exact g1
theorem OwnI.emptyT (W : World) : OwnI 3 W.heap.size (W.alloc (.cells #[] 3)) (.slice (some ⟨W.heap.size, 0, none⟩) 0 0) [] := own_emptyT 3 1 W
theorem OwnI.src {t base : Nat} {w : World} {v : Value} {l : List Int} (h : OwnI t base w v l) : Src w v 1 l.length (l.map fun i => Value.int .i64 i) := Src.of_own h
theorem IsInts.getAt {n : Nat} {w : World} {p : Option Addr} {len cap : Nat} {l : List Int} (h : IsInts n w (.slice p len cap) l) {k : Nat} {x : Int} (hk : l[k]? = some x) :
    ∃ b off, p = some ⟨b, off, none⟩ ∧ b < n ∧ w.cell? ⟨b, off + k, none⟩ = some (.int .i64 x) := by
  have hlt := (List.getElem?_eq_some_iff.1 hk).1
  obtain ⟨b, off, h1, h2, h3⟩ := h.get hlt
  rw [(List.getElem?_eq_some_iff.1 hk).2] at h3
  exact ⟨b, off, h1, h2, h3⟩
theorem IsBools.open {n : Nat} {w : World} {v : Value} {l : List Bool} (h : IsBools n w v l) : ∃ p cap, v = .slice p l.length cap ∧ l.length ≤ cap ∧ cap ≤ maxLen ∧ l.length ≤ maxLen := by
  obtain ⟨p, cap, hv, h1, h2, _⟩ := h
  simp only [List.length_map] at hv h1
  exact ⟨p, cap, hv, h1, h2, by omega⟩
theorem IsBools.get {n : Nat} {w : World} {p : Option Addr} {len cap : Nat} {l : List Bool} (h : IsBools n w (.slice p len cap) l) {k : Nat} (hk : k < l.length) :
    ∃ b off, p = some ⟨b, off, none⟩ ∧ b < n ∧ w.cell? ⟨b, off + k, none⟩ = some (.bool l[k]) := by
  obtain ⟨b, off, hp, hb, hc⟩ := h.at k [.bool l[k]] (by simp [hk])
  exact ⟨b, off, hp, hb, by simpa using hc 0 _ rfl⟩
theorem IsBools.mono {n m : Nat} {w w' : World} {v : Value} {l : List Bool} (h : IsBools n w v l) (hb : Below n w w') (hm : n ≤ m) : IsBools m w' v l := Arr.mono h hb hm
theorem q_at9 {w : World} {b o : Nat} {ev : Int} {x : Ex} {pm pn pk : Option Addr} {cm cn ck : Nat} (hb : b < w.heap.size)
    (c0 : w.cell? ⟨b, o, none⟩ = some (.int .i64 ev)) (c1 : w.cell? ⟨b, o + 1, none⟩ = some (.int .i64 x.kind)) (c2 : w.cell? ⟨b, o + 2, none⟩ = some (.int .i64 x.fn)) (c3 : w.cell? ⟨b, o + 3, none⟩ = some (.int .i64 x.op)) (c4 : w.cell? ⟨b, o + 4, none⟩ = some (.int .i64 x.num)) (c5 : w.cell? ⟨b, o + 5, none⟩ = some (.string x.metric)) (c6 : w.cell? ⟨b, o + 6, none⟩ = some (.slice pm x.mats.length cm)) (c7 : w.cell? ⟨b, o + 7, none⟩ = some (.int .i64 x.span)) (c8 : w.cell? ⟨b, o + 8, none⟩ = some (.slice pn x.names.length cn)) (c9 : w.cell? ⟨b, o + 9, none⟩ = some (.slice pk x.kids.length ck)) :
    ∀ Y, Below w.heap.size w Y → Y.cell? ⟨b, o, none⟩ = some (.int .i64 ev) ∧ Y.cell? ⟨b, o + 1, none⟩ = some (.int .i64 x.kind) ∧ Y.cell? ⟨b, o + 1 + 1, none⟩ = some (.int .i64 x.fn) ∧ Y.cell? ⟨b, o + 1 + 2, none⟩ = some (.int .i64 x.op) ∧ Y.cell? ⟨b, o + 1 + 3, none⟩ = some (.int .i64 x.num) ∧ Y.cell? ⟨b, o + 1 + 4, none⟩ = some (.string x.metric) ∧ Y.cell? ⟨b, o + 1 + 5, none⟩ = some (.slice pm x.mats.length cm) ∧ Y.cell? ⟨b, o + 1 + 6, none⟩ = some (.int .i64 x.span) ∧ Y.cell? ⟨b, o + 1 + 7, none⟩ = some (.slice pn x.names.length cn) ∧ Y.cell? ⟨b, o + 1 + 8, none⟩ = some (.slice pk x.kids.length ck) := by
  intro Y hY
  have q : ∀ j u, w.cell? ⟨b, o + j, none⟩ = some u → Y.cell? ⟨b, o + j, none⟩ = some u := fun j u h => (hY.cell (p := ⟨b, o + j, none⟩) hb).trans h
  exact ⟨q 0 _ c0, q 1 _ c1, q 2 _ c2, q 3 _ c3, q 4 _ c4, q 5 _ c5, q 6 _ c6, q 7 _ c7, q 8 _ c8, q 9 _ c9⟩
end Go.Proofs.YtdjdikiimhhjpaaDoor
