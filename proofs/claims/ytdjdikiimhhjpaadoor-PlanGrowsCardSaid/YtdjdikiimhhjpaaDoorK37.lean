/- The beginnings of slices; queries put behind queries. -/
import Derived.Test.YtdjdikiimhhjpaaDoorK34
set_option maxRecDepth 100000
set_option maxHeartbeats 16000000
namespace Go.Proofs.YtdjdikiimhhjpaaDoor
open Go.RowKit
set_option linter.unusedSimpArgs false
set_option linter.unusedVariables false
theorem Arr.take {n : Nat} {w : World} {p : Option Addr} {len cap sz : Nat} {rows : List (List Value)} (h : Arr n w (.slice p len cap) sz rows) (k : Nat) (hk : k ≤ rows.length) : Arr n w (.slice p k cap) sz (rows.take k) := by
  obtain ⟨p', c', hv, h1, h2, h3⟩ := h
  simp only [Value.slice.injEq] at hv
  obtain ⟨rfl, rfl, rfl⟩ := hv
  refine ⟨p, cap, by rw [List.length_take, Nat.min_eq_left hk], by rw [List.length_take]; omega, h2, fun hne => ?_⟩
  obtain ⟨b, off, e1, e2, e3⟩ := h3 (fun h0 => hne (by rw [h0]; simp))
  exact ⟨b, off, e1, e2, fun i r hr j x hx => e3 i r (by rw [List.getElem?_take] at hr; split at hr; exact hr; cases hr) j x hx⟩
theorem IsNds.take {n : Nat} {w : World} {p : Option Addr} {len cap : Nat} {l : List Nd} (h : IsNds n w (.slice p len cap) l) (k : Nat) (hk : k ≤ l.length) : IsNds n w (.slice p k cap) (l.take k) := by
  obtain ⟨rows, h1, h2, h3⟩ := h
  refine ⟨rows.take k, h1.take k (by omega), by rw [List.length_take, List.length_take, h2], fun i r x hr hx => h3 i r x ?_ ?_⟩
  · rw [List.getElem?_take] at hr; split at hr; exact hr; cases hr
  · rw [List.getElem?_take] at hx; split at hx; exact hx; cases hx
theorem IsQs.take {n : Nat} {w : World} {p : Option Addr} {len cap : Nat} {l : List (Int × Ex)} (h : IsQs n w (.slice p len cap) l) (k : Nat) (hk : k ≤ l.length) : IsQs n w (.slice p k cap) (l.take k) := by
  obtain ⟨rows, h1, h2, h3⟩ := h
  refine ⟨rows.take k, h1.take k (by omega), by rw [List.length_take, List.length_take, h2], fun i r x hr hx => h3 i r x ?_ ?_⟩
  · rw [List.getElem?_take] at hr; split at hr; exact hr; cases hr
  · rw [List.getElem?_take] at hx; split at hx; exact hx; cases hx
theorem IsInts.take {n : Nat} {w : World} {p : Option Addr} {len cap : Nat} {l : List Int} (h : IsInts n w (.slice p len cap) l) (k : Nat) (hk : k ≤ l.length) : IsInts n w (.slice p k cap) (l.take k) := by
  have := Arr.take h k (by simpa using hk)
  unfold IsInts
  rw [List.map_take]
  exact this
theorem wp_app_qs {o : Oper} {a : Act} {K : Act → World → Prop} {w : World} {Q : Exit → Act → World → Prop} (s x : Operand)
    (ho : o.op = .call { callee := .builtin .append, args := #[s, x], argTypes := #[22, 22] }) (n base : Nat) (v vs : Value) (l l2 : List (Int × Ex)) (rows : List (List Value))
    (hs : a.eval s = v) (hx : a.eval x = vs) (hown : OwnQ n base w v l) (hsrc : Src w vs 10 l2.length rows.flatten) (hrl : rows.length = l2.length) (hr : ∀ (k : Nat) (r : List Value) (q : Int × Ex), rows[k]? = some r → l2[k]? = some q → QRow n w q r)
    (hl : l.length + l2.length ≤ 1000000) (hbase : base ≤ w.heap.size) (hnb : n ≤ base)
    (h : ∀ v' w', OwnQ n base w' v' (l ++ l2) → w.grownBy w' v.ownBlock → Below base w w' → K (a.put o.dst v') w') :
    o.wp Tryd.prog a w K Q := by
  obtain ⟨i0, hi, hz0, hz1, hz2⟩ := info_parts infoQ
  obtain ⟨rows0, h1, h2, h3⟩ := hown
  obtain ⟨q1, q2⟩ := qrows_len hrl hr
  refine wp_append_src w s x 22 ho base 42 i0 _ 10 136 Tryd.underlying22 hi hz0 hz1 hz2 rfl (by decide) v l.length _ hs h1 _ l2.length rows.flatten hx hsrc q2 (by unfold maxLen; omega) (by omega) hbase ?_
  intro v' w' g1 g2 g3
  have hb : Below base w w' := below_app (Below.refl _ _) h1 g2 (Nat.le_refl _) hbase
  exact h v' w' ⟨rows0 ++ rows, by rw [List.length_append, List.flatten_append]; exact g1, by rw [List.length_append, List.length_append, h2, hrl], qrows_app h2 h3 hr (hb.mono hnb)⟩ g2 hb
theorem OwnQ.base {n base base' : Nat} {w : World} {v : Value} {l : List (Int × Ex)} (h : OwnQ n base w v l) (hb : base' ≤ base) : OwnQ n base' w v l := by
  obtain ⟨rows, h1, h2, h3⟩ := h
  exact ⟨rows, ownsRow_base h1 hb, h2, h3⟩
theorem Src.blk {X : World} {b t sz m c : Nat} {cs : List Value} (h : Blk X b t cs) (hl : cs.length = m * sz) : Src X (.slice (some ⟨b, 0, none⟩) m c) sz m cs := by
  refine .inr ⟨_, c, rfl, hl, fun j u hu => ?_⟩
  have e : (⟨b, 0, none⟩ : Addr).add j = ⟨b, j, none⟩ := by
    unfold Addr.add
    split <;> simp <;> omega
  rw [e]
  exact h.cell j u hu
theorem IsEx.kids9 {n : Nat} {w : World} {e : Ex} {c0 c1 c2 c3 c4 c5 c6 c7 vk : Value} (h : IsEx n w e [c0, c1, c2, c3, c4, c5, c6, c7, vk]) : IsExs n w vk e.kids := by
  obtain ⟨vm, vn, vk', he, -, -, -, hk⟩ := h.cells
  cases he
  exact hk
theorem IsQs.srcK {n : Nat} {w : World} {p : Option Addr} {k c : Nat} {l : List (Int × Ex)} (h : IsQs n w (.slice p k c) l) (hk : k = l.length) (hnil : p = none → c = 0) : ∃ rows : List (List Value), Src w (.slice p k c) 10 l.length rows.flatten ∧ rows.length = l.length ∧ ∀ (k : Nat) (r : List Value) (q : Int × Ex), rows[k]? = some r → l[k]? = some q → QRow n w q r := by
  subst hk; exact h.src hnil
theorem e_at9 {w : World} {b o : Nat} {x : Ex} {pm pn pk : Option Addr} {cm cn ck : Nat} (hb : b < w.heap.size)
    (c1 : w.cell? ⟨b, o, none⟩ = some (.int .i64 x.kind)) (c2 : w.cell? ⟨b, o + 1, none⟩ = some (.int .i64 x.fn)) (c3 : w.cell? ⟨b, o + 2, none⟩ = some (.int .i64 x.op)) (c4 : w.cell? ⟨b, o + 3, none⟩ = some (.int .i64 x.num)) (c5 : w.cell? ⟨b, o + 4, none⟩ = some (.string x.metric)) (c6 : w.cell? ⟨b, o + 5, none⟩ = some (.slice pm x.mats.length cm)) (c7 : w.cell? ⟨b, o + 6, none⟩ = some (.int .i64 x.span)) (c8 : w.cell? ⟨b, o + 7, none⟩ = some (.slice pn x.names.length cn)) (c9 : w.cell? ⟨b, o + 8, none⟩ = some (.slice pk x.kids.length ck)) :
    ∀ Y, Below w.heap.size w Y → Y.cell? ⟨b, o, none⟩ = some (.int .i64 x.kind) ∧ Y.cell? ⟨b, o + 1, none⟩ = some (.int .i64 x.fn) ∧ Y.cell? ⟨b, o + 2, none⟩ = some (.int .i64 x.op) ∧ Y.cell? ⟨b, o + 3, none⟩ = some (.int .i64 x.num) ∧ Y.cell? ⟨b, o + 4, none⟩ = some (.string x.metric) ∧ Y.cell? ⟨b, o + 5, none⟩ = some (.slice pm x.mats.length cm) ∧ Y.cell? ⟨b, o + 6, none⟩ = some (.int .i64 x.span) ∧ Y.cell? ⟨b, o + 7, none⟩ = some (.slice pn x.names.length cn) ∧ Y.cell? ⟨b, o + 8, none⟩ = some (.slice pk x.kids.length ck) := by
  intro Y hY
  have q : ∀ j u, w.cell? ⟨b, o + j, none⟩ = some u → Y.cell? ⟨b, o + j, none⟩ = some u := fun j u h => (hY.cell (p := ⟨b, o + j, none⟩) hb).trans h
  exact ⟨q 0 _ c1, q 1 _ c2, q 2 _ c3, q 3 _ c4, q 4 _ c5, q 5 _ c6, q 6 _ c7, q 7 _ c8, q 8 _ c9⟩
theorem c_at {n : Nat} {w : World} {b o : Nat} {u : Value} (hb : b < n) (h : w.cell? ⟨b, o, none⟩ = some u) : ∀ Z, Below n w Z → Z.cell? ⟨b, o, none⟩ = some u := fun Z hZ => (hZ.cell (p := ⟨b, o, none⟩) hb).trans h
end Go.Proofs.YtdjdikiimhhjpaaDoor
