/- Lists of expressions that a function makes and hands back. -/
import Derived.Test.YtdmojmadklckbaaIter4
import Derived.Test.YtdmojmadklckbaaApp
namespace Go.Proofs.Ytdmojmadklckbaa
open Go.RowKit
set_option linter.unusedSimpArgs false
set_option linter.unusedVariables false

/-- A list of expressions in a block of its own (from block base on); its rows refer to what lies below n. -/
def Own (n base : Nat) (w : World) (v : Value) (l : List Ex) : Prop :=
  ∃ rows : List (List Value), w.ownsRow base 26 9 v l.length rows.flatten ∧ rows.length = l.length ∧ ∀ (k : Nat) (r : List Value) (e : Ex), rows[k]? = some r → l[k]? = some e → IsEx n w e r

theorem IsEx.length {n : Nat} {w : World} {e : Ex} {r : List Value} (h : IsEx n w e r) : r.length = 9 := by cases h; rfl
theorem IsEx.oneCells {n : Nat} {w : World} {e : Ex} {r : List Value} (h : IsEx n w e r) : ∀ u ∈ r, u.oneCell' = true := by
  obtain ⟨pm, cm, pn, cn, pk, ck, rfl, _⟩ := h.cellsE
  intro u hu
  simp only [List.mem_cons, List.not_mem_nil, or_false] at hu
  rcases hu with rfl | rfl | rfl | rfl | rfl | rfl | rfl | rfl | rfl <;> rfl
theorem rows_oneCells {n : Nat} {w : World} {l : List Ex} {rows : List (List Value)} (hl : rows.length = l.length) (hg : ∀ (k : Nat) (r : List Value) (e : Ex), rows[k]? = some r → l[k]? = some e → IsEx n w e r) :
    ∀ u ∈ rows.flatten, u.oneCell' = true := by
  intro u hu
  obtain ⟨r, hr, hur⟩ := List.mem_flatten.1 hu
  obtain ⟨k, hk, rfl⟩ := List.getElem_of_mem hr
  exact (hg k _ (l[k]'(by omega)) (by simp) (by simp)).oneCells u hur
theorem Own.keep {n base : Nat} {w w' : World} {v : Value} {l : List Ex} (h : Own n base w v l) (hn : n ≤ w.heap.size) (hb : Below w.heap.size w w') : Own n base w' v l := by
  obtain ⟨rows, h1, h2, h3⟩ := h
  exact ⟨rows, ownsRow_keep h1 hb, h2, fun k r e hr he => (h3 k r e hr he).mono (hb.mono hn) (Nat.le_refl _)⟩
theorem Own.one {n base : Nat} {w : World} {v : Value} {e : Ex} {cs : List Value} (h : w.ownsRow base 26 9 v 1 cs) (he : IsEx n w e cs) : Own n base w v [e] :=
  ⟨[cs], by simpa using h, rfl, fun k r e' hr he' => by
    cases k with
    | zero => simp at hr he'; subst hr; subst he'; exact he
    | succ k => simp at hr⟩
theorem Own.nil {n base : Nat} {w : World} : Own n base w (.slice none 0 0) [] := ⟨[], World.ownsRow_nil _ _ _ _, rfl, fun k r e hr _ => by simp at hr⟩
/-- What an append leaves. -/
theorem Own.app {n base : Nat} {w w' : World} {v' : Value} {l l2 : List Ex} {rows rows2 : List (List Value)} (h1 : rows.length = l.length) (h2 : rows2.length = l2.length)
    (g1 : ∀ (k : Nat) (r : List Value) (e : Ex), rows[k]? = some r → l[k]? = some e → IsEx n w e r) (g2 : ∀ (k : Nat) (r : List Value) (e : Ex), rows2[k]? = some r → l2[k]? = some e → IsEx n w e r)
    (hb : Below n w w') (h : w'.ownsRow base 26 9 v' (l.length + l2.length) (rows.flatten ++ rows2.flatten)) : Own n base w' v' (l ++ l2) := by
  refine ⟨rows ++ rows2, by rw [List.length_append, List.flatten_append]; exact h, by simp [h1, h2], fun k r e hr he => ?_⟩
  by_cases hk : k < rows.length
  · rw [List.getElem?_append_left hk] at hr
    rw [List.getElem?_append_left (by omega)] at he
    exact (g1 k r e hr he).mono hb (Nat.le_refl _)
  · rw [List.getElem?_append_right (by omega)] at hr
    rw [List.getElem?_append_right (by omega)] at he
    rw [← h1] at he
    exact (g2 _ r e hr he).mono hb (Nat.le_refl _)
/-- The list as a slice that is read. -/
theorem Own.exs {n base m : Nat} {w : World} {v : Value} {l : List Ex} (h : Own n base w v l) (hm : w.heap.size ≤ m) (hn : n ≤ m) : IsExs m w v l := by
  obtain ⟨rows, h1, h2, h3⟩ := h
  refine ⟨rows, ?_, h2, fun k r e hr he => (h3 k r e hr he).mono (Below.refl _ _) hn⟩
  have hlen : ∀ r ∈ rows, r.length = 9 := by
    intro r hr
    obtain ⟨k, hk, rfl⟩ := List.getElem_of_mem hr
    exact (h3 k _ (l[k]'(by omega)) (by simp) (by simp)).length
  rcases h1.2 with ⟨rfl, hl⟩ | ⟨g, cap, cur, rfl, hg, hh, hc1, hc2, hc3, hc4⟩
  · have : rows = [] := List.eq_nil_of_length_eq_zero (by omega)
    subst this
    exact Arr.nil _ _ _
  · refine ⟨_, cap, by rw [h2], by omega, hc2, fun _ => ⟨g, 0, rfl, ?_, fun k r hr j x hx => ?_⟩⟩
    · have := (Array.getElem?_eq_some_iff.1 hh).1; omega
    · have hcell := h1.cells (g := g) rfl (k * 9 + j) x (flatten_at hlen hr hx)
      have e0 : (⟨g, 0, none⟩ : Addr).add (k * 9 + j) = ⟨g, 0 + k * 9 + j, none⟩ := by
        unfold Addr.add
        split <;> simp <;> omega
      rw [e0] at hcell
      exact hcell

theorem infoE : (Try.prog.info? 26).map (fun i => (i.zero, i.size, i.bytes)) = some (some (.agg #[.int .i64 0, .int .i64 0, .int .i64 0, .int .i64 0, .string ⟨#[]⟩, .slice none 0 0, .int .i64 0, .slice none 0 0, .slice none 0 0]), 9, 128) := by kernel_rfl

end Go.Proofs.Ytdmojmadklckbaa
