/- What the first subscriber of a board is handed is what was put, in order. No program here. -/
import Derived.Test.YtfmolimnnheaoaaBm0
namespace Go.Proofs.Ytfmolimnnheaoaa
open Go.RowKit
set_option linter.unusedSimpArgs false
set_option linter.unusedVariables false

theorem last_take {l : List Int} {k : Nat} (hk : k < l.length) (d : Int) : (l.take (k + 1)).getLastD d = l[k] := by
  rw [List.take_succ_eq_append_getElem hk, List.getLastD_eq_getLast?, List.getLast?_concat]
  rfl
theorem rise_get {l : List Int} (h : Rise l) {i j : Nat} (hij : i < j) (hj : j < l.length) : l[i]'(by omega) < l[j] := List.pairwise_iff_getElem.1 h i j (by omega) hj hij
/-- What stands above the last of a beginning is the rest. -/
theorem drop_last {l : List Int} (h : Rise l) (hp : ∀ t ∈ l, 0 < t) {g : Nat} (hg : g ≤ l.length) : (l.filter fun x => decide ((l.take g).getLastD 0 < x)) = l.drop g := by
  cases g with
  | zero =>
    rw [List.take_zero, List.drop_zero]
    exact List.filter_eq_self.2 fun t ht => by have := hp t ht; simpa using this
  | succ k =>
    rw [last_take (by omega) 0]
    obtain ⟨v, hv⟩ : ∃ v, l[k] = v := ⟨_, rfl⟩
    rw [hv]
    have e0 : l.filter (fun x => decide (v < x)) = (List.take (k + 1) l).filter (fun x => decide (v < x)) ++ (List.drop (k + 1) l).filter (fun x => decide (v < x)) := by
      rw [← List.filter_append, List.take_append_drop]
    rw [e0]
    subst hv
    have h1 : (List.take (k + 1) l).filter (fun x => decide (l[k] < x)) = [] := List.filter_eq_nil_iff.2 fun x hx => by
      obtain ⟨i, hi, rfl⟩ := List.getElem_of_mem hx
      rw [List.getElem_take]
      rw [List.length_take] at hi
      rcases Nat.lt_or_ge i k with h2 | h2
      · have := rise_get h h2 (by omega); simp; omega
      · have : i = k := by omega
        subst this; simp
    have h2 : (List.drop (k + 1) l).filter (fun x => decide (l[k] < x)) = List.drop (k + 1) l := List.filter_eq_self.2 fun x hx => by
      obtain ⟨i, hi, rfl⟩ := List.getElem_of_mem hx
      rw [List.getElem_drop]
      rw [List.length_drop] at hi
      have := rise_get h (show k < k + 1 + i by omega) (by omega)
      simpa using this
    rw [h1, h2, List.nil_append]
/-- What the first subscriber would be handed. -/
theorem handed_rest {b : Bd} {put : List Int} {ack : Int} {g : Nat} (h : BInv b put ((put.take g).getLastD 0) ack) (hg : g ≤ put.length) {s : Sb} (hs : s.cursor = (put.take g).getLastD 0) (most : Int) :
    handed b s most = (put.drop g).take (max 0 most).toNat := by
  unfold handed
  rw [drop_above (by rw [h.kept]; exact h.rise.filter _), h.kept, List.filter_filter, hs]
  congr 1
  rw [← drop_last h.rise h.pos hg]
  refine List.filter_congr fun t _ => ?_
  have := h.low
  generalize (put.take g).getLastD 0 = c at *
  by_cases ht : c < t
  · simp [ht]; omega
  · simp [ht]
theorem put_keeps {b : Bd} {put : List Int} {cur ack : Int} (h : BInv b put cur ack) {t : Int} (ht : b.last < t) : BInv (letGoB { b with kept := b.kept ++ [t], last := t }) (put ++ [t]) cur ack := by
  refine letGo_keeps ⟨?_, ?_, ?_, ?_, ?_, h.floor0, h.one, h.there, h.ids, h.next, ?_⟩
  · refine List.pairwise_append.2 ⟨h.rise, List.pairwise_singleton _ _, fun a ha c hc => ?_⟩
    simp at hc; subst hc
    have := h.last a ha
    omega
  · intro x hx
    rcases List.mem_append.1 hx with hx | hx
    · exact h.pos x hx
    · simp at hx; subst hx; have := h.last0; omega
  · intro x hx
    show x ≤ t
    rcases List.mem_append.1 hx with hx | hx
    · have := h.last x hx; omega
    · simp at hx; omega
  · show 0 ≤ t
    have := h.last0; omega
  · show b.kept ++ [t] = _
    rw [List.filter_append, h.kept]
    congr 1
    have := h.low
    rw [List.filter_cons, if_pos (by simp; omega)]; rfl
  · have := h.low
    show b.floor ≤ ack ∧ ack ≤ cur ∧ cur ≤ t
    omega
theorem join_keeps {b : Bd} {put : List Int} {cur ack : Int} (h : BInv b put cur ack) (frm : Int) (hn : 1 < b.next) : BInv (joinB b frm).1 put cur ack ∧ 1 < (joinB b frm).1.next := by
  unfold joinB
  split
  · exact ⟨h, hn⟩
  · refine ⟨⟨h.rise, h.pos, h.last, h.last0, h.kept, h.floor0, ?_, ?_, ?_, ?_, h.low⟩, by show 1 < b.next + 1; omega⟩
    · intro s hs hid
      rcases List.mem_append.1 hs with hs | hs
      · exact h.one s hs hid
      · simp at hs; subst hs; simp at hid; omega
    · obtain ⟨s, hs, hid⟩ := h.there
      exact ⟨s, List.mem_append.2 (Or.inl hs), hid⟩
    · show ((b.subs ++ [Sb.mk b.next frm frm]).map Sb.id).Pairwise (· < ·)
      rw [List.map_append]
      refine List.pairwise_append.2 ⟨h.ids, List.pairwise_singleton _ _, fun a ha c hc => ?_⟩
      obtain ⟨s, hs, rfl⟩ := List.mem_map.1 ha
      simp at hc; subst hc
      exact h.next s hs
    · intro s hs
      show s.id < b.next + 1
      rcases List.mem_append.1 hs with hs | hs
      · have := h.next s hs; omega
      · simp at hs; subst hs; simp; omega
theorem resume_keeps {b : Bd} {put : List Int} {cur ack : Int} (h : BInv b put cur ack) (frm : Int) (hn : 1 < b.next) : BInv (resumeB b frm).1 put cur ack ∧ 1 < (resumeB b frm).1.next := by
  unfold resumeB
  split
  · exact ⟨h, hn⟩
  · split
    · exact ⟨h, hn⟩
    · exact join_keeps h frm hn
/-- A subscriber that is not the first goes. -/
theorem gone_keeps {b : Bd} {put : List Int} {cur ack : Int} (h : BInv b put cur ack) {n : Int} (hn : n ≠ 1) : BInv (unsubB b n).1 put cur ack := by
  unfold unsubB
  split
  · exact h
  · refine letGo_keeps ⟨h.rise, h.pos, h.last, h.last0, h.kept, h.floor0, fun s hs => h.one s ((List.mem_filter.1 hs).1), ?_, ?_, fun s hs => h.next s ((List.mem_filter.1 hs).1), h.low⟩
    · obtain ⟨s, hs, hid⟩ := h.there
      exact ⟨s, List.mem_filter.2 ⟨hs, by simp [hid]; omega⟩, hid⟩
    · exact List.Pairwise.sublist (List.Sublist.map _ List.filter_sublist) h.ids
theorem gone_next (b : Bd) (n : Int) : (unsubB b n).1.next = b.next := by
  unfold unsubB
  split
  · rfl
  · unfold letGoB; split <;> rfl
theorem gone_find (b : Bd) (n : Int) : findB (unsubB b n).1 n = none := by
  unfold unsubB
  split
  · rename_i h; exact h
  · have key : ∀ c : Bd, c.subs = b.subs.filter (fun s => s.id != n) → findB (letGoB c) n = none := by
      intro c hc
      have e : (letGoB c).subs = c.subs := by unfold letGoB; split <;> rfl
      unfold findB
      rw [e, hc]
      refine List.find?_eq_none.2 fun s hs => ?_
      have := (List.mem_filter.1 hs).2
      simpa using this
    exact key _ rfl
/-- Where the first subscriber stands is turned. -/
theorem turn_keeps {b : Bd} {put : List Int} {cur ack cur' ack' : Int} (h : BInv b put cur ack) (f : Sb → Sb) (hid : ∀ s, (f s).id = s.id) (hc : ∀ s ∈ b.subs, s.id = 1 → (f s).cursor = cur' ∧ (f s).acked = ack') (hlow : b.floor ≤ ack' ∧ ack' ≤ cur' ∧ cur' ≤ b.last) :
    BInv { b with subs := turnS 1 f b.subs } put cur' ack' := by
  have hmap : (turnS 1 f b.subs).map Sb.id = b.subs.map Sb.id := by
    unfold turnS
    rw [List.map_map]
    refine List.map_congr_left fun s _ => ?_
    show (if s.id = 1 then f s else s).id = s.id
    split
    · exact hid s
    · rfl
  refine ⟨h.rise, h.pos, h.last, h.last0, h.kept, h.floor0, ?_, ?_, by rw [hmap]; exact h.ids, ?_, hlow⟩
  · intro s hs h1
    obtain ⟨x, hx, rfl⟩ := List.mem_map.1 hs
    by_cases hx1 : x.id = 1
    · rw [if_pos hx1]; exact hc x hx hx1
    · rw [if_neg hx1] at h1; exact absurd h1 hx1
  · obtain ⟨s, hs, h1⟩ := h.there
    refine ⟨f s, List.mem_map.2 ⟨s, hs, if_pos h1⟩, by rw [hid]; exact h1⟩
  · intro s hs
    obtain ⟨x, hx, rfl⟩ := List.mem_map.1 hs
    have := h.next x hx
    show (if x.id = 1 then f x else x).id < b.next
    split
    · rw [hid]; exact this
    · exact this
theorem find_one {b : Bd} {put : List Int} {cur ack : Int} (h : BInv b put cur ack) : ∃ s, findB b 1 = some s ∧ s.cursor = cur ∧ s.acked = ack := by
  obtain ⟨s, hs, h1⟩ := h.there
  cases hf : findB b 1 with
  | none =>
    have := List.find?_eq_none.1 hf s hs
    simp [h1] at this
  | some x =>
    have hx := List.find?_some hf
    exact ⟨x, rfl, h.one x (List.mem_of_find?_eq_some hf) (by simpa using hx)⟩
end Go.Proofs.Ytfmolimnnheaoaa
