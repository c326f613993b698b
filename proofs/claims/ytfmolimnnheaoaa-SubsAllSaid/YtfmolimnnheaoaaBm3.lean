/- SubsAll, plain: what a round does to the board and to what was put and handed. No program here. -/
import Derived.Test.YtfmolimnnheaoaaBm1
namespace Go.Proofs.Ytfmolimnnheaoaa
open Go.RowKit
set_option linter.unusedSimpArgs false
set_option linter.unusedVariables false

def lastK (put : List Int) (k : Nat) : Int := (put.take k).getLastD 0
/-- What holds at a round's head: of what was put, the first k are handed, the first a of them acked. -/
structure SI (i : Nat) (b : Bd) (put : List Int) (k a : Nat) (t : Int) : Prop where
  inv : BInv b put (lastK put k) (lastK put a)
  ak : a ≤ k
  kp : k ≤ put.length
  nx : 1 < b.next ∧ b.next ≤ (i : Int) + 2
  lt : b.last ≤ t
  t0 : 0 ≤ t ∧ t ≤ 9 * (i : Int)
  pl : put.length ≤ i
theorem SI.more {i : Nat} {b : Bd} {put : List Int} {k a : Nat} {t : Int} (h : SI i b put k a t) : SI (i + 1) b put k a t :=
  ⟨h.inv, h.ak, h.kp, ⟨h.nx.1, by have := h.nx.2; omega⟩, h.lt, ⟨h.t0.1, by have := h.t0.2; omega⟩, by have := h.pl; omega⟩
theorem rise_kept {b : Bd} {put : List Int} {c a : Int} (h : BInv b put c a) : Rise b.kept := by rw [h.kept]; exact h.rise.filter _
theorem kept_last {b : Bd} {put : List Int} {c a : Int} (h : BInv b put c a) : ∀ x ∈ b.kept, x ≤ b.last := by
  intro x hx
  rw [h.kept] at hx
  exact h.last x (List.mem_filter.1 hx).1
theorem letGo_last (b : Bd) : (letGoB b).last = b.last := by unfold letGoB; split <;> rfl
theorem letGo_next (b : Bd) : (letGoB b).next = b.next := by unfold letGoB; split <;> rfl
section
variable {i : Nat} {b : Bd} {put : List Int} {k a : Nat} {t : Int}
theorem si_join (h : SI i b put k a t) (frm : Int) : SI (i + 1) (joinB b frm).1 put k a t := by
  have h1 := join_keeps h.inv frm h.nx.1
  have h2 := h.nx; have h3 := h.lt; have h4 := h.t0; have h5 := h.pl
  refine ⟨h1.1, h.ak, h.kp, ⟨h1.2, ?_⟩, ?_, ⟨h4.1, by omega⟩, by omega⟩
  · unfold joinB; split <;> simp <;> omega
  · unfold joinB; split <;> exact h3
theorem si_resume (h : SI i b put k a t) (frm : Int) : SI (i + 1) (resumeB b frm).1 put k a t := by
  unfold resumeB
  split
  · exact h.more
  · split
    · exact h.more
    · exact si_join h frm
theorem gone_last (b : Bd) (n : Int) : (unsubB b n).1.last = b.last := by
  unfold unsubB
  split
  · rfl
  · exact letGo_last _
theorem si_gone (h : SI i b put k a t) {n : Int} (hn : n ≠ 1) : SI i (unsubB b n).1 put k a t :=
  ⟨gone_keeps h.inv hn, h.ak, h.kp, by rw [gone_next]; exact h.nx, by rw [gone_last]; exact h.lt, h.t0, h.pl⟩
theorem back_none {b : Bd} {n : Int} (h : findB b n = none) : backB b n = (b, 6) := by unfold backB; rw [h]
theorem ack_none {b : Bd} {n t : Int} (h : findB b n = none) : ackB b n t = (b, 6) := by unfold ackB; rw [h]
theorem lastK_mono {put : List Int} (hr : Rise put) (hp : ∀ t ∈ put, 0 < t) {a k : Nat} (hak : a ≤ k) (hk : k ≤ put.length) : lastK put a ≤ lastK put k := by
  unfold lastK
  cases a with
  | zero =>
    cases k with
    | zero => exact Int.le_refl _
    | succ k =>
      rw [last_take (by omega) 0]
      have := hp put[k] (List.getElem_mem _)
      simp; omega
  | succ a =>
    obtain ⟨k, rfl⟩ : ∃ j, k = j + 1 := ⟨k - 1, by omega⟩
    rw [last_take (by omega) 0, last_take (by omega) 0]
    rcases Nat.lt_or_ge a k with h | h
    · exact Int.le_of_lt (rise_get hr h (by omega))
    · have : a = k := by omega
      subst this; exact Int.le_refl _
theorem lastK_le (h : BInv b put (lastK put k) (lastK put a)) : lastK put k ≤ b.last := h.low.2.2
theorem si_back (h : SI i b put k a t) : (backB b 1).2 = 0 ∧ SI i (backB b 1).1 put a a t := by
  obtain ⟨s, hs, h1, h2⟩ := find_one h.inv
  unfold backB
  rw [hs]
  have hl := h.inv.low
  exact ⟨rfl, turn_keeps h.inv _ (fun _ => rfl) (fun s hs hid => ⟨(h.inv.one s hs hid).2, (h.inv.one s hs hid).2⟩) ⟨hl.1, Int.le_refl _, by omega⟩, Nat.le_refl _, Nat.le_trans h.ak h.kp, h.nx, h.lt, h.t0, h.pl⟩
theorem si_ack (h : SI i b put k a t) {a' : Nat} (h1 : a ≤ a') (h2 : a' ≤ k) : (ackB b 1 (lastK put a')).2 = 0 ∧ SI i (ackB b 1 (lastK put a')).1 put k a' t := by
  obtain ⟨s, hs, e1, e2⟩ := find_one h.inv
  have m1 := lastK_mono h.inv.rise h.inv.pos h1 (Nat.le_trans h2 h.kp)
  have m2 := lastK_mono h.inv.rise h.inv.pos h2 h.kp
  have hl := h.inv.low
  unfold ackB
  rw [hs]
  simp only
  rw [if_neg (by rw [e1]; omega), if_neg (by rw [e2]; omega)]
  refine ⟨rfl, letGo_keeps (turn_keeps h.inv _ (fun _ => rfl) (fun s hs hid => ⟨(h.inv.one s hs hid).1, rfl⟩) ⟨by omega, m2, hl.2.2⟩), h2, h.kp, ?_, ?_, h.t0, h.pl⟩
  · rw [letGo_next]; exact h.nx
  · rw [letGo_last]; exact h.lt
theorem si_poll (h : SI i b put k a t) (m : Int) : (pollB b 1 m).2.1 = (put.drop k).take (max 0 m).toNat ∧ (pollB b 1 m).2.2 = 0 ∧ SI i (pollB b 1 m).1 put (k + ((put.drop k).take (max 0 m).toNat).length) a t := by
  obtain ⟨s, hs, e1, e2⟩ := find_one h.inv
  have hh := handed_rest h.inv h.kp e1 m
  have hk := h.kp
  have hln : ((put.drop k).take (max 0 m).toNat).length ≤ put.length - k := by rw [List.length_take, List.length_drop]; omega
  have hcur : (handed b s m).getLastD s.cursor = lastK put (k + ((put.drop k).take (max 0 m).toNat).length) := by
    rw [hh, e1]
    unfold lastK
    rw [List.take_add, show (put.drop k).take ((put.drop k).take (max 0 m).toNat).length = (put.drop k).take (max 0 m).toNat from by
      rw [List.length_take]
      rcases Nat.le_total (max 0 m).toNat (put.drop k).length with h1 | h1
      · rw [Nat.min_eq_left h1]
      · rw [Nat.min_eq_right h1, List.take_length, List.take_of_length_le h1]]
    generalize (put.drop k).take (max 0 m).toNat = x
    cases hx : x.reverse with
    | nil =>
      have : x = [] := by simpa using hx
      subst this
      simp
    | cons y ys =>
      have : x = ys.reverse ++ [y] := by
        have := congrArg List.reverse hx
        simpa using this
      subst this
      simp [List.getLastD_eq_getLast?, ← List.append_assoc]
  unfold pollB
  rw [hs]
  refine ⟨hh, rfl, ?_, by have := h.ak; omega, by omega, h.nx, h.lt, h.t0, h.pl⟩
  have hl := h.inv.low
  have hm := lastK_mono h.inv.rise h.inv.pos (show k ≤ k + ((put.drop k).take (max 0 m).toNat).length by omega) (by omega)
  have hm2 : lastK put (k + ((put.drop k).take (max 0 m).toNat).length) ≤ b.last := by
    generalize hj : k + ((put.drop k).take (max 0 m).toNat).length = j at hm ⊢
    unfold lastK
    cases j with
    | zero => simpa using h.inv.last0
    | succ j => rw [last_take (by omega) 0]; exact h.inv.last _ (List.getElem_mem _)
  refine turn_keeps h.inv _ (fun _ => rfl) (fun x hx hid => ⟨?_, (h.inv.one x hx hid).2⟩) ⟨hl.1, by have := hl.2.1; omega, hm2⟩
  rw [← hcur]
  have e3 : x.cursor = s.cursor := (h.inv.one x hx hid).1.trans e1.symm
  show (handed b x m).getLastD x.cursor = _
  unfold handed
  rw [e3]
theorem lastK_app (put : List Int) (t : Int) {k : Nat} (h : k ≤ put.length) : lastK (put ++ [t]) k = lastK put k := by
  unfold lastK
  rw [List.take_append_of_le_length h]
theorem si_put (h : SI i b put k a t) (hi : i ≤ 60) {p : Int} (hp : 0 ≤ p ∧ p < 9) :
    ((putB b (t + 1 + p)).2 = 0 ∧ SI (i + 1) (putB b (t + 1 + p)).1 (put ++ [t + 1 + p]) k a (t + 1 + p)) ∨
    ((putB b (t + 1 + p)).2 = 9 ∧ (putB b (t + 1 + p)).1 = b ∧ b.room ≤ b.kept.length ∧ SI (i + 1) b put k a (t + 1 + p)) := by
  have h0 := h.t0; have h1 := h.lt; have h2 := h.inv.last0; have hnx := h.nx
  unfold putB maxTimeB
  rw [if_neg (by omega), if_neg (by omega)]
  by_cases hr : b.room ≤ (b.kept.length : Int)
  · rw [if_pos hr]
    exact .inr ⟨rfl, rfl, hr, h.inv, h.ak, h.kp, ⟨hnx.1, by omega⟩, by omega, ⟨by omega, by omega⟩, by have := h.pl; omega⟩
  · rw [if_neg hr]
    have hk := put_keeps h.inv (t := t + 1 + p) (by omega)
    rw [← lastK_app put (t + 1 + p) h.kp, ← lastK_app put (t + 1 + p) (Nat.le_trans h.ak h.kp)] at hk
    refine .inl ⟨rfl, hk, h.ak, by rw [List.length_append]; have := h.kp; omega, ?_, ?_, ⟨by omega, by omega⟩, by rw [List.length_append]; have := h.pl; simp; omega⟩
    · rw [letGo_next]; exact ⟨hnx.1, by show b.next ≤ _; omega⟩
    · rw [letGo_last]; exact Int.le_refl _
end
end Go.Proofs.Ytfmolimnnheaoaa
