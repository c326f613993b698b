/- A board of one query whose results are empty, as plain functions; what a subscriber from the beginning is handed. No program here. -/
import Derived.Test.YtfmolimnnheaoaaBase
namespace Go.Proofs.Ytfmolimnnheaoaa
open Go.RowKit
set_option linter.unusedSimpArgs false
set_option linter.unusedVariables false

/-- A subscriber. -/
structure Sb where
  id : Int
  cursor : Int
  acked : Int
/-- The board: its room, the query's times that are kept, its last time and its floor, its subscribers by number, the next number. -/
structure Bd where
  room : Int
  kept : List Int
  last : Int
  floor : Int
  subs : List Sb
  next : Int
def settledB (b : Bd) : Int := b.subs.foldl (fun m s => min m s.acked) b.last
/-- How many times of a list stand at or below a time (the list rises). -/
def aboveN (l : List Int) (t : Int) : Nat := (l.takeWhile fun x => decide (x ≤ t)).length
def letGoB (b : Bd) : Bd := if b.floor < settledB b then { b with floor := settledB b, kept := b.kept.drop (aboveN b.kept (settledB b)) } else b
def maxTimeB : Int := 1099511627776
def putB (b : Bd) (t : Int) : Bd × Int :=
  if t < 1 ∨ maxTimeB < t then (b, 2) else if t ≤ b.last then (b, 8) else if b.room ≤ (b.kept.length : Int) then (b, 9) else (letGoB { b with kept := b.kept ++ [t], last := t }, 0)
def joinB (b : Bd) (frm : Int) : Bd × Int × Int := if 256 ≤ b.subs.length then (b, 0, 3) else ({ b with subs := b.subs ++ [⟨b.next, frm, frm⟩], next := b.next + 1 }, b.next, 0)
def resumeB (b : Bd) (frm : Int) : Bd × Int × Int := if frm < 0 ∨ maxTimeB < frm then (b, 0, 2) else if frm < b.floor then (b, 0, 8) else joinB b frm
def findB (b : Bd) (n : Int) : Option Sb := b.subs.find? fun s => s.id == n
def unsubB (b : Bd) (n : Int) : Bd × Int := match findB b n with
  | none => (b, 6)
  | some _ => (letGoB { b with subs := b.subs.filter fun s => s.id != n }, 0)
/-- One subscriber turned. -/
def turnS (n : Int) (f : Sb → Sb) (l : List Sb) : List Sb := l.map fun s => if s.id = n then f s else s
/-- What a subscriber is handed. -/
def handed (b : Bd) (s : Sb) (most : Int) : List Int := (b.kept.drop (aboveN b.kept s.cursor)).take (max 0 most).toNat
def pollB (b : Bd) (n most : Int) : Bd × List Int × Int := match findB b n with
  | none => (b, [], 6)
  | some s => ({ b with subs := turnS n (fun s => { s with cursor := (handed b s most).getLastD s.cursor }) b.subs }, handed b s most, 0)
def backB (b : Bd) (n : Int) : Bd × Int := match findB b n with
  | none => (b, 6)
  | some _ => ({ b with subs := turnS n (fun s => { s with cursor := s.acked }) b.subs }, 0)
def ackB (b : Bd) (n t : Int) : Bd × Int := match findB b n with
  | none => (b, 6)
  | some s => if s.cursor < t then (b, 2) else if t < s.acked then (b, 8) else (letGoB { b with subs := turnS n (fun s => { s with acked := t }) b.subs }, 0)

/-! ### what holds of it -/
/-- Times that rise. -/
def Rise (l : List Int) : Prop := l.Pairwise (· < ·)
/-- All that was put that stands above the floor is kept; the first subscriber stands where it stands. -/
structure BInv (b : Bd) (put : List Int) (cur ack : Int) : Prop where
  rise : Rise put
  pos : ∀ t ∈ put, 0 < t
  last : ∀ t ∈ put, t ≤ b.last
  last0 : 0 ≤ b.last
  kept : b.kept = put.filter fun t => decide (b.floor < t)
  floor0 : 0 ≤ b.floor
  one : ∀ s ∈ b.subs, s.id = 1 → s.cursor = cur ∧ s.acked = ack
  there : ∃ s ∈ b.subs, s.id = 1
  ids : (b.subs.map Sb.id).Pairwise (· < ·)
  next : ∀ s ∈ b.subs, s.id < b.next
  low : b.floor ≤ ack ∧ ack ≤ cur ∧ cur ≤ b.last
theorem foldl_min (l : List Sb) : ∀ a : Int, l.foldl (fun m s => min m s.acked) a ≤ a ∧ ∀ s ∈ l, l.foldl (fun m s => min m s.acked) a ≤ s.acked := by
  induction l with
  | nil => intro a; exact ⟨Int.le_refl _, fun s h => by cases h⟩
  | cons x l ih =>
    intro a
    obtain ⟨h1, h2⟩ := ih (min a x.acked)
    refine ⟨by simp only [List.foldl_cons]; omega, fun s hs => ?_⟩
    simp only [List.foldl_cons]
    rcases List.mem_cons.1 hs with rfl | hs
    · omega
    · exact h2 s hs
theorem settled_le (b : Bd) : settledB b ≤ b.last ∧ ∀ s ∈ b.subs, settledB b ≤ s.acked := foldl_min b.subs b.last
/-- In a list that rises, what stands above a time stands behind what does not. -/
theorem drop_above {l : List Int} (h : Rise l) (t : Int) : l.drop (aboveN l t) = l.filter fun x => decide (t < x) := by
  unfold aboveN
  induction l with
  | nil => rfl
  | cons x l ih =>
    obtain ⟨h1, h2⟩ := List.pairwise_cons.1 h
    by_cases hx : x ≤ t
    · rw [List.takeWhile_cons, if_pos (by simpa using hx), List.length_cons, List.drop_succ_cons, ih h2, List.filter_cons, if_neg (by simp; omega)]
    · rw [List.takeWhile_cons, if_neg (by simpa using hx), List.length_nil, List.drop_zero, List.filter_cons, if_pos (by simp; omega)]
      congr 1
      refine (List.filter_eq_self.2 fun y hy => ?_).symm
      have := h1 y hy
      simp; omega
theorem Rise.filter {l : List Int} (h : Rise l) (p : Int → Bool) : Rise (l.filter p) := List.Pairwise.filter p h
theorem letGo_keeps {b : Bd} {put : List Int} {cur ack : Int} (h : BInv b put cur ack) : BInv (letGoB b) put cur ack := by
  unfold letGoB
  split
  · rename_i hlt
    obtain ⟨s, hs, hid⟩ := h.there
    have h1 := (settled_le b).2 s hs
    have h2 := (h.one s hs hid).2
    refine ⟨h.rise, h.pos, h.last, h.last0, ?_, by have := h.floor0; show 0 ≤ settledB b; omega, h.one, h.there, h.ids, h.next, ?_⟩
    · show b.kept.drop (aboveN b.kept (settledB b)) = put.filter fun t => decide (settledB b < t)
      rw [drop_above (by rw [h.kept]; exact h.rise.filter _), h.kept, List.filter_filter]
      refine List.filter_congr fun t _ => ?_
      by_cases ht : settledB b < t
      · simp [ht]; omega
      · simp [ht]
    · have := h.low
      show settledB b ≤ ack ∧ _
      exact ⟨by omega, this.2⟩
  · exact h
end Go.Proofs.Ytfmolimnnheaoaa
