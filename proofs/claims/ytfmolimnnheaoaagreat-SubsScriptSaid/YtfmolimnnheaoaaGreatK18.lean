/- slices.SortStableFunc of labels by their names: what it does to an own list. -/
import Derived.Test.YtfmolimnnheaoaaGreatK3
import Derived.Test.YtfmolimnnheaoaaGreatK6
import Derived.Laws.OwnMore
import Derived.Deep.RegionHeld3
import Derived.Deep.CutRange
import Derived.Deep.QuietTactic
import Derived.BigQuiet
import Derived.BigRegion
namespace Go.Proofs.YtfmolimnnheaoaaGreat
open Go.RowKit
set_option linter.unusedSimpArgs false
set_option linter.unusedVariables false

/-- The order of two texts as a number. -/
def cmpS (a b : ByteArray) : Int := if sless a b then -1 else if sless b a then 1 else 0
theorem cNaN (s : ByteArray) (w : World) : Calls Tryz.prog 109 #[.string s] w fun e w' => e = .returned (.bool false) ∧ w = w' := by
  go_enter Tryz.func109, Tryz.ntmps109; (try simp only [List.append_eq, List.cons_append, List.nil_append])
  go_wp2
  go_ret
  exact ⟨ret_bool (by simp), rfl⟩
theorem cCompare (a b : ByteArray) (w : World) : Calls Tryz.prog 96 #[.string a, .string b] w fun e w' => e = .returned (.int .i64 (cmpS a b)) ∧ w = w' := by
  have key : ∀ c : Int, cmpS a b = c → (Op.bytesLess a.toList b.toList = true ∧ c = -1) ∨ (a = b ∧ c = 0) ∨ (Op.bytesLess a.toList b.toList = false ∧ (a.toList == b.toList) = false ∧ c = 1) := by
    intro c hc
    unfold cmpS at hc
    rcases sless_tri a b with h | h | h
    · left; rw [h] at hc; exact ⟨h, hc.symm⟩
    · right; left; subst h; rw [sless_irrefl] at hc; exact ⟨rfl, hc.symm⟩
    · right; right
      rw [sless_asymm h, h] at hc
      refine ⟨sless_asymm h, ?_, hc.symm⟩
      rw [toList_beq]
      exact decide_eq_false (by intro e; subst e; rw [sless_irrefl] at h; cases h)
  obtain ⟨c, hc⟩ : ∃ c, cmpS a b = c := ⟨_, rfl⟩
  have key := key c hc
  rw [hc]
  clear hc
  rcases key with ⟨h1, rfl⟩ | ⟨rfl, rfl⟩ | ⟨h1, h2, rfl⟩
  · go_enter Tryz.func96, Tryz.ntmps96; (try simp only [List.append_eq, List.cons_append, List.nil_append])
    go_wp2_with (go_at_call 109; refine (cNaN _ _).mono ?_; rintro e w' ⟨rfl, rfl⟩)
    go_ret
    exact ⟨rfl, rfl⟩
  · have h1 : Op.bytesLess a.toList a.toList = false := sless_irrefl a
    go_enter Tryz.func96, Tryz.ntmps96; (try simp only [List.append_eq, List.cons_append, List.nil_append])
    go_wp2_with (go_at_call 109; refine (cNaN _ _).mono ?_; rintro e w' ⟨rfl, rfl⟩)
    all_goals go_ret
    all_goals exact ⟨rfl, rfl⟩
  · go_enter Tryz.func96, Tryz.ntmps96; (try simp only [List.append_eq, List.cons_append, List.nil_append])
    go_wp2_with (go_at_call 109; refine (cNaN _ _).mono ?_; rintro e w' ⟨rfl, rfl⟩)
    all_goals go_ret
    all_goals exact ⟨rfl, rfl⟩
theorem cmpS_neg {a b : ByteArray} (h : sless a b = true) : cmpS a b = -1 := by simp [cmpS, h]
theorem cmpS_ge {a b : ByteArray} (h : sless a b = false) : ¬ cmpS a b < 0 := by
  unfold cmpS; rw [h]; simp; split <;> omega

/-- Labels in a block of their own. -/
def OwnL (base : Nat) (w : World) (v : Value) (l : List Lab) : Prop := w.ownsRow base 106 2 v l.length (flat l)
/-- The two places' cells. -/
theorem OwnL.at {base g cap : Nat} {w : World} {n : Nat} {l : List Lab} (h : OwnL base w (.slice (some ⟨g, 0, none⟩) n cap) l) {k : Nat} {x : Lab} (hx : l[k]? = some x) :
    w.cell? ⟨g, k * 2, none⟩ = some (.string x.name) ∧ w.cell? ⟨g, k * 2 + 1, none⟩ = some (.string x.text) := by
  obtain ⟨A, cap', e⟩ := ownsRow_slice h
  cases e
  have hk : k < l.length := by
    rcases Nat.lt_or_ge k l.length with h' | h'
    · exact h'
    · rw [List.getElem?_eq_none h'] at hx; cases hx
  have h' : w.ownsRow base _ 2 _ l.length (flat l) := h
  exact ⟨(h'.cellAt _ (by omega)).trans (flat_at0 l k x hx), (h'.cellAt _ (by omega)).trans (flat_at1 l k x hx)⟩
/-- One is stored. -/
theorem OwnL.put {base g cap n : Nat} {w : World} {l : List Lab} (h : OwnL base w (.slice (some ⟨g, 0, none⟩) n cap) l) (k : Nat) (x : Lab) :
    OwnL base ((w.setCell ⟨g, k * 2, none⟩ (.string x.name)).setCell ⟨g, k * 2 + 1, none⟩ (.string x.text)) (.slice (some ⟨g, 0, none⟩) n cap) (l.set k x) := by
  obtain ⟨A, cap', e⟩ := ownsRow_slice h
  cases e
  have h1 := (World.ownsRow.stored h (k * 2) (.string x.name)).1
  have h2 := (World.ownsRow.stored h1 (k * 2 + 1) (.string x.text)).1
  unfold OwnL
  rw [← flat_setL, List.length_set]
  exact h2
theorem OwnL.free {base g cap n : Nat} {w : World} {l : List Lab} (h : OwnL base w (.slice (some ⟨g, 0, none⟩) n cap) l) (j : Nat) : w.frozen? ⟨g, j, none⟩ = false := by
  obtain ⟨A, cap', e⟩ := ownsRow_slice h
  cases e
  exact World.ownsRow.frozenAt h j
theorem OwnL.block {base g cap n : Nat} {w : World} {l : List Lab} (h : OwnL base w (.slice (some ⟨g, 0, none⟩) n cap) l) : base ≤ g ∧ g < w.heap.size := World.ownsRow.lt h g rfl
theorem OwnL.keep {base : Nat} {w w' : World} {v : Value} {l : List Lab} (h : OwnL base w v l) (hb : Below w.heap.size w w') : OwnL base w' v l := ownsRow_keep h hb
theorem below_put {B : Nat} {a w : World} (h : Below B a w) {g : Nat} (hg : B ≤ g) (i j : Nat) (u v : Value) : Below B a ((w.setCell ⟨g, i, none⟩ u).setCell ⟨g, j, none⟩ v) :=
  Below.setCell (p := (⟨g, j, none⟩ : Addr)) (Below.setCell (p := (⟨g, i, none⟩ : Addr)) h hg u) hg v

/-- Sorted, with the same labels, in the same block. -/
def SortedIn (base : Nat) (w : World) (v : Value) (l : List Lab) (e : Ending) (w' : World) : Prop :=
  ∃ s : List Lab, e = .returned (.tuple #[]) ∧ s.Perm l ∧ s.Pairwise leN ∧ OwnL base w' v s ∧ Below base w w'

theorem split_last (a : List Lab) : a = [] ∨ ∃ a0 y, a = a0 ++ [y] := by
  rcases List.eq_nil_or_concat a with h | ⟨a0, y, h⟩
  · exact .inl h
  · exact .inr ⟨a0, y, by simpa using h⟩
end Go.Proofs.YtfmolimnnheaoaaGreat
