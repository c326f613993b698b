/- show: Sign, Word, strength. -/
import Derived.Test.YtobelmipjanibaaDoorBd1
import Derived.Test.YtobelmipjanibaaDoorSh0
namespace Go.Proofs.YtobelmipjanibaaDoor
open Go.RowKit
set_option linter.unusedSimpArgs false
set_option linter.unusedVariables false

set_option maxRecDepth 100000 in
set_option maxHeartbeats 2000000 in
theorem sSign (op : Int) (w : World) (hop : -9223372036854775808 ≤ op ∧ op ≤ 9223372036854775807) :
    Calls Tryd.prog 11 #[.int .i64 op] w fun e w' => e = .returned (.string ⟨(signL op).toArray⟩) ∧ Below w.heap.size w w' := by
  have hcase : op < 0 ∨ 10 ≤ op ∨ op = 0 ∨ op = 1 ∨ op = 2 ∨ op = 3 ∨ op = 4 ∨ op = 5 ∨ op = 6 ∨ op = 7 ∨ op = 8 ∨ op = 9 := by omega
  go_enter Tryd.func11, Tryd.ntmps11; (try simp only [List.append_eq, List.cons_append, List.nil_append])
  rcases hcase with h | h | rfl | rfl | rfl | rfl | rfl | rfl | rfl | rfl | rfl | rfl
  · have hs : Hid (signL op = []) := by show _ = _; unfold signL; repeat rw [if_neg (by omega)]
    go_wp2
    go_ret
    exact ⟨ret_string (by rw [hs.out]), (Below.refl _ _).alloc (Nat.le_refl _) _⟩
  · have hs : Hid (signL op = []) := by show _ = _; unfold signL; repeat rw [if_neg (by omega)]
    go_wp2
    go_ret
    exact ⟨ret_string (by rw [hs.out]), (Below.refl _ _).alloc (Nat.le_refl _) _⟩
  all_goals
    go_wp2
    go_ret
    exact ⟨ret_string rfl, (Below.refl _ _).alloc (Nat.le_refl _) _⟩

set_option maxRecDepth 100000 in
set_option maxHeartbeats 2000000 in
theorem sStrength (k op : Int) (w : World) :
    Calls Tryd.prog 47 #[.agg #[.int .i64 k, .int .i64 op]] w fun e w' => e = .returned (.int .i64 (strI k op)) ∧ Below w.heap.size w w' := by
  go_enter Tryd.func47, Tryd.ntmps47; (try simp only [List.append_eq, List.cons_append, List.nil_append])
  by_cases h3 : k = 3
  · subst h3
    by_cases ho : op = 3
    · subst ho
      go_wp2
      go_ret
      exact ⟨ret_int rfl, (Below.refl _ _).alloc (Nat.le_refl _) _⟩
    · have hs : Hid (strI 3 op = 1) := by show _ = _; unfold strI; rw [if_pos (by omega), if_neg ho]
      have hb : (op == 3) = false := by simpa using ho
      go_wp2
      go_ret
      exact ⟨ret_int (by rw [hs.out]), (Below.refl _ _).alloc (Nat.le_refl _) _⟩
  · have hb3 : (k == 3) = false := by simpa using h3
    by_cases h4 : k = 4
    · subst h4
      by_cases ho : op = 3
      · subst ho
        go_wp2
        go_ret
        exact ⟨ret_int rfl, (Below.refl _ _).alloc (Nat.le_refl _) _⟩
      · have hs : Hid (strI 4 op = 1) := by show _ = _; unfold strI; rw [if_pos (by omega), if_neg ho]
        have hb : (op == 3) = false := by simpa using ho
        go_wp2
        go_ret
        exact ⟨ret_int (by rw [hs.out]), (Below.refl _ _).alloc (Nat.le_refl _) _⟩
    · have hb4 : (k == 4) = false := by simpa using h4
      by_cases h5 : k = 5
      · subst h5
        go_wp2
        go_ret
        exact ⟨ret_int rfl, (Below.refl _ _).alloc (Nat.le_refl _) _⟩
      · have hb5 : (k == 5) = false := by simpa using h5
        have hs : Hid (strI k op = 3) := by show _ = _; unfold strI; rw [if_neg (by omega), if_neg h5]
        go_wp2
        go_ret
        exact ⟨ret_int (by rw [hs.out]), (Below.refl _ _).alloc (Nat.le_refl _) _⟩

set_option maxRecDepth 100000 in
set_option maxHeartbeats 4000000 in
theorem sWord (k f : Int) (w : World) :
    Calls Tryd.prog 12 #[.int .i64 k, .int .i64 f] w fun e w' => e = .returned (.string ⟨(wordL k f).toArray⟩) ∧ Below w.heap.size w w' := by
  go_enter Tryd.func12, Tryd.ntmps12; (try simp only [List.append_eq, List.cons_append, List.nil_append])
  by_cases h1 : k = 1
  · subst h1
    have hcase : f < 1 ∨ 6 < f ∨ f = 1 ∨ f = 2 ∨ f = 3 ∨ f = 4 ∨ f = 5 ∨ f = 6 := by omega
    rcases hcase with h | h | rfl | rfl | rfl | rfl | rfl | rfl
    · have hs : Hid (wordL 1 f = []) := by show _ = _; unfold wordL; rw [if_pos rfl]; repeat rw [if_neg (by omega)]
      go_wp2
      go_ret
      exact ⟨ret_string (by rw [hs.out]), (Below.refl _ _).alloc (Nat.le_refl _) _⟩
    · have hs : Hid (wordL 1 f = []) := by show _ = _; unfold wordL; rw [if_pos rfl]; repeat rw [if_neg (by omega)]
      have h0 : ¬ f < 1 := by omega
      go_wp2
      go_ret
      exact ⟨ret_string (by rw [hs.out]), (Below.refl _ _).alloc (Nat.le_refl _) _⟩
    all_goals
      go_wp2
      go_ret
      exact ⟨ret_string rfl, (Below.refl _ _).alloc (Nat.le_refl _) _⟩
  · have hb1 : (k == 1) = false := by simpa using h1
    by_cases h2 : k = 2
    · subst h2
      have hcase : f < 1 ∨ 4 < f ∨ f = 1 ∨ f = 2 ∨ f = 3 ∨ f = 4 := by omega
      rcases hcase with h | h | rfl | rfl | rfl | rfl
      · have hs : Hid (wordL 2 f = []) := by show _ = _; unfold wordL; rw [if_neg (by decide), if_pos rfl]; repeat rw [if_neg (by omega)]
        go_wp2
        go_ret
        exact ⟨ret_string (by rw [hs.out]), (Below.refl _ _).alloc (Nat.le_refl _) _⟩
      · have hs : Hid (wordL 2 f = []) := by show _ = _; unfold wordL; rw [if_neg (by decide), if_pos rfl]; repeat rw [if_neg (by omega)]
        have h0 : ¬ f < 1 := by omega
        go_wp2
        go_ret
        exact ⟨ret_string (by rw [hs.out]), (Below.refl _ _).alloc (Nat.le_refl _) _⟩
      all_goals
        go_wp2
        go_ret
        exact ⟨ret_string rfl, (Below.refl _ _).alloc (Nat.le_refl _) _⟩
    · have hb2 : (k == 2) = false := by simpa using h2
      have hs : Hid (wordL k f = []) := by show _ = _; unfold wordL; rw [if_neg h1, if_neg h2]
      by_cases h0 : f < 1
      · go_wp2
        go_ret
        exact ⟨ret_string (by rw [hs.out]), Below.refl _ _⟩
      · have h0' : 0 < f := by omega
        go_wp2
        go_ret
        exact ⟨ret_string (by rw [hs.out]), Below.refl _ _⟩
end Go.Proofs.YtobelmipjanibaaDoor
