/- slices.Clone at matchers, names and expressions. -/
import Derived.Test.YtikaiiamoaahdaaOwn0
namespace Go.Proofs.Ytikaiiamoaahdaa
open Go.RowKit
set_option linter.unusedSimpArgs false
set_option linter.unusedVariables false

theorem infoM : (Try.prog.info? 59).map (fun i => (i.zero, i.size, i.bytes)) = some (some (.agg #[.int .i64 0, .string ⟨#[]⟩, .string ⟨#[]⟩]), 3, 40) := by kernel_rfl
theorem infoS : (Try.prog.info? 9).map (fun i => (i.zero, i.size, i.bytes)) = some (some (.string ⟨#[]⟩), 1, 16) := by kernel_rfl

set_option maxHeartbeats 1000000 in
theorem cloneM (rows : List (List Value)) (v : Value) (n : Nat) (w : World) (hn : n ≤ w.heap.size) (ha : Arr n w v (3) rows) (hr : ∀ r ∈ rows, r.length = 3) (h1 : ∀ u ∈ rows.flatten, u.oneCell' = true) (hl : rows.length ≤ 1000000) :
    Calls Try.prog 49 #[v] w fun e' w' => ∃ v', e' = .returned v' ∧ w'.ownsRow w.heap.size 59 (3) v' rows.length rows.flatten ∧ Below w.heap.size w w' := by
  obtain ⟨i0, hi, hz0, hz1, hz2⟩ := info_parts infoM
  obtain ⟨p, cap, rfl, hc1, hc2, -⟩ := id ha
  have Ha := Lib.hid ha; clear ha
  have Hr := Lib.hid hr; clear hr
  have H1 := Lib.hid h1; clear h1
  cases p with
  | none =>
    have hrow : rows = [] := by
      obtain ⟨p', cap', hv, _, _, h3⟩ := Ha.out
      cases hv
      cases rows with
      | nil => rfl
      | cons r rows => obtain ⟨b, off, hp, _⟩ := h3 (by simp); cases hp
    have Hrow := Lib.hid hrow; clear hrow
    have hnil : ∀ w, (binOp .eql 22 (.slice none rows.length cap) (.slice none 0 0)).run Try.prog w = .ok (.bool true) w := fun w => Lib.run_eql_slice_nil (P := Try.prog) w 22 _ none rows.length cap 0 0 Try.underlying22
    go_enter Try.func49, Try.ntmps49; (try simp only [List.append_eq, List.cons_append, List.nil_append])
    go_wp2
    go_ret
    refine ⟨_, rfl, ?_, Below.refl _ _⟩
    rw [Hrow.out]
    exact World.ownsRow_nil _ _ _ _
  | some ad =>
    have hnil : ∀ w, (binOp .eql 22 (.slice (some ad) rows.length cap) (.slice none 0 0)).run Try.prog w = .ok (.bool false) w := fun w => Lib.run_eql_slice_nil (P := Try.prog) w 22 _ (some ad) rows.length cap 0 0 Try.underlying22
    go_enter Try.func49, Try.ntmps49; (try simp only [List.append_eq, List.cons_append, List.nil_append])
    go_wp2_with (at_builtin; refine wpList_append_src _ rfl _ _ _ rfl w.heap.size 59 i0 _ (3) (40) Try.underlying22 hi hz0 hz1 hz2 rfl (by decide) (.slice (some ⟨w.heap.size, 0, none⟩) 0 0) 0 [] rfl ⟨rfl, .inr ⟨_, 0, #[], rfl, Nat.le_refl _, World.alloc_heap_new w _, Nat.le_refl _, Nat.zero_le _, rfl, rfl⟩⟩ _ rows.length rows.flatten rfl (Src.of_arr (Ha.out.mono ((Below.refl _ _).alloc hn _) (Nat.le_refl _)) Hr.out (by decide) (by simp)) H1.out (by unfold maxLen; omega) (by omega) (by simp) ?_; intro v3 w3 hown3 hgr3 hat3)
    go_ret
    exact ⟨_, rfl, by simpa using hown3, ((Below.refl _ _).alloc (Nat.le_refl _) _).grown hgr3 (by simp) (by simp [Value.ownBlock])⟩
set_option maxHeartbeats 1000000 in
theorem cloneS (rows : List (List Value)) (v : Value) (n : Nat) (w : World) (hn : n ≤ w.heap.size) (ha : Arr n w v (1) rows) (hr : ∀ r ∈ rows, r.length = 1) (h1 : ∀ u ∈ rows.flatten, u.oneCell' = true) (hl : rows.length ≤ 1000000) :
    Calls Try.prog 50 #[v] w fun e' w' => ∃ v', e' = .returned v' ∧ w'.ownsRow w.heap.size 9 (1) v' rows.length rows.flatten ∧ Below w.heap.size w w' := by
  obtain ⟨i0, hi, hz0, hz1, hz2⟩ := info_parts infoS
  obtain ⟨p, cap, rfl, hc1, hc2, -⟩ := id ha
  have Ha := Lib.hid ha; clear ha
  have Hr := Lib.hid hr; clear hr
  have H1 := Lib.hid h1; clear h1
  cases p with
  | none =>
    have hrow : rows = [] := by
      obtain ⟨p', cap', hv, _, _, h3⟩ := Ha.out
      cases hv
      cases rows with
      | nil => rfl
      | cons r rows => obtain ⟨b, off, hp, _⟩ := h3 (by simp); cases hp
    have Hrow := Lib.hid hrow; clear hrow
    have hnil : ∀ w, (binOp .eql 23 (.slice none rows.length cap) (.slice none 0 0)).run Try.prog w = .ok (.bool true) w := fun w => Lib.run_eql_slice_nil (P := Try.prog) w 23 _ none rows.length cap 0 0 Try.underlying23
    go_enter Try.func50, Try.ntmps50; (try simp only [List.append_eq, List.cons_append, List.nil_append])
    go_wp2
    go_ret
    refine ⟨_, rfl, ?_, Below.refl _ _⟩
    rw [Hrow.out]
    exact World.ownsRow_nil _ _ _ _
  | some ad =>
    have hnil : ∀ w, (binOp .eql 23 (.slice (some ad) rows.length cap) (.slice none 0 0)).run Try.prog w = .ok (.bool false) w := fun w => Lib.run_eql_slice_nil (P := Try.prog) w 23 _ (some ad) rows.length cap 0 0 Try.underlying23
    go_enter Try.func50, Try.ntmps50; (try simp only [List.append_eq, List.cons_append, List.nil_append])
    go_wp2_with (at_builtin; refine wpList_append_src _ rfl _ _ _ rfl w.heap.size 9 i0 _ (1) (16) Try.underlying23 hi hz0 hz1 hz2 rfl (by decide) (.slice (some ⟨w.heap.size, 0, none⟩) 0 0) 0 [] rfl ⟨rfl, .inr ⟨_, 0, #[], rfl, Nat.le_refl _, World.alloc_heap_new w _, Nat.le_refl _, Nat.zero_le _, rfl, rfl⟩⟩ _ rows.length rows.flatten rfl (Src.of_arr (Ha.out.mono ((Below.refl _ _).alloc hn _) (Nat.le_refl _)) Hr.out (by decide) (by simp)) H1.out (by unfold maxLen; omega) (by omega) (by simp) ?_; intro v3 w3 hown3 hgr3 hat3)
    go_ret
    exact ⟨_, rfl, by simpa using hown3, ((Below.refl _ _).alloc (Nat.le_refl _) _).grown hgr3 (by simp) (by simp [Value.ownBlock])⟩
set_option maxHeartbeats 1000000 in
theorem cloneE (rows : List (List Value)) (v : Value) (n : Nat) (w : World) (hn : n ≤ w.heap.size) (ha : Arr n w v (9) rows) (hr : ∀ r ∈ rows, r.length = 9) (h1 : ∀ u ∈ rows.flatten, u.oneCell' = true) (hl : rows.length ≤ 1000000) :
    Calls Try.prog 51 #[v] w fun e' w' => ∃ v', e' = .returned v' ∧ w'.ownsRow w.heap.size 26 (9) v' rows.length rows.flatten ∧ Below w.heap.size w w' := by
  obtain ⟨i0, hi, hz0, hz1, hz2⟩ := info_parts infoE
  obtain ⟨p, cap, rfl, hc1, hc2, -⟩ := id ha
  have Ha := Lib.hid ha; clear ha
  have Hr := Lib.hid hr; clear hr
  have H1 := Lib.hid h1; clear h1
  cases p with
  | none =>
    have hrow : rows = [] := by
      obtain ⟨p', cap', hv, _, _, h3⟩ := Ha.out
      cases hv
      cases rows with
      | nil => rfl
      | cons r rows => obtain ⟨b, off, hp, _⟩ := h3 (by simp); cases hp
    have Hrow := Lib.hid hrow; clear hrow
    have hnil : ∀ w, (binOp .eql 24 (.slice none rows.length cap) (.slice none 0 0)).run Try.prog w = .ok (.bool true) w := fun w => Lib.run_eql_slice_nil (P := Try.prog) w 24 _ none rows.length cap 0 0 Try.underlying24
    go_enter Try.func51, Try.ntmps51; (try simp only [List.append_eq, List.cons_append, List.nil_append])
    go_wp2
    go_ret
    refine ⟨_, rfl, ?_, Below.refl _ _⟩
    rw [Hrow.out]
    exact World.ownsRow_nil _ _ _ _
  | some ad =>
    have hnil : ∀ w, (binOp .eql 24 (.slice (some ad) rows.length cap) (.slice none 0 0)).run Try.prog w = .ok (.bool false) w := fun w => Lib.run_eql_slice_nil (P := Try.prog) w 24 _ (some ad) rows.length cap 0 0 Try.underlying24
    go_enter Try.func51, Try.ntmps51; (try simp only [List.append_eq, List.cons_append, List.nil_append])
    go_wp2_with (at_builtin; refine wpList_append_src _ rfl _ _ _ rfl w.heap.size 26 i0 _ (9) (128) Try.underlying24 hi hz0 hz1 hz2 rfl (by decide) (.slice (some ⟨w.heap.size, 0, none⟩) 0 0) 0 [] rfl ⟨rfl, .inr ⟨_, 0, #[], rfl, Nat.le_refl _, World.alloc_heap_new w _, Nat.le_refl _, Nat.zero_le _, rfl, rfl⟩⟩ _ rows.length rows.flatten rfl (Src.of_arr (Ha.out.mono ((Below.refl _ _).alloc hn _) (Nat.le_refl _)) Hr.out (by decide) (by simp)) H1.out (by unfold maxLen; omega) (by omega) (by simp) ?_; intro v3 w3 hown3 hgr3 hat3)
    go_ret
    exact ⟨_, rfl, by simpa using hown3, ((Below.refl _ _).alloc (Nat.le_refl _) _).grown hgr3 (by simp) (by simp [Value.ownBlock])⟩
end Go.Proofs.Ytikaiiamoaahdaa
