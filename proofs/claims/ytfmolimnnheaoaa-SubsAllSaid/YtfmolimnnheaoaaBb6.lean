/- What was told, cloned; appended; in a block of the call's own. -/
import Derived.Test.YtfmolimnnheaoaaBb5
namespace Go.Proofs.Ytfmolimnnheaoaa
open Go.RowKit
set_option linter.unusedSimpArgs false
set_option linter.unusedVariables false
open Go.Maps

theorem infoTold : (Try.prog.info? 36).map (fun i => (i.zero, i.size, i.bytes)) = some (some (.agg #[.int .i64 0, .slice none 0 0]), 2, 32) := by kernel_rfl
/-- Told times in a block of the call's own. -/
def OwnT (base : Nat) (w : World) (v : Value) (l : List Int) : Prop := w.ownsRow base 36 2 v l.length (l.map toldC).flatten
theorem told_len (l : List Int) : ∀ r ∈ l.map toldC, r.length = 2 := by
  intro r hr
  obtain ⟨t, -, rfl⟩ := List.mem_map.1 hr
  rfl
theorem told_one (l : List Int) : ∀ u ∈ (l.map toldC).flatten, u.oneCell' = true := by
  intro u hu
  obtain ⟨r, hr, hu⟩ := List.mem_flatten.1 hu
  obtain ⟨t, -, rfl⟩ := List.mem_map.1 hr
  simp [toldC] at hu
  rcases hu with rfl | rfl <;> rfl
theorem told_flat (l : List Int) : (l.map toldC).flatten.length = l.length * 2 := by
  induction l with
  | nil => rfl
  | cons t l ih => rw [List.map_cons, List.flatten_cons, List.length_append, ih, List.length_cons]; show 2 + _ = _; omega
theorem OwnT.isT {base m : Nat} {w : World} {v : Value} {l : List Int} (h : OwnT base w v l) (hm : w.heap.size ≤ m) : IsT m w v l := by
  rcases h.2 with ⟨rfl, hl⟩ | ⟨g, cap, cur, rfl, hg, hh, hc1, hc2, hc3, hc4⟩
  · have : l = [] := List.eq_nil_of_length_eq_zero (by omega)
    subst this
    exact Arr.nil _ _ _
  · refine ⟨_, cap, by rw [List.length_map], by simpa using hc1, hc2, fun _ => ⟨g, 0, rfl, ?_, fun k r hr j x hx => ?_⟩⟩
    · have := (Array.getElem?_eq_some_iff.1 hh).1; omega
    · have hcell := World.ownsRow.cells h (g := g) rfl (k * 2 + j) x (flatten_at (told_len l) hr hx)
      rw [show (⟨g, 0, none⟩ : Addr).add (k * 2 + j) = ⟨g, 0 + k * 2 + j, none⟩ by unfold Addr.add; split <;> simp <;> omega] at hcell
      exact hcell
theorem OwnT.nil {base : Nat} {w : World} : OwnT base w (.slice none 0 0) [] := World.ownsRow_nil _ _ _ _
theorem OwnT.keep {base : Nat} {w w' : World} {v : Value} {l : List Int} (h : OwnT base w v l) (hb : Below w.heap.size w w') : OwnT base w' v l := ownsRow_keep h hb
set_option maxRecDepth 100000 in
set_option maxHeartbeats 1000000 in
theorem cloneT (l : List Int) (v : Value) (n : Nat) (w : World) (hn : n ≤ w.heap.size) (ha : IsT n w v l) (hl : l.length ≤ 1000000) :
    Calls Try.prog 44 #[v] w fun e' w' => ∃ v', e' = .returned v' ∧ OwnT w.heap.size w' v' l ∧ Below w.heap.size w w' := by
  obtain ⟨i0, hi, hz0, hz1, hz2⟩ := info_parts infoTold
  obtain ⟨p, cap, rfl, hc1, hc2⟩ := ha.open
  have Ha := Lib.hid ha; clear ha
  cases p with
  | none =>
    have hrow : l = [] := by
      cases l with
      | nil => rfl
      | cons r rows =>
        obtain ⟨b, off, hp, _⟩ := Ha.out.get (k := 0) rfl
        cases hp
    have Hrow := Lib.hid hrow; clear hrow
    have hnil : ∀ w, (binOp .eql 41 (.slice none l.length cap) (.slice none 0 0)).run Try.prog w = .ok (.bool true) w := fun w => Lib.run_eql_slice_nil (P := Try.prog) w 41 _ none l.length cap 0 0 Try.underlying41
    go_enter Try.func44, Try.ntmps44; (try simp only [List.append_eq, List.cons_append, List.nil_append])
    go_wp2
    go_ret
    refine ⟨_, rfl, ?_, Below.refl _ _⟩
    rw [Hrow.out]
    exact OwnT.nil
  | some ad =>
    have hnil : ∀ w, (binOp .eql 41 (.slice (some ad) l.length cap) (.slice none 0 0)).run Try.prog w = .ok (.bool false) w := fun w => Lib.run_eql_slice_nil (P := Try.prog) w 41 _ (some ad) l.length cap 0 0 Try.underlying41
    have hll : (l.map toldC).length = l.length := List.length_map _
    have hs0 := Src.of_arr (rows := l.map toldC) (c := cap) (p := some ad) (n := w.heap.size + 1) (w := w.alloc (.cells #[] 36)) (by rw [hll]; exact Arr.mono Ha.out ((Below.refl _ _).alloc hn _) (by omega)) (told_len l) (by decide) (by simp)
    rw [hll] at hs0
    have HS := Lib.hid hs0; clear hs0
    go_enter Try.func44, Try.ntmps44; (try simp only [List.append_eq, List.cons_append, List.nil_append])
    go_wp2_with (at_builtin; refine wpList_append_src _ rfl _ _ _ rfl w.heap.size 36 i0 _ 2 32 Try.underlying41 hi hz0 hz1 hz2 rfl (by decide) (.slice (some ⟨w.heap.size, 0, none⟩) 0 0) 0 [] rfl ⟨rfl, .inr ⟨_, 0, #[], rfl, Nat.le_refl _, World.alloc_heap_new w _, Nat.le_refl _, Nat.zero_le _, rfl, rfl⟩⟩ _ l.length (l.map toldC).flatten rfl HS.out (told_one l) (by unfold maxLen; omega) (by omega) (by simp) ?_; intro v3 w3 hown3 hgr3 hat3)
    go_ret
    exact ⟨_, rfl, by unfold OwnT; simpa using hown3, ((Below.refl _ _).alloc (Nat.le_refl _) _).grown hgr3 (by simp) (by simp [Value.ownBlock])⟩
end Go.Proofs.Ytfmolimnnheaoaa
