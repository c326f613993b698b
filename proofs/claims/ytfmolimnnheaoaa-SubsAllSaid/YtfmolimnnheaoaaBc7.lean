/- kit.Told on times without results; told. -/
import Derived.Test.YtfmolimnnheaoaaBc6
import Derived.Deep.QuietTactic
namespace Go.Proofs.Ytfmolimnnheaoaa
open Go.RowKit
set_option linter.unusedSimpArgs false
set_option linter.unusedVariables false
open Go.Maps

set_option maxRecDepth 100000 in
theorem bTold (t : Int) (W : World) : Calls Try.prog 18 #[.int .i64 t] W fun e w' => e = .returned (.agg #[.int .i64 t, .slice none 0 0]) ∧ Below W.heap.size W w' := by
  go_enter Try.func18, Try.ntmps18; (try simp only [List.append_eq, List.cons_append, List.nil_append])
  go_wp2_with (refine wpList_store_new rfl 36 _ _ rfl #[.int .i64 t, .slice none 0 0] _ _ rfl rfl (by kernel_rfl) rfl (by kernel_rfl) ?_)
  exact bodyPost_agg (d := _) rfl rfl (World.alloc_heap_new W _) Try.underlying36 rfl (by kernel_rfl) rfl ⟨rfl, (Below.refl _ _).alloc (Nat.le_refl _) _⟩
set_option maxRecDepth 100000 in
theorem kVec0 (W : World) : Calls Try.prog 42 #[.slice none 0 0, .slice none 0 0] W fun e w' => e = .returned (.bool true) ∧ w' = W := by
  go_enter Try.func42, Try.ntmps42; (try simp only [List.append_eq, List.cons_append, List.nil_append])
  go_wp2
  go_loopw [5] (fun j wr => j = .int .i64 0 ∧ wr = W) (fun _ _ => 0)
  case atStart => exact ⟨rfl, rfl⟩
  case round =>
    obtain ⟨rfl, hw⟩ := hrel
    subst hw
    go_wp2
    go_ret
    exact ⟨rfl, rfl⟩
set_option maxRecDepth 100000 in
set_option maxHeartbeats 4000000 in
theorem kTold {n : Nat} {v u : Value} {l m : List Int} {W : World} (hl : IsT n W v l) (hm : IsT n W u m) (hn : n ≤ W.heap.size) (hlen : l.length ≤ 100000) :
    Calls Try.prog 27 #[v, u] W fun e w' => e = .returned (.bool (decide (l = m))) ∧ Below W.heap.size W w' := by
  obtain ⟨p, cap, rfl, hcap1, hcap2⟩ := hl.open
  obtain ⟨p2, cap2, rfl, hcap3, hcap4⟩ := hm.open
  by_cases hne : l.length = m.length
  · have Hl := Lib.hid hl; have Hm := Lib.hid hm; have Hn := Lib.hid hn
    rw [hne] at hlen
    have Hne := Lib.hid hne
    obtain ⟨N, hN⟩ : ∃ z, m.length = z := ⟨_, rfl⟩
    rw [hne, hN]
    rw [hN] at hlen
    have HN := Lib.hid hN
    clear hl hm hn hne hN hcap1 hcap2 hcap3 hcap4
    go_enter Try.func27, Try.ntmps27; (try simp only [List.append_eq, List.cons_append, List.nil_append])
    go_wp2
    go_loopw [5] (fun j wr => ∃ k : Nat, k ≤ N ∧ j = .int .i64 k ∧ l.take k = m.take k ∧ Below W.heap.size W wr) (fun j _ => N - (intOf j).toNat)
    case atStart => exact ⟨0, Nat.zero_le _, rfl, rfl, Below.refl _ _⟩
    case round =>
      obtain ⟨k, hk, rfl, htk, hb⟩ := hrel
      have Htk := Lib.hid htk; have HB := Lib.hid hb
      clear htk hb
      by_cases hlt : k < N
      · have hki : (k : Int) < (N : Int) := by omega
        obtain ⟨x, hx⟩ : ∃ x, l[k]? = some x := ⟨_, List.getElem?_eq_getElem (by have := Hne.out; have := HN.out; omega)⟩
        obtain ⟨y, hy⟩ : ∃ y, m[k]? = some y := ⟨_, List.getElem?_eq_getElem (by have := HN.out; omega)⟩
        obtain ⟨b1, o1, rfl, hb1, d0, d1⟩ := (Hl.out.mono (HB.out.mono Hn.out) (Nat.le_refl _)).get hx
        obtain ⟨b2, o2, rfl, hb2, e0, e1⟩ := (Hm.out.mono (HB.out.mono Hn.out) (Nat.le_refl _)).get hy
        have hsz := HB.out.size
        have hn1 := Hn.out
        have hw1 : b1 < wr.heap.size := by omega
        have hw2 : b2 < wr.heap.size := by omega
        have HX := Lib.hid hx; have HY := Lib.hid hy
        clear hx hy
        by_cases hxy : x = y
        · subst hxy
          have hxx : (x != x) = false := by simp
          go_wp2_with fail
          go_quiet ((go_at_call 42; exact Calls.quiet_of_same (kVec0 _)))
          go_wp2
          exact ⟨⟨k + 1, by omega, by go_num, by rw [List.take_add_one, List.take_add_one, HX.out, HY.out, Htk.out], below_drewN HB.out _⟩, by simp [intOf]; omega⟩
        · have hne2 : (x != y) = true := by simpa using hxy
          go_wp2_with fail
          go_quiet (fail)
          go_wp2
          go_ret
          exact ⟨by
            have h1 : l ≠ m := fun e => by
              have h2 := HX.out
              rw [e, HY.out] at h2
              exact hxy (Option.some.inj h2).symm
            rw [decide_eq_false h1]; rfl, below_drewN HB.out _⟩
      · have hk' : k = N := by omega
        subst hk'
        have hki : ¬ ((k : Int) < (k : Int)) := by omega
        go_wp2
        go_ret
        exact ⟨by
          have h1 := Htk.out
          rw [List.take_of_length_le (by have := Hne.out; have := HN.out; omega), List.take_of_length_le (by have := HN.out; omega)] at h1
          rw [decide_eq_true h1]; rfl, HB.out⟩
  · have hni : ¬ (l.length : Int) = (m.length : Int) := by omega
    have hdl : decide (l = m) = false := decide_eq_false (fun e => hne (by rw [e]))
    rw [hdl]
    clear hl hm
    go_enter Try.func27, Try.ntmps27; (try simp only [List.append_eq, List.cons_append, List.nil_append])
    go_wp2
    go_ret
    exact ⟨rfl, Below.refl _ _⟩
end Go.Proofs.Ytfmolimnnheaoaa
