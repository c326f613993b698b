/- kit.LightLabels: it answers, and changes nothing that was there. -/
import Derived.Test.YtfmolimnnheaoaaBd0
namespace Go.Proofs.Ytfmolimnnheaoaa
open Go.RowKit
set_option linter.unusedSimpArgs false
set_option linter.unusedVariables false

/-- It answers. -/
def AnsB (e : Ending) : Prop := ∃ r : Bool, e = .returned (.bool r)
/-- A list of labels. -/
def IsLabs (n : Nat) (w : World) (v : Value) (l : List (ByteArray × ByteArray)) : Prop := Arr n w v 2 (l.map fun x => [.string x.1, .string x.2])
set_option maxRecDepth 100000 in
set_option maxHeartbeats 4000000 in
theorem kLightLabels {n : Nat} {v : Value} {l : List (ByteArray × ByteArray)} {W : World} (hl : IsLabs n W v l) (hn : n ≤ W.heap.size) :
    Calls Try.prog 43 #[v] W fun e w' => AnsB e ∧ Below W.heap.size W w' := by
  obtain ⟨p, cap, rfl, h1, h2, -⟩ := id hl
  simp only [List.length_map] at h1
  have hll : (l.map fun x => ([.string x.1, .string x.2] : List Value)).length = l.length := List.length_map _
  have Hl := Lib.hid hl
  rw [hll] at Hl ⊢
  unfold maxLen at h2
  have hlen : (l.length : Int) ≤ 9223372036854775807 := by omega
  clear hl
  go_enter Try.func43, Try.ntmps43; (try simp only [List.append_eq, List.cons_append, List.nil_append])
  go_wp2
  go_loopw [3] (fun j wr => ∃ k : Nat, k ≤ l.length ∧ k ≤ 31 ∧ j = .int .i64 k ∧ wr = W) (fun j _ => 32 - (intOf j).toNat)
  case atStart => exact ⟨0, Nat.zero_le _, by omega, rfl, rfl⟩
  case round =>
    obtain ⟨k, hk, hk31, rfl, hw⟩ := hrel
    subst hw
    by_cases hlt : k < l.length ∧ k ≤ 30
    · obtain ⟨h5, h6⟩ := hlt
      have hki : (k : Int) < (l.length : Int) := by omega
      have hkj : (k : Int) ≤ 30 := by omega
      obtain ⟨x, hx⟩ : ∃ x, l[k]? = some x := ⟨_, List.getElem?_eq_getElem h5⟩
      obtain ⟨b1, o1, rfl, hb1, hc⟩ := Arr.at Hl.out k [.string x.1, .string x.2] (by rw [List.getElem?_map, hx]; rfl)
      have d0 : wr.cell? ⟨b1, o1 + k * 2, none⟩ = some (.string x.1) := by simpa using hc 0 _ rfl
      have d1 : wr.cell? ⟨b1, o1 + k * 2 + 1, none⟩ = some (.string x.2) := hc 1 _ rfl
      have hw1 : b1 < wr.heap.size := by omega
      clear hc hx
      go_wp2
      all_goals first
        | exact ⟨⟨k + 1, by omega, by omega, by go_num, rfl⟩, by simp [intOf]; omega⟩
        | exact ⟨⟨k + 1, by omega, by omega, by go_num, trivial⟩, by simp [intOf]; omega⟩
        | (go_ret; exact ⟨⟨_, rfl⟩, Below.refl _ _⟩)
        | trace_state
    · by_cases h5 : k < l.length
      · have hki : (k : Int) < (l.length : Int) := by omega
        have hkj : ¬ (k : Int) ≤ 30 := by omega
        go_wp2
        go_ret
        exact ⟨⟨_, rfl⟩, Below.refl _ _⟩
      · have hki : ¬ (k : Int) < (l.length : Int) := by omega
        go_wp2
        go_ret
        exact ⟨⟨_, rfl⟩, Below.refl _ _⟩
end Go.Proofs.Ytfmolimnnheaoaa
