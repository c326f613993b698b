/- kit.LightVector: it answers; true for no vector of more than 60. -/
import Derived.Test.YtgmdlnobajmjfaaDoorSmT
namespace Go.Proofs.YtgmdlnobajmjfaaDoor
open Go.RowKit
set_option linter.unusedSimpArgs false
set_option linter.unusedVariables false

def AnsV (v : List Rs) (m : Nat) (e : Ending) : Prop := ∃ r : Bool, e = .returned (.bool r) ∧ (r = true → v.length ≤ m)
set_option maxRecDepth 100000 in
set_option maxHeartbeats 4000000 in
theorem kLightVector {v : List Rs} {va : Value} {n m : Nat} {W : World} (hn : n ≤ W.heap.size) (ha : IsRes n W va v) (hm : m ≤ 1000) :
    Calls Tryd.prog 6 #[va, .int .i64 m] W fun e w' => AnsV v m e ∧ Below W.heap.size W w' := by
  obtain ⟨p, cap, rfl, hc1, hc2⟩ := ha.open
  unfold maxLen at hc2
  have HA := Lib.hid ha; have HN := Lib.hid hn
  clear ha hn
  obtain ⟨N, hN⟩ : ∃ z, v.length = z := ⟨_, rfl⟩
  rw [hN] at HA hc1 ⊢
  have HNL := Lib.hid hN
  clear hN
  have hN2 : (N : Int) ≤ 9223372036854775807 := by omega
  have hm2 : (m : Int) ≤ 1000 := by omega
  go_enter Tryd.func6, Tryd.ntmps6; (try simp only [List.append_eq, List.cons_append, List.nil_append])
  go_wp2
  go_loopw [5] (fun j wr => ∃ k : Nat, k ≤ N ∧ k ≤ m + 1 ∧ j = .int .i64 k ∧ Below W.heap.size W wr) (fun j _ => m + 2 - (intOf j).toNat)
  case atStart => exact ⟨0, Nat.zero_le _, by omega, rfl, Below.refl _ _⟩
  case round =>
    obtain ⟨k, hk, hk31, rfl, hb⟩ := hrel
    have HB := Lib.hid hb
    have hsz := hb.size
    clear hb
    by_cases hlt : k < N ∧ k ≤ m
    · obtain ⟨h5, h6⟩ := hlt
      have hki : (k : Int) < (N : Int) := by omega
      have hkj : (k : Int) ≤ (m : Int) := by omega
      obtain ⟨r, hr⟩ : ∃ r, v[k]? = some r := ⟨_, List.getElem?_eq_getElem (by have := HNL.out; omega)⟩
      obtain ⟨b1, o1, q1, c1, rfl, hb1, d0, d1, d2, hl1, -⟩ := (HA.out.mono (HB.out.mono HN.out) (Nat.le_refl _)).get hr
      have HL1 := Lib.hid hl1
      clear hr hl1 d1 d2
      obtain ⟨l1, x1, y1⟩ := r
      simp only at d0 HL1
      obtain ⟨m1, hm1⟩ : ∃ z, l1.length = z := ⟨_, rfl⟩
      rw [hm1] at d0 HL1
      clear hm1
      have hw1 : b1 < wr.heap.size := by have := HN.out; omega
      have HC := Lib.hid (kLightLabels (Nat.le_trans HN.out hsz) HL1.out)
      go_wp2_with fail
      refine HC.out.mono ?_
      rintro e w2 ⟨⟨b, rfl⟩, rfl⟩
      cases b with
      | true =>
        go_wp2
        exact ⟨⟨k + 1, by omega, by omega, by go_num, HB.out⟩, by simp [intOf]; omega⟩
      | false =>
        go_wp2
        go_ret
        exact ⟨⟨_, rfl, fun h => by simp at h⟩, HB.out⟩
    · by_cases h5 : k < N
      · have hki : (k : Int) < (N : Int) := by omega
        have hkj : ¬ (k : Int) ≤ (m : Int) := by omega
        have hnm : ¬ (N : Int) ≤ (m : Int) := by omega
        go_wp2
        go_ret
        exact ⟨⟨_, rfl, fun h => by simp at h⟩, HB.out⟩
      · have hki : ¬ (k : Int) < (N : Int) := by omega
        have HV := Lib.hid (show decide ((N : Int) ≤ (m : Int)) = true → v.length ≤ m from fun h => by have := of_decide_eq_true h; have := HNL.out; omega)
        clear hlt h5
        go_wp2
        go_ret
        exact ⟨⟨_, rfl, fun h => HV.out (by simpa using h)⟩, HB.out⟩
end Go.Proofs.YtgmdlnobajmjfaaDoor
