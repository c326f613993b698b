/- kit.LightVector: it answers, and changes nothing that was there. -/
import Derived.Test.YtfmolimnnheaoaaBe0
namespace Go.Proofs.Ytfmolimnnheaoaa
open Go.RowKit
set_option linter.unusedSimpArgs false
set_option linter.unusedVariables false

/-- A vector: of each result, its labels. -/
def IsVec (sz n : Nat) (w : World) (v : Value) (rows : List (List Value)) : Prop := Arr n w v sz rows ∧ ∀ r ∈ rows, ∃ lv labs, r[0]? = some lv ∧ IsLabs n w lv labs
set_option maxRecDepth 100000 in
set_option maxHeartbeats 4000000 in
theorem kLightVector {n : Nat} {v : Value} {rows : List (List Value)} {W : World} (hl : IsVec 3 n W v rows) (hn : n ≤ W.heap.size) :
    Calls Try.prog 31 #[v, .int .i64 30] W fun e w' => AnsB e ∧ Below W.heap.size W w' := by
  obtain ⟨p, cap, rfl, h1, h2, -⟩ := id hl.1
  have Hl := Lib.hid hl
  unfold maxLen at h2
  have hlen : (rows.length : Int) ≤ 9223372036854775807 := by omega
  have Hn := Lib.hid hn
  clear hl
  go_enter Try.func31, Try.ntmps31; (try simp only [List.append_eq, List.cons_append, List.nil_append])
  go_wp2
  go_loopw [5] (fun j wr => ∃ k : Nat, k ≤ rows.length ∧ k ≤ 31 ∧ j = .int .i64 k ∧ Below W.heap.size W wr) (fun j _ => 32 - (intOf j).toNat)
  case atStart => exact ⟨0, Nat.zero_le _, by omega, rfl, Below.refl _ _⟩
  case round =>
    obtain ⟨k, hk, hk31, rfl, hb⟩ := hrel
    have HB := Lib.hid hb
    have hsz := hb.size
    clear hb
    by_cases hlt : k < rows.length ∧ k ≤ 30
    · obtain ⟨h5, h6⟩ := hlt
      have hki : (k : Int) < (rows.length : Int) := by omega
      have hkj : (k : Int) ≤ 30 := by omega
      obtain ⟨r, hr⟩ : ∃ r, rows[k]? = some r := ⟨_, List.getElem?_eq_getElem h5⟩
      obtain ⟨lv, labs, hr0, hlab⟩ := Hl.out.2 r (List.mem_of_getElem? hr)
      obtain ⟨b1, o1, rfl, hb1, hc⟩ := Arr.at (Arr.mono Hl.out.1 (HB.out.mono Hn.out) (Nat.le_refl _)) k r hr
      have d0 : wr.cell? ⟨b1, o1 + k * 3, none⟩ = some lv := by simpa using hc 0 _ hr0
      have hw1 : b1 < wr.heap.size := by omega
      have HC := Lib.hid (kLightLabels (Arr.mono hlab (HB.out.mono Hn.out) (Nat.le_refl _)) (Nat.le_trans Hn.out hsz))
      clear hc hr hr0 hlab
      go_wp2_with fail
      refine HC.out.mono ?_
      rintro e w2 ⟨⟨b, rfl⟩, hb2⟩
      have HB2 := Lib.hid (HB.out.trans (hb2.mono hsz))
      clear hb2
      cases b with
      | true =>
        go_wp2
        exact ⟨⟨k + 1, by omega, by omega, by go_num, HB2.out⟩, by simp [intOf]; omega⟩
      | false =>
        go_wp2
        go_ret
        exact ⟨⟨_, rfl⟩, HB2.out⟩
    · by_cases h5 : k < rows.length
      · have hki : (k : Int) < (rows.length : Int) := by omega
        have hkj : ¬ (k : Int) ≤ 30 := by omega
        go_wp2
        go_ret
        exact ⟨⟨_, rfl⟩, HB.out⟩
      · have hki : ¬ (k : Int) < (rows.length : Int) := by omega
        go_wp2
        go_ret
        exact ⟨⟨_, rfl⟩, HB.out⟩
end Go.Proofs.Ytfmolimnnheaoaa
