/- label.Name, label.CheckMatch and the references': what they compute. -/
import Derived.Test.YtkheeiipkdeihaaBase
import Derived.Test.YtkheeiipkdeihaaProg
namespace Go.Proofs.Ytkheeiipkdeihaa
open Go.RowKit
set_option linter.unusedSimpArgs false
set_option linter.unusedVariables false

def okC (c : UInt8) : Bool := (97 ≤ c && c ≤ 122) || (48 ≤ c && c ≤ 57) || c == 95
def digC (c : UInt8) : Bool := 48 ≤ c && c ≤ 57
/-- A name. -/
def nameB (s : ByteArray) : Bool := decide (1 ≤ s.size) && decide (s.size ≤ 24) && !(digC (s.data.toList.getD 0 0)) && s.data.toList.all okC

theorem okC_iff (c : UInt8) : okC c = decide ((97 ≤ (c.toNat : Int) ∧ (c.toNat : Int) ≤ 122) ∨ (48 ≤ (c.toNat : Int) ∧ (c.toNat : Int) ≤ 57) ∨ (c.toNat : Int) = 95) := by
  rw [Bool.eq_iff_iff]
  have h : (c == 95) = true ↔ (c.toNat : Int) = 95 := by
    rw [beq_iff_eq]
    constructor
    · intro h; rw [h]; rfl
    · intro h; apply UInt8.toNat_inj.1; have h' : c.toNat = 95 := by omega
      rw [h']; rfl
  simp only [okC, Bool.or_eq_true, h, decide_eq_true_eq, Bool.and_eq_true, UInt8.le_iff_toNat_le]
  simp
  omega
theorem digC_iff (c : UInt8) : digC c = decide (48 ≤ (c.toNat : Int) ∧ (c.toNat : Int) ≤ 57) := by
  rw [Bool.eq_iff_iff]
  simp only [digC, decide_eq_true_eq, Bool.and_eq_true, UInt8.le_iff_toNat_le]
  simp
  omega
theorem okC_no {c : UInt8} (h1 : (c.toNat : Int) < 97 ∨ 122 < (c.toNat : Int)) (h2 : (c.toNat : Int) < 48 ∨ 57 < (c.toNat : Int)) (h3 : ¬ (c.toNat : Int) = 95) : okC c = false := by
  rw [okC_iff]; simp; omega
theorem okC_yes {c : UInt8} (h : (97 ≤ (c.toNat : Int) ∧ (c.toNat : Int) ≤ 122) ∨ (48 ≤ (c.toNat : Int) ∧ (c.toNat : Int) ≤ 57) ∨ (c.toNat : Int) = 95) : okC c = true := by
  rw [okC_iff]; simp; omega
theorem digC_no {c : UInt8} (h : (c.toNat : Int) < 48 ∨ 57 < (c.toNat : Int)) : digC c = false := by
  rw [digC_iff]; simp; omega
theorem digC_yes {c : UInt8} (h : 48 ≤ (c.toNat : Int) ∧ (c.toNat : Int) ≤ 57) : digC c = true := by
  rw [digC_iff]; simp; omega

theorem nameB_true {s : ByteArray} (h1 : 1 ≤ s.size) (h2 : s.size ≤ 24) (h3 : digC (s.data.toList.getD 0 0) = false) (h4 : s.data.toList.all okC = true) : nameB s = true := by
  unfold nameB; rw [h3, h4]; simp [h1, h2]
theorem nameB_bad {s : ByteArray} {k : Nat} (hk : k < s.size) (h : okC s[k] = false) : nameB s = false := by
  have : s.data.toList.all okC = false := all_not (l := s.data.toList) (k := k) (by simpa using hk) h
  unfold nameB; rw [this]; simp
theorem nameB_dig {s : ByteArray} (hk : 0 < s.size) (h : digC s[0] = true) : nameB s = false := by
  have : s.data.toList.getD 0 0 = s[0] := by
    have hk' : 0 < s.data.toList.length := by simpa using hk
    rw [List.getD_eq_getElem?_getD, List.getElem?_eq_getElem hk']; rfl
  unfold nameB; rw [this, h]; simp
theorem nameB_short {s : ByteArray} (h : s.size < 1 ∨ 24 < s.size) : nameB s = false := by
  unfold nameB
  rcases h with h | h
  · have : decide (1 ≤ s.size) = false := decide_eq_false (by omega)
    rw [this]; simp
  · have : decide (s.size ≤ 24) = false := decide_eq_false (by omega)
    rw [this]; simp
theorem str_step {s : ByteArray} {k : Nat} {p : UInt8 → Bool} (h : (s.data.toList.take k).all p = true) (hk : k < s.size) (hp : p s[k] = true) : (s.data.toList.take (k + 1)).all p = true :=
  all_step (l := s.data.toList) h (by simpa using hk) hp
theorem str_done {s : ByteArray} {k : Nat} {p : UInt8 → Bool} (h : (s.data.toList.take k).all p = true) (hk : s.size ≤ k) : s.data.toList.all p = true :=
  all_done (l := s.data.toList) h (by simpa using hk)

set_option maxHeartbeats 400000 in
theorem rName (s : ByteArray) (w : World) (hs : s.size ≤ maxLen) :
    Calls Try.prog 41 #[.string s] w fun e w' => e = .returned (.bool (nameB s)) ∧ w = w' := by
  unfold maxLen at hs
  go_enter Try.func41, Try.ntmps41
  go_wp2
  go_loop [3] (fun i => ∃ k : Nat, k ≤ s.size ∧ i = .int .i64 k ∧ (s.data.toList.take k).all okC = true ∧ (0 < k → digC (s.data.toList.getD 0 0) = false)) (fun i => s.size - (intOf i).toNat)
  case atStart => exact ⟨0, Nat.zero_le _, rfl, by simp, by simp⟩
  case round =>
    obtain ⟨k, hk, rfl, hr, hd⟩ := hrel
    have Hr := Lib.hid hr; clear hr
    have Hd := Lib.hid hd; clear hd
    by_cases hlt : k < s.size
    · have hd0 : k = 0 → s.data.toList.getD 0 0 = s[k] := fun e => by
        subst e
        have hk' : 0 < s.data.toList.length := by simpa using hlt
        rw [List.getD_eq_getElem?_getD, List.getElem?_eq_getElem hk']; rfl
      have Hd0 := Lib.hid hd0; clear hd0
      go_wp2
      all_goals first
        | (go_ret; refine ⟨ret_bool (Eq.symm ?_), rfl⟩; refine nameB_bad hlt (okC_no ?_ ?_ ?_) <;> omega)
        | (go_ret; refine ⟨ret_bool (Eq.symm ?_), rfl⟩; have hk0 : k = 0 := by simp at *; omega
           subst hk0; exact nameB_dig hlt (digC_yes (by omega)))
        | skip
      all_goals go_round
      all_goals first
        | (case measure => simp [intOf]; omega)
        | skip
      all_goals refine ⟨k + 1, by omega, by go_num, str_step Hr.out hlt (okC_yes ?_), fun _ => ?_⟩
      all_goals first
        | omega
        | (rcases Nat.eq_zero_or_pos k with h0 | h0
           · rw [Hd0.out h0]
             first
               | exact digC_no (by omega)
               | (exfalso; subst h0; simp at *)
           · exact Hd.out h0)
    · go_wp2
      all_goals go_ret
      all_goals refine ⟨ret_bool ?_, rfl⟩
      all_goals first
        | exact (nameB_short (by omega)).symm
        | (rcases Nat.lt_or_ge 24 s.size with h24 | h24
           · rw [nameB_short (.inr h24)]; simp; omega
           · rw [nameB_true (by omega) h24 (Hd.out (by omega)) (str_done Hr.out (by omega))]; simp; omega)

set_option maxHeartbeats 400000 in
theorem lName (s : ByteArray) (w : World) (hs : s.size ≤ maxLen) :
    Calls Try.prog 38 #[.string s] w fun e w' => e = .returned (.bool (nameB s)) ∧ w = w' := by
  unfold maxLen at hs
  by_cases h1 : s.size < 1
  · go_enter Try.func38, Try.ntmps38
    go_wp2
    go_ret
    exact ⟨ret_bool (nameB_short (.inl h1)).symm, rfl⟩
  by_cases h2 : 24 < s.size
  · have h1' : 1 ≤ s.size := by omega
    clear h1
    go_enter Try.func38, Try.ntmps38
    go_wp2
    go_ret
    exact ⟨ret_bool (nameB_short (.inr h2)).symm, rfl⟩
  have hlt0 : 0 < s.size := by omega
  have h24 : s.size ≤ 24 := by omega
  have h1' : 1 ≤ s.size := by omega
  clear h1 h2
  have Hd0 : Hid (s.data.toList.getD 0 0 = s[0]) := by
    have hk' : 0 < s.data.toList.length := by simpa using hlt0
    show _ = _
    rw [List.getD_eq_getElem?_getD, List.getElem?_eq_getElem hk']; rfl
  go_enter Try.func38, Try.ntmps38
  go_wp2
  all_goals first
    | (go_ret; refine ⟨ret_bool (Eq.symm (nameB_dig hlt0 (digC_yes ?_))), rfl⟩; omega)
    | skip
  all_goals
    have Hd : Hid (digC (s.data.toList.getD 0 0) = false) := by
      show _ = _
      rw [Hd0.out]; exact digC_no (by omega)
  all_goals go_loop [25] (fun i => ∃ k : Nat, k ≤ s.size ∧ i = .int .i64 k ∧ (s.data.toList.take k).all okC = true) (fun i => s.size - (intOf i).toNat)
  any_goals (case atStart => exact ⟨0, Nat.zero_le _, rfl, by simp⟩)
  all_goals
    obtain ⟨k, hk, rfl, hr⟩ := hrel
    have Hr := Lib.hid hr; clear hr
    by_cases hlt : k < s.size
    · go_wp2
      all_goals (try simp only [Bool.not_eq_true', Bool.not_eq_false', Bool.not_true, Bool.not_false, Bool.not_eq_true, Bool.not_eq_false, beq_iff_eq, beq_eq_false_iff_ne, bne_iff_ne, ne_eq, bne_eq_false_iff_eq, decide_eq_true_eq, decide_eq_false_iff_not, toList_inj] at *)
      all_goals first
        | (go_ret; refine ⟨ret_bool (Eq.symm ?_), rfl⟩; refine nameB_bad hlt (okC_no ?_ ?_ ?_) <;> omega)
        | skip
      all_goals go_round
      all_goals first
        | (case measure => simp [intOf]; omega)
        | skip
      all_goals refine ⟨k + 1, by omega, by go_num, str_step Hr.out hlt (okC_yes ?_)⟩
      all_goals omega
    · go_wp2
      all_goals go_ret
      all_goals exact ⟨ret_bool (nameB_true (by omega) (by omega) Hd.out (str_done Hr.out (by omega))).symm, rfl⟩

end Go.Proofs.Ytkheeiipkdeihaa
