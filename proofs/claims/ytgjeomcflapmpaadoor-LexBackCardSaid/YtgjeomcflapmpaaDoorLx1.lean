/- lex: letter, digit, half, until, word. -/
import Derived.Test.YtgjeomcflapmpaaDoorLx0
import Derived.Test.YtgjeomcflapmpaaDoorProg
namespace Go.Proofs.YtgjeomcflapmpaaDoor
open Go.RowKit
set_option linter.unusedSimpArgs false
set_option linter.unusedVariables false

/-- The bytes of a string from a place on. -/
def sl (s : ByteArray) (k : Nat) : List UInt8 := s.data.toList.drop k
theorem sl_length (s : ByteArray) (k : Nat) : (sl s k).length = s.size - k := by unfold sl; simp
theorem sl_cons {s : ByteArray} {k : Nat} (h : k < s.size) : sl s k = s[k] :: sl s (k + 1) := by
  unfold sl
  rw [List.drop_eq_getElem_cons (by simpa using h)]; rfl
theorem sl_end {s : ByteArray} {k : Nat} (h : s.size ≤ k) : sl s k = [] := by unfold sl; exact List.drop_of_length_le (by simpa using h)
theorem sl_drop (s : ByteArray) (k n : Nat) : (sl s k).drop n = sl s (k + n) := by unfold sl; rw [List.drop_drop]
theorem headIs_at {p : UInt8 → Bool} {s : ByteArray} {k : Nat} (h : k < s.size) : headIs p (sl s k) = p s[k] := by rw [sl_cons h]; rfl
theorem headIs_end {p : UInt8 → Bool} {s : ByteArray} {k : Nat} (h : s.size ≤ k) : headIs p (sl s k) = false := by rw [sl_end h]; rfl
theorem sl_snoc {s : ByteArray} {a k : Nat} (ha : a ≤ k) (h : k < s.size) : (sl s a).take (k + 1 - a) = (sl s a).take (k - a) ++ [s[k]] := by
  have e : k + 1 - a = (k - a) + 1 := by omega
  rw [e, List.take_succ_eq_append_getElem (by rw [sl_length]; omega)]
  unfold sl
  rw [List.getElem_drop]
  congr 2
  have : a + (k - a) = k := by omega
  simp only [this]; rfl
theorem extract_sl (s : ByteArray) (a n : Nat) : s.extract a (a + n) = ⟨((sl s a).take n).toArray⟩ := by
  unfold sl
  apply ByteArray.ext
  simp only [ByteArray.data_extract]
  apply Array.ext'
  simp [List.extract_eq_take_drop]

theorem letC_iff (c : UInt8) : letC c = decide ((97 ≤ (c.toNat : Int) ∧ (c.toNat : Int) ≤ 122) ∨ (c.toNat : Int) = 95) := by
  rw [Bool.eq_iff_iff]
  have h : (c == 95) = true ↔ (c.toNat : Int) = 95 := by
    rw [beq_iff_eq]
    constructor
    · intro h; rw [h]; rfl
    · intro h; apply UInt8.toNat_inj.1; have h' : c.toNat = 95 := by omega
      rw [h']; rfl
  simp only [letC, Bool.or_eq_true, h, decide_eq_true_eq, Bool.and_eq_true, UInt8.le_iff_toNat_le]
  simp
  omega
theorem dgC_iff (c : UInt8) : dgC c = decide (48 ≤ (c.toNat : Int) ∧ (c.toNat : Int) ≤ 57) := by
  rw [Bool.eq_iff_iff]
  simp only [dgC, decide_eq_true_eq, Bool.and_eq_true, UInt8.le_iff_toNat_le]
  simp
  omega
theorem u8_eq_iff (c : UInt8) (n : Nat) (hn : n < 256) : (c = UInt8.ofNat n) ↔ (c.toNat : Int) = n := by
  constructor
  · intro h; rw [h]; simp [UInt8.toNat_ofNat']; omega
  · intro h; apply UInt8.toNat_inj.1; rw [UInt8.toNat_ofNat']; omega

theorem lLetter (c : UInt8) (w : World) : Calls Tryd.prog 38 #[.int .u8 c.toNat] w fun e w' => e = .returned (.bool (letC c)) ∧ w = w' := by
  rw [letC_iff]
  go_enter Tryd.func38, Tryd.ntmps38; (try simp only [List.append_eq, List.cons_append, List.nil_append])
  go_wp2
  all_goals go_ret
  all_goals exact ⟨ret_bool (by (first | rfl | (rw [Bool.eq_iff_iff]; simp only [Bool.and_eq_true, Bool.or_eq_true, decide_eq_true_eq, beq_iff_eq, bne_iff_ne, ne_eq, Bool.not_eq_true', decide_eq_false_iff_not, Bool.false_eq_true, iff_false, false_iff, iff_true, true_iff]; omega))), rfl⟩
theorem lDigit (c : UInt8) (w : World) : Calls Tryd.prog 39 #[.int .u8 c.toNat] w fun e w' => e = .returned (.bool (dgC c)) ∧ w = w' := by
  rw [dgC_iff]
  go_enter Tryd.func39, Tryd.ntmps39; (try simp only [List.append_eq, List.cons_append, List.nil_append])
  go_wp2
  all_goals go_ret
  all_goals exact ⟨ret_bool (by (first | rfl | (rw [Bool.eq_iff_iff]; simp only [Bool.and_eq_true, Bool.or_eq_true, decide_eq_true_eq, beq_iff_eq, bne_iff_ne, ne_eq, Bool.not_eq_true', decide_eq_false_iff_not, Bool.false_eq_true, iff_false, false_iff, iff_true, true_iff]; omega))), rfl⟩
theorem lWord1 (c : UInt8) (w : World) : Calls Tryd.prog 48 #[.int .u8 c.toNat] w fun e w' => e = .returned (.bool (wordC c)) ∧ w = w' := by
  unfold wordC
  have hl := fun wx => lLetter c wx
  generalize letC c = b at hl ⊢
  have Hl := Lib.hid hl; clear hl
  cases b
  all_goals
    go_enter Tryd.func48, Tryd.ntmps48; (try simp only [List.append_eq, List.cons_append, List.nil_append])
    go_wp2_with (first
      | (go_at_call 38; refine (Hl.out _).mono ?_; rintro e w' ⟨rfl, rfl⟩)
      | (go_at_call 39; refine (lDigit _ _).mono ?_; rintro e w' ⟨rfl, rfl⟩))
    go_ret
    exact ⟨rfl, rfl⟩
theorem lNote1 (c : UInt8) (w : World) : Calls Tryd.prog 24 #[.int .u8 c.toNat] w fun e w' => e = .returned (.bool (notNl c)) ∧ w = w' := by
  go_enter Tryd.func24, Tryd.ntmps24; (try simp only [List.append_eq, List.cons_append, List.nil_append])
  go_wp2
  all_goals go_ret
  all_goals refine ⟨ret_bool ?_, rfl⟩
  all_goals
    rw [Bool.eq_iff_iff]
    simp only [notNl, bne_iff_ne, ne_eq]
    have := u8_eq_iff c 10 (by omega)
    rw [show UInt8.ofNat 10 = 10 from rfl] at this
    rw [this]; simp

theorem untilWord (s : ByteArray) (a : Nat) (w : World) (hs : s.size ≤ maxLen) (ha : a ≤ s.size) :
    Calls Tryd.prog 23 #[.string s, .int .i64 a, .func (.func 48) #[] #[]] w fun e w' => e = .returned (.int .i64 (runN wordC (sl s a))) ∧ w = w' := by
  unfold maxLen at hs
  go_enter Tryd.func23, Tryd.ntmps23; (try simp only [List.append_eq, List.cons_append, List.nil_append])
  go_wp2
  go_loop [7] (fun i => ∃ k : Nat, a ≤ k ∧ k ≤ s.size ∧ i = .int .i64 k ∧ ((sl s a).take (k - a)).all wordC = true) (fun i => s.size - (intOf i).toNat)
  case atStart => exact ⟨a, Nat.le_refl _, ha, rfl, by simp⟩
  case round =>
    obtain ⟨k, hak, hk, rfl, hr⟩ := hrel
    have Hr := Lib.hid hr; clear hr
    by_cases hlt : k < s.size
    · go_wp2_with (go_at_call 48; refine (lWord1 _ _).mono ?_; rintro e w' ⟨rfl, rfl⟩)
      · go_round
        case rel =>
          refine ⟨k + 1, by omega, by omega, by go_num, ?_⟩
          rw [sl_snoc hak hlt, List.all_append, Hr.out]
          simp; assumption
        case measure => simp [intOf]; omega
      · go_ret
        refine ⟨ret_int ?_, rfl⟩
        rw [runN_eq (n := k - a) (by rw [sl_length]; omega) Hr.out (by rw [sl_drop, show a + (k - a) = k by omega, headIs_at hlt]; assumption)]
        omega
    · go_wp2
      go_ret
      refine ⟨ret_int ?_, rfl⟩
      rw [runN_eq (n := k - a) (by rw [sl_length]; omega) Hr.out (by rw [sl_drop, show a + (k - a) = k by omega, headIs_end (by omega)])]
      omega

theorem untilDigit (s : ByteArray) (a : Nat) (w : World) (hs : s.size ≤ maxLen) (ha : a ≤ s.size) :
    Calls Tryd.prog 23 #[.string s, .int .i64 a, .func (.func 39) #[] #[]] w fun e w' => e = .returned (.int .i64 (runN dgC (sl s a))) ∧ w = w' := by
  unfold maxLen at hs
  go_enter Tryd.func23, Tryd.ntmps23; (try simp only [List.append_eq, List.cons_append, List.nil_append])
  go_wp2
  go_loop [7] (fun i => ∃ k : Nat, a ≤ k ∧ k ≤ s.size ∧ i = .int .i64 k ∧ ((sl s a).take (k - a)).all dgC = true) (fun i => s.size - (intOf i).toNat)
  case atStart => exact ⟨a, Nat.le_refl _, ha, rfl, by simp⟩
  case round =>
    obtain ⟨k, hak, hk, rfl, hr⟩ := hrel
    have Hr := Lib.hid hr; clear hr
    by_cases hlt : k < s.size
    · go_wp2_with (go_at_call 39; refine (lDigit _ _).mono ?_; rintro e w' ⟨rfl, rfl⟩)
      · go_round
        case rel =>
          refine ⟨k + 1, by omega, by omega, by go_num, ?_⟩
          rw [sl_snoc hak hlt, List.all_append, Hr.out]
          simp; assumption
        case measure => simp [intOf]; omega
      · go_ret
        refine ⟨ret_int ?_, rfl⟩
        rw [runN_eq (n := k - a) (by rw [sl_length]; omega) Hr.out (by rw [sl_drop, show a + (k - a) = k by omega, headIs_at hlt]; assumption)]
        omega
    · go_wp2
      go_ret
      refine ⟨ret_int ?_, rfl⟩
      rw [runN_eq (n := k - a) (by rw [sl_length]; omega) Hr.out (by rw [sl_drop, show a + (k - a) = k by omega, headIs_end (by omega)])]
      omega

theorem untilNote (s : ByteArray) (a : Nat) (w : World) (hs : s.size ≤ maxLen) (ha : a ≤ s.size) :
    Calls Tryd.prog 23 #[.string s, .int .i64 a, .func (.func 24) #[] #[]] w fun e w' => e = .returned (.int .i64 (runN notNl (sl s a))) ∧ w = w' := by
  unfold maxLen at hs
  go_enter Tryd.func23, Tryd.ntmps23; (try simp only [List.append_eq, List.cons_append, List.nil_append])
  go_wp2
  go_loop [7] (fun i => ∃ k : Nat, a ≤ k ∧ k ≤ s.size ∧ i = .int .i64 k ∧ ((sl s a).take (k - a)).all notNl = true) (fun i => s.size - (intOf i).toNat)
  case atStart => exact ⟨a, Nat.le_refl _, ha, rfl, by simp⟩
  case round =>
    obtain ⟨k, hak, hk, rfl, hr⟩ := hrel
    have Hr := Lib.hid hr; clear hr
    by_cases hlt : k < s.size
    · go_wp2_with (go_at_call 24; refine (lNote1 _ _).mono ?_; rintro e w' ⟨rfl, rfl⟩)
      · go_round
        case rel =>
          refine ⟨k + 1, by omega, by omega, by go_num, ?_⟩
          rw [sl_snoc hak hlt, List.all_append, Hr.out]
          simp; assumption
        case measure => simp [intOf]; omega
      · go_ret
        refine ⟨ret_int ?_, rfl⟩
        rw [runN_eq (n := k - a) (by rw [sl_length]; omega) Hr.out (by rw [sl_drop, show a + (k - a) = k by omega, headIs_at hlt]; assumption)]
        omega
    · go_wp2
      go_ret
      refine ⟨ret_int ?_, rfl⟩
      rw [runN_eq (n := k - a) (by rw [sl_length]; omega) Hr.out (by rw [sl_drop, show a + (k - a) = k by omega, headIs_end (by omega)])]
      omega

end Go.Proofs.YtgjeomcflapmpaaDoor
