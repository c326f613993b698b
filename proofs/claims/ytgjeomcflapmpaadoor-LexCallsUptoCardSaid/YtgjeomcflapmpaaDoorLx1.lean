/- lex: letter, digit, half, until, word. -/
import Derived.Test.YtgjeomcflapmpaaDoorLp0
import Derived.Test.YtgjeomcflapmpaaDoorProg
namespace Go.Proofs.YtgjeomcflapmpaaDoor
open Go.RowKit
set_option linter.unusedSimpArgs false
set_option linter.unusedVariables false
theorem lLetter (c : UInt8) (w : World) : Calls Tryd.prog 38 #[.int .u8 c.toNat] w fun e w' => e = .returned (.bool (letC c)) ∧ w = w' := by
  rw [letC_iff]
  go_enter Tryd.func38, Tryd.ntmps38; (try simp only [List.append_eq, List.cons_append, List.nil_append])
  go_wp2
  all_goals go_ret
  all_goals exact ⟨ret_bool (by (first | rfl | (rw [Bool.eq_iff_iff]; simp only [Bool.and_eq_true, Bool.or_eq_true, decide_eq_true_eq, beq_iff_eq, bne_iff_ne, ne_eq, Bool.not_eq_true', decide_eq_false_iff_not, Bool.false_eq_true, iff_false, false_iff, iff_true, true_iff]; omega))), rfl⟩
theorem lDigit (c : UInt8) (w : World) : Calls Tryd.prog 39 #[.int .u8 c.toNat] w fun e w' => e = .returned (.bool (dgC c)) ∧ w = w' := by
  rw [dgC_iff]
  go_enter Tryd.func39, Tryd.ntmps39; (try simp only [List.append_eq, List.cons_append, List.nil_append])
  go_wp2
  all_goals go_ret
  all_goals exact ⟨ret_bool (by (first | rfl | (rw [Bool.eq_iff_iff]; simp only [Bool.and_eq_true, Bool.or_eq_true, decide_eq_true_eq, beq_iff_eq, bne_iff_ne, ne_eq, Bool.not_eq_true', decide_eq_false_iff_not, Bool.false_eq_true, iff_false, false_iff, iff_true, true_iff]; omega))), rfl⟩
theorem lWord1 (c : UInt8) (w : World) : Calls Tryd.prog 48 #[.int .u8 c.toNat] w fun e w' => e = .returned (.bool (wordC c)) ∧ w = w' := by
  unfold wordC
  have hl := fun wx => lLetter c wx
  generalize letC c = b at hl ⊢
  have Hl := Lib.hid hl; clear hl
  cases b
  all_goals
    go_enter Tryd.func48, Tryd.ntmps48; (try simp only [List.append_eq, List.cons_append, List.nil_append])
    go_wp2_with (first
      | (go_at_call 38; refine (Hl.out _).mono ?_; rintro e w' ⟨rfl, rfl⟩)
      | (go_at_call 39; refine (lDigit _ _).mono ?_; rintro e w' ⟨rfl, rfl⟩))
    go_ret
    exact ⟨rfl, rfl⟩
theorem lNote1 (c : UInt8) (w : World) : Calls Tryd.prog 24 #[.int .u8 c.toNat] w fun e w' => e = .returned (.bool (notNl c)) ∧ w = w' := by
  go_enter Tryd.func24, Tryd.ntmps24; (try simp only [List.append_eq, List.cons_append, List.nil_append])
  go_wp2
  all_goals go_ret
  all_goals refine ⟨ret_bool ?_, rfl⟩
  all_goals
    rw [Bool.eq_iff_iff]
    simp only [notNl, bne_iff_ne, ne_eq]
    have := u8_eq_iff c 10 (by omega)
    rw [show UInt8.ofNat 10 = 10 from rfl] at this
    rw [this]; simp

theorem untilWord (s : ByteArray) (a : Nat) (w : World) (hs : s.size ≤ maxLen) (ha : a ≤ s.size) :
    Calls Tryd.prog 23 #[.string s, .int .i64 a, .func (.func 48) #[] #[]] w fun e w' => e = .returned (.int .i64 (runN wordC (sl s a))) ∧ w = w' := by
  unfold maxLen at hs
  go_enter Tryd.func23, Tryd.ntmps23; (try simp only [List.append_eq, List.cons_append, List.nil_append])
  go_wp2
  go_loop [7] (fun i => ∃ k : Nat, a ≤ k ∧ k ≤ s.size ∧ i = .int .i64 k ∧ ((sl s a).take (k - a)).all wordC = true) (fun i => s.size - (intOf i).toNat)
  case atStart => exact ⟨a, Nat.le_refl _, ha, rfl, by simp⟩
  case round =>
    obtain ⟨k, hak, hk, rfl, hr⟩ := hrel
    have Hr := Lib.hid hr; clear hr
    by_cases hlt : k < s.size
    · go_wp2_with (go_at_call 48; refine (lWord1 _ _).mono ?_; rintro e w' ⟨rfl, rfl⟩)
      · go_round
        case rel =>
          refine ⟨k + 1, by omega, by omega, by go_num, ?_⟩
          rw [sl_snoc hak hlt, List.all_append, Hr.out]
          simp; assumption
        case measure => simp [intOf]; omega
      · go_ret
        refine ⟨ret_int ?_, rfl⟩
        rw [runN_eq (n := k - a) (by rw [sl_length]; omega) Hr.out (by rw [sl_drop, show a + (k - a) = k by omega, headIs_at hlt]; assumption)]
        omega
    · go_wp2
      go_ret
      refine ⟨ret_int ?_, rfl⟩
      rw [runN_eq (n := k - a) (by rw [sl_length]; omega) Hr.out (by rw [sl_drop, show a + (k - a) = k by omega, headIs_end (by omega)])]
      omega

theorem untilDigit (s : ByteArray) (a : Nat) (w : World) (hs : s.size ≤ maxLen) (ha : a ≤ s.size) :
    Calls Tryd.prog 23 #[.string s, .int .i64 a, .func (.func 39) #[] #[]] w fun e w' => e = .returned (.int .i64 (runN dgC (sl s a))) ∧ w = w' := by
  unfold maxLen at hs
  go_enter Tryd.func23, Tryd.ntmps23; (try simp only [List.append_eq, List.cons_append, List.nil_append])
  go_wp2
  go_loop [7] (fun i => ∃ k : Nat, a ≤ k ∧ k ≤ s.size ∧ i = .int .i64 k ∧ ((sl s a).take (k - a)).all dgC = true) (fun i => s.size - (intOf i).toNat)
  case atStart => exact ⟨a, Nat.le_refl _, ha, rfl, by simp⟩
  case round =>
    obtain ⟨k, hak, hk, rfl, hr⟩ := hrel
    have Hr := Lib.hid hr; clear hr
    by_cases hlt : k < s.size
    · go_wp2_with (go_at_call 39; refine (lDigit _ _).mono ?_; rintro e w' ⟨rfl, rfl⟩)
      · go_round
        case rel =>
          refine ⟨k + 1, by omega, by omega, by go_num, ?_⟩
          rw [sl_snoc hak hlt, List.all_append, Hr.out]
          simp; assumption
        case measure => simp [intOf]; omega
      · go_ret
        refine ⟨ret_int ?_, rfl⟩
        rw [runN_eq (n := k - a) (by rw [sl_length]; omega) Hr.out (by rw [sl_drop, show a + (k - a) = k by omega, headIs_at hlt]; assumption)]
        omega
    · go_wp2
      go_ret
      refine ⟨ret_int ?_, rfl⟩
      rw [runN_eq (n := k - a) (by rw [sl_length]; omega) Hr.out (by rw [sl_drop, show a + (k - a) = k by omega, headIs_end (by omega)])]
      omega

theorem untilNote (s : ByteArray) (a : Nat) (w : World) (hs : s.size ≤ maxLen) (ha : a ≤ s.size) :
    Calls Tryd.prog 23 #[.string s, .int .i64 a, .func (.func 24) #[] #[]] w fun e w' => e = .returned (.int .i64 (runN notNl (sl s a))) ∧ w = w' := by
  unfold maxLen at hs
  go_enter Tryd.func23, Tryd.ntmps23; (try simp only [List.append_eq, List.cons_append, List.nil_append])
  go_wp2
  go_loop [7] (fun i => ∃ k : Nat, a ≤ k ∧ k ≤ s.size ∧ i = .int .i64 k ∧ ((sl s a).take (k - a)).all notNl = true) (fun i => s.size - (intOf i).toNat)
  case atStart => exact ⟨a, Nat.le_refl _, ha, rfl, by simp⟩
  case round =>
    obtain ⟨k, hak, hk, rfl, hr⟩ := hrel
    have Hr := Lib.hid hr; clear hr
    by_cases hlt : k < s.size
    · go_wp2_with (go_at_call 24; refine (lNote1 _ _).mono ?_; rintro e w' ⟨rfl, rfl⟩)
      · go_round
        case rel =>
          refine ⟨k + 1, by omega, by omega, by go_num, ?_⟩
          rw [sl_snoc hak hlt, List.all_append, Hr.out]
          simp; assumption
        case measure => simp [intOf]; omega
      · go_ret
        refine ⟨ret_int ?_, rfl⟩
        rw [runN_eq (n := k - a) (by rw [sl_length]; omega) Hr.out (by rw [sl_drop, show a + (k - a) = k by omega, headIs_at hlt]; assumption)]
        omega
    · go_wp2
      go_ret
      refine ⟨ret_int ?_, rfl⟩
      rw [runN_eq (n := k - a) (by rw [sl_length]; omega) Hr.out (by rw [sl_drop, show a + (k - a) = k by omega, headIs_end (by omega)])]
      omega

end Go.Proofs.YtgjeomcflapmpaaDoor
