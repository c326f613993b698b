/- The reference's lexer: letter, digit, blank, half, Word. -/
import Derived.Test.YtpmbamfpmmdhcaaGreatK12
import Derived.Deep.CutRange
import Derived.Deep.CutBlock
set_option maxRecDepth 100000
set_option maxHeartbeats 16000000
namespace Go.Proofs.YtpmbamfpmmdhcaaGreat
open Go.RowKit
set_option linter.unusedSimpArgs false
set_option linter.unusedVariables false
theorem rLetter (c : UInt8) (w : World) : Calls Tryz.prog 67 #[.int .u8 c.toNat] w fun e w' => e = .returned (.bool (letC c)) ∧ w = w' := by
  rw [letC_iff]
  go_enter Tryz.func67, Tryz.ntmps67; (try simp only [List.append_eq, List.cons_append, List.nil_append])
  go_wp2
  all_goals go_ret
  all_goals exact ⟨ret_bool (by (first | rfl | (rw [Bool.eq_iff_iff]; simp only [Bool.and_eq_true, Bool.or_eq_true, decide_eq_true_eq, beq_iff_eq, bne_iff_ne, ne_eq, Bool.not_eq_true', decide_eq_false_iff_not, Bool.false_eq_true, iff_false, false_iff, iff_true, true_iff]; omega))), rfl⟩
theorem rDigit (c : UInt8) (w : World) : Calls Tryz.prog 68 #[.int .u8 c.toNat] w fun e w' => e = .returned (.bool (dgC c)) ∧ w = w' := by
  rw [dgC_iff]
  go_enter Tryz.func68, Tryz.ntmps68; (try simp only [List.append_eq, List.cons_append, List.nil_append])
  go_wp2
  all_goals go_ret
  all_goals exact ⟨ret_bool (by (first | rfl | (rw [Bool.eq_iff_iff]; simp only [Bool.and_eq_true, Bool.or_eq_true, decide_eq_true_eq, beq_iff_eq, bne_iff_ne, ne_eq, Bool.not_eq_true', decide_eq_false_iff_not, Bool.false_eq_true, iff_false, false_iff, iff_true, true_iff]; omega))), rfl⟩
theorem blankC_iff (c : UInt8) : blankC c = decide ((c.toNat : Int) = 32 ∨ (c.toNat : Int) = 9 ∨ (c.toNat : Int) = 10 ∨ (c.toNat : Int) = 13) := by
  rw [Bool.eq_iff_iff]
  have h := fun n hn => u8_eq_iff c n hn
  have h32 : (c == 32) = true ↔ (c.toNat : Int) = 32 := by rw [beq_iff_eq]; exact h 32 (by omega)
  have h9 : (c == 9) = true ↔ (c.toNat : Int) = 9 := by rw [beq_iff_eq]; exact h 9 (by omega)
  have h10 : (c == 10) = true ↔ (c.toNat : Int) = 10 := by rw [beq_iff_eq]; exact h 10 (by omega)
  have h13 : (c == 13) = true ↔ (c.toNat : Int) = 13 := by rw [beq_iff_eq]; exact h 13 (by omega)
  simp only [blankC, Bool.or_eq_true, h32, h9, h10, h13, decide_eq_true_eq]
  omega
theorem rBlank (c : UInt8) (w : World) : Calls Tryz.prog 31 #[.int .u8 c.toNat] w fun e w' => e = .returned (.bool (blankC c)) ∧ w = w' := by
  rw [blankC_iff]
  go_enter Tryz.func31, Tryz.ntmps31; (try simp only [List.append_eq, List.cons_append, List.nil_append])
  go_wp2
  all_goals go_ret
  all_goals exact ⟨ret_bool (by (first | rfl | (rw [Bool.eq_iff_iff]; simp only [Bool.and_eq_true, Bool.or_eq_true, decide_eq_true_eq, beq_iff_eq, bne_iff_ne, ne_eq, Bool.not_eq_true', decide_eq_false_iff_not, Bool.false_eq_true, iff_false, false_iff, iff_true, true_iff]; omega))), rfl⟩
set_option maxRecDepth 100000
def halfI (c : UInt8) : Int := if hexC c then (hexV c : Int) else -1
theorem rHalf (c : UInt8) (w : World) : Calls Tryz.prog 96 #[.int .u8 c.toNat] w fun e w' => e = .returned (.int .i64 (halfI c)) ∧ w = w' := by
  have hl := fun wx => rDigit c wx
  have hc : (c.toNat : Int) < 256 := by have := c.toNat_lt; omega
  have hc0 : (0 : Int) ≤ (c.toNat : Int) := by omega
  by_cases hd : dgC c = true
  · have h1 : 48 ≤ (c.toNat : Int) ∧ (c.toNat : Int) ≤ 57 := by rw [dgC_iff] at hd; simpa using hd
    have hv : halfI c = (c.toNat : Int) - 48 := by
      have hx : hexC c = true := by unfold hexC; rw [hd]; rfl
      unfold halfI hexV; rw [hx, hd]; simp only [if_true]; omega
    rw [hd] at hl; have Hl := Lib.hid hl; clear hl; obtain ⟨h1, h2⟩ := h1; have Hv := Lib.hid hv; clear hv hd
    go_enter Tryz.func96, Tryz.ntmps96; (try simp only [List.append_eq, List.cons_append, List.nil_append])
    go_wp2_with (go_at_call 68; refine (Hl.out _).mono ?_; rintro e w' ⟨rfl, rfl⟩)
    go_ret; exact ⟨ret_int (by rw [Hv.out]), rfl⟩
  · have hd' : dgC c = false := by simpa using hd
    clear hd; rw [hd'] at hl; have Hl := Lib.hid hl; clear hl
    by_cases hx : 97 ≤ (c.toNat : Int) ∧ (c.toNat : Int) ≤ 102
    · have hv : halfI c = (c.toNat : Int) - 97 + 10 := by
        have hh : hexC c = true := by unfold hexC; rw [hd']; simp [UInt8.le_iff_toNat_le]; omega
        unfold halfI hexV; rw [hh, hd']; simp only [if_true, Bool.false_eq_true, if_false]; omega
      obtain ⟨h1, h2⟩ := hx; have Hv := Lib.hid hv; clear hv hd'
      go_enter Tryz.func96, Tryz.ntmps96; (try simp only [List.append_eq, List.cons_append, List.nil_append])
      go_wp2_with (go_at_call 68; refine (Hl.out _).mono ?_; rintro e w' ⟨rfl, rfl⟩)
      go_ret; exact ⟨ret_int (by rw [Hv.out]), rfl⟩
    · have hv : halfI c = -1 := by
        have hh : hexC c = false := by unfold hexC; rw [hd']; simp [UInt8.le_iff_toNat_le]; omega
        unfold halfI; rw [hh]; rfl
      have Hv := Lib.hid hv; clear hv hd'
      go_enter Tryz.func96, Tryz.ntmps96; (try simp only [List.append_eq, List.cons_append, List.nil_append])
      go_wp2_with (go_at_call 68; refine (Hl.out _).mono ?_; rintro e w' ⟨rfl, rfl⟩)
      all_goals go_ret
      all_goals first
        | exact ⟨ret_int (by rw [Hv.out]), rfl⟩
        | (exfalso; omega)
def wordS (l : List UInt8) : Bool := headIs letC l && runN wordC l == l.length && decide (l.length ≤ 24)
theorem word_take (l : List UInt8) (h : headIs letC l = true) (h2 : l.all wordC = true) : wordS l = decide (l.length ≤ 24) := by
  unfold wordS
  rw [h]
  have : runN wordC l = l.length := by
    have := runN_eq (p := wordC) (l := l) (n := l.length) (Nat.le_refl _) (by simpa using h2) (by simp [headIs]); exact this
  rw [this]; simp
theorem word_not (l : List UInt8) (k : Nat) (hk : k < l.length) (h : wordC l[k] = false ∨ (k = 0 ∧ letC l[k] = false)) : wordS l = false := by
  unfold wordS
  cases hh : headIs letC l with
  | false => rfl
  | true =>
    have hne : runN wordC l ≠ l.length := by
      intro e; have := runN_all wordC l; rw [e, List.take_of_length_le (Nat.le_refl _), List.all_eq_true] at this; have h1 := this _ (List.getElem_mem hk); rcases h with h | ⟨rfl, h⟩
      · rw [h] at h1; cases h1
      · match l, hk, hh, h with
        | c :: r, _, hh, h => simp [headIs] at hh h; rw [hh] at h; cases h
    simp [hne]
theorem rWord5 (s : ByteArray) (w : World) (hs : s.size ≤ maxLen) : Calls Tryz.prog 69 #[.string s] w fun e w' => e = .returned (.bool (wordS (sl s 0))) ∧ w = w' := by
  unfold maxLen at hs
  have hl0 : (sl s 0).length = s.size := by rw [sl_length]; omega
  go_enter Tryz.func69, Tryz.ntmps69; (try simp only [List.append_eq, List.cons_append, List.nil_append])
  go_wp2
  go_loop [3] (fun i => ∃ k : Nat, k ≤ s.size ∧ i = .int .i64 k ∧ ((sl s 0).take k).all wordC = true ∧ (0 < k → headIs letC (sl s 0) = true)) (fun i => s.size - (intOf i).toNat)
  case atStart => exact ⟨0, Nat.zero_le _, rfl, by simp, by omega⟩
  case round =>
    obtain ⟨k, hk, rfl, ha, hh⟩ := hrel
    by_cases hlt : k < s.size
    · have hkl : k < (sl s 0).length := by omega
      have hat : (sl s 0)[k] = s[k] := by simp [sl]; rfl
      have hN := word_not (sl s 0) k hkl; rw [hat] at hN; have HN := Lib.hid hN; clear hN; have Hst : Hid (wordC s[k] = true → ((sl s 0).take (k + 1)).all wordC = true) := fun h => by
        rw [List.take_succ_eq_append_getElem hkl, List.all_append, ha]; simp [hat, h]
      have Hhd : Hid (k = 0 → headIs letC (sl s 0) = letC s[k]) := fun h => by subst h; exact headIs_at (by omega)
      have HH := Lib.hid hh; have hL := fun wx => rLetter s[k] wx
      have hD := fun wx => rDigit s[k] wx
      have hwc : wordC s[k] = (letC s[k] || dgC s[k]) := rfl; clear ha hh hat; generalize letC s[k] = a at *; generalize dgC s[k] = b at *; generalize wordC s[k] = cc at *; have HL := Lib.hid hL; clear hL; have HD := Lib.hid hD; clear hD; subst hwc; cases a with
      | true =>
        clear HD
        go_wp2_with (go_at_call 67; refine (HL.out _).mono ?_; rintro e w' ⟨rfl, rfl⟩)
        go_round
        case rel => exact ⟨k + 1, by omega, by go_num, Hst.out rfl, fun _ => by
          rcases Nat.eq_zero_or_pos k with h | h
          · exact Hhd.out h
          · exact HH.out h⟩
        case measure => simp [intOf]; omega
      | false =>
        by_cases h0 : k = 0
        · subst h0
          have HN0 := Lib.hid (HN.out (.inr ⟨rfl, rfl⟩))
          go_wp2_with (go_at_call 67; refine (HL.out _).mono ?_; rintro e w' ⟨rfl, rfl⟩)
          go_ret; exact ⟨ret_bool HN0.out.symm, rfl⟩
        · have h0b : ((k : Int) == 0) = false := beq_eq_false_iff_ne.2 (by omega)
          have hk0 : 0 < k := by omega
          cases b with
          | true =>
            go_wp2_with (first
              | (go_at_call 67; refine (HL.out _).mono ?_; rintro e w' ⟨rfl, rfl⟩)
              | (go_at_call 68; refine (HD.out _).mono ?_; rintro e w' ⟨rfl, rfl⟩))
            go_round
            case rel => exact ⟨k + 1, by omega, by go_num, Hst.out rfl, fun _ => HH.out hk0⟩
            case measure => simp [intOf]; omega
          | false =>
            have HN0 := Lib.hid (HN.out (.inl rfl))
            go_wp2_with (first
              | (go_at_call 67; refine (HL.out _).mono ?_; rintro e w' ⟨rfl, rfl⟩)
              | (go_at_call 68; refine (HD.out _).mono ?_; rintro e w' ⟨rfl, rfl⟩))
            go_ret; exact ⟨ret_bool HN0.out.symm, rfl⟩
    · have hk' : k = s.size := by omega
      subst hk'; rw [List.take_of_length_le (by omega)] at ha; have HW : Hid (wordS (sl s 0) = (decide (1 ≤ s.size) && decide (s.size ≤ 24))) := by
        show _ = _
        by_cases h1 : 0 < s.size
        · rw [word_take _ (hh h1) ha, hl0]; simp [show 1 ≤ s.size by omega]
        · have : sl s 0 = [] := sl_end (by omega)
          rw [this]; unfold wordS; simp [headIs]; omega
      clear ha hh; go_wp2
      all_goals go_ret
      all_goals exact ⟨ret_bool (by rw [HW.out]; (first | rfl | (rw [Bool.eq_iff_iff]; simp only [Bool.and_eq_true, Bool.or_eq_true, decide_eq_true_eq, beq_iff_eq, bne_iff_ne, ne_eq, Bool.not_eq_true', decide_eq_false_iff_not, Bool.false_eq_true, iff_false, false_iff, iff_true, true_iff]; omega))), rfl⟩
end Go.Proofs.YtpmbamfpmmdhcaaGreat
