/- The reference's Digits. -/
import Derived.Test.YtpmbamfpmmdhcaaGreatK60
import Derived.Test.YtpmbamfpmmdhcaaGreatK12
import Derived.Deep.CutRange
import Derived.Deep.CutBlock
import Derived.Test.YtpmbamfpmmdhcaaGreatK1
import Derived.IntWalk
import Derived.Test.YtpmbamfpmmdhcaaGreatK0
import Derived.Lib.ItoaNum
import Derived.Lib.ItoaLen
set_option maxRecDepth 100000
set_option maxHeartbeats 16000000
set_option linter.unusedSimpArgs false
set_option linter.unusedVariables false
namespace Go.Proofs.YtpmbamfpmmdhcaaGreat
open Go.RowKit
set_option linter.unusedSimpArgs false
set_option linter.unusedVariables false
theorem rLetter (c : UInt8) (w : World) : Calls Tryz.prog 67 #[.int .u8 c.toNat] w fun e w' => e = .returned (.bool (letC c)) ∧ w = w' := by
  rw [letC_iff]
  go_enter Tryz.func67, Tryz.ntmps67; (try simp only [List.append_eq, List.cons_append, List.nil_append])
  go_wp2
  all_goals go_ret
  all_goals exact ⟨ret_bool (by (first | rfl | (rw [Bool.eq_iff_iff]; simp only [Bool.and_eq_true, Bool.or_eq_true, decide_eq_true_eq, beq_iff_eq, bne_iff_ne, ne_eq, Bool.not_eq_true', decide_eq_false_iff_not, Bool.false_eq_true, iff_false, false_iff, iff_true, true_iff]; omega))), rfl⟩
theorem rDigit (c : UInt8) (w : World) : Calls Tryz.prog 68 #[.int .u8 c.toNat] w fun e w' => e = .returned (.bool (dgC c)) ∧ w = w' := by
  rw [dgC_iff]
  go_enter Tryz.func68, Tryz.ntmps68; (try simp only [List.append_eq, List.cons_append, List.nil_append])
  go_wp2
  all_goals go_ret
  all_goals exact ⟨ret_bool (by (first | rfl | (rw [Bool.eq_iff_iff]; simp only [Bool.and_eq_true, Bool.or_eq_true, decide_eq_true_eq, beq_iff_eq, bne_iff_ne, ne_eq, Bool.not_eq_true', decide_eq_false_iff_not, Bool.false_eq_true, iff_false, false_iff, iff_true, true_iff]; omega))), rfl⟩
theorem blankC_iff (c : UInt8) : blankC c = decide ((c.toNat : Int) = 32 ∨ (c.toNat : Int) = 9 ∨ (c.toNat : Int) = 10 ∨ (c.toNat : Int) = 13) := by
  rw [Bool.eq_iff_iff]
  have h := fun n hn => u8_eq_iff c n hn
  have h32 : (c == 32) = true ↔ (c.toNat : Int) = 32 := by rw [beq_iff_eq]; exact h 32 (by omega)
  have h9 : (c == 9) = true ↔ (c.toNat : Int) = 9 := by rw [beq_iff_eq]; exact h 9 (by omega)
  have h10 : (c == 10) = true ↔ (c.toNat : Int) = 10 := by rw [beq_iff_eq]; exact h 10 (by omega)
  have h13 : (c == 13) = true ↔ (c.toNat : Int) = 13 := by rw [beq_iff_eq]; exact h 13 (by omega)
  simp only [blankC, Bool.or_eq_true, h32, h9, h10, h13, decide_eq_true_eq]
  omega
theorem rBlank (c : UInt8) (w : World) : Calls Tryz.prog 31 #[.int .u8 c.toNat] w fun e w' => e = .returned (.bool (blankC c)) ∧ w = w' := by
  rw [blankC_iff]
  go_enter Tryz.func31, Tryz.ntmps31; (try simp only [List.append_eq, List.cons_append, List.nil_append])
  go_wp2
  all_goals go_ret
  all_goals exact ⟨ret_bool (by (first | rfl | (rw [Bool.eq_iff_iff]; simp only [Bool.and_eq_true, Bool.or_eq_true, decide_eq_true_eq, beq_iff_eq, bne_iff_ne, ne_eq, Bool.not_eq_true', decide_eq_false_iff_not, Bool.false_eq_true, iff_false, false_iff, iff_true, true_iff]; omega))), rfl⟩
set_option maxRecDepth 100000
def halfI (c : UInt8) : Int := if hexC c then (hexV c : Int) else -1
theorem rHalf (c : UInt8) (w : World) : Calls Tryz.prog 96 #[.int .u8 c.toNat] w fun e w' => e = .returned (.int .i64 (halfI c)) ∧ w = w' := by
  have hl := fun wx => rDigit c wx
  have hc : (c.toNat : Int) < 256 := by have := c.toNat_lt; omega
  have hc0 : (0 : Int) ≤ (c.toNat : Int) := by omega
  by_cases hd : dgC c = true
  · have h1 : 48 ≤ (c.toNat : Int) ∧ (c.toNat : Int) ≤ 57 := by rw [dgC_iff] at hd; simpa using hd
    have hv : halfI c = (c.toNat : Int) - 48 := by
      have hx : hexC c = true := by unfold hexC; rw [hd]; rfl
      unfold halfI hexV; rw [hx, hd]; simp only [if_true]; omega
    rw [hd] at hl
    have Hl := Lib.hid hl; clear hl
    obtain ⟨h1, h2⟩ := h1
    have Hv := Lib.hid hv; clear hv hd
    go_enter Tryz.func96, Tryz.ntmps96; (try simp only [List.append_eq, List.cons_append, List.nil_append])
    go_wp2_with (go_at_call 68; refine (Hl.out _).mono ?_; rintro e w' ⟨rfl, rfl⟩)
    go_ret
    exact ⟨ret_int (by rw [Hv.out]), rfl⟩
  · have hd' : dgC c = false := by simpa using hd
    clear hd
    rw [hd'] at hl
    have Hl := Lib.hid hl; clear hl
    by_cases hx : 97 ≤ (c.toNat : Int) ∧ (c.toNat : Int) ≤ 102
    · have hv : halfI c = (c.toNat : Int) - 97 + 10 := by
        have hh : hexC c = true := by unfold hexC; rw [hd']; simp [UInt8.le_iff_toNat_le]; omega
        unfold halfI hexV; rw [hh, hd']; simp only [if_true, Bool.false_eq_true, if_false]; omega
      obtain ⟨h1, h2⟩ := hx
      have Hv := Lib.hid hv; clear hv hd'
      go_enter Tryz.func96, Tryz.ntmps96; (try simp only [List.append_eq, List.cons_append, List.nil_append])
      go_wp2_with (go_at_call 68; refine (Hl.out _).mono ?_; rintro e w' ⟨rfl, rfl⟩)
      go_ret
      exact ⟨ret_int (by rw [Hv.out]), rfl⟩
    · have hv : halfI c = -1 := by
        have hh : hexC c = false := by unfold hexC; rw [hd']; simp [UInt8.le_iff_toNat_le]; omega
        unfold halfI; rw [hh]; rfl
      have Hv := Lib.hid hv; clear hv hd'
      go_enter Tryz.func96, Tryz.ntmps96; (try simp only [List.append_eq, List.cons_append, List.nil_append])
      go_wp2_with (go_at_call 68; refine (Hl.out _).mono ?_; rintro e w' ⟨rfl, rfl⟩)
      all_goals go_ret
      all_goals first
        | exact ⟨ret_int (by rw [Hv.out]), rfl⟩
        | (exfalso; omega)
def wordS (l : List UInt8) : Bool := headIs letC l && runN wordC l == l.length && decide (l.length ≤ 24)
theorem word_take (l : List UInt8) (h : headIs letC l = true) (h2 : l.all wordC = true) : wordS l = decide (l.length ≤ 24) := by
  unfold wordS
  rw [h]
  have : runN wordC l = l.length := by
    have := runN_eq (p := wordC) (l := l) (n := l.length) (Nat.le_refl _) (by simpa using h2) (by simp [headIs])
    exact this
  rw [this]; simp
theorem word_not (l : List UInt8) (k : Nat) (hk : k < l.length) (h : wordC l[k] = false ∨ (k = 0 ∧ letC l[k] = false)) : wordS l = false := by
  unfold wordS
  cases hh : headIs letC l with
  | false => rfl
  | true =>
    have hne : runN wordC l ≠ l.length := by
      intro e
      have := runN_all wordC l
      rw [e, List.take_of_length_le (Nat.le_refl _), List.all_eq_true] at this
      have h1 := this _ (List.getElem_mem hk)
      rcases h with h | ⟨rfl, h⟩
      · rw [h] at h1; cases h1
      · match l, hk, hh, h with
        | c :: r, _, hh, h => simp [headIs] at hh h; rw [hh] at h; cases h
    simp [hne]
theorem rWord5 (s : ByteArray) (w : World) (hs : s.size ≤ maxLen) : Calls Tryz.prog 69 #[.string s] w fun e w' => e = .returned (.bool (wordS (sl s 0))) ∧ w = w' := by
  unfold maxLen at hs
  have hl0 : (sl s 0).length = s.size := by rw [sl_length]; omega
  go_enter Tryz.func69, Tryz.ntmps69; (try simp only [List.append_eq, List.cons_append, List.nil_append])
  go_wp2
  go_loop [3] (fun i => ∃ k : Nat, k ≤ s.size ∧ i = .int .i64 k ∧ ((sl s 0).take k).all wordC = true ∧ (0 < k → headIs letC (sl s 0) = true)) (fun i => s.size - (intOf i).toNat)
  case atStart => exact ⟨0, Nat.zero_le _, rfl, by simp, by omega⟩
  case round =>
    obtain ⟨k, hk, rfl, ha, hh⟩ := hrel
    by_cases hlt : k < s.size
    · have hkl : k < (sl s 0).length := by omega
      have hat : (sl s 0)[k] = s[k] := by simp [sl]; rfl
      have hN := word_not (sl s 0) k hkl
      rw [hat] at hN
      have HN := Lib.hid hN; clear hN
      have Hst : Hid (wordC s[k] = true → ((sl s 0).take (k + 1)).all wordC = true) := fun h => by
        rw [List.take_succ_eq_append_getElem hkl, List.all_append, ha]; simp [hat, h]
      have Hhd : Hid (k = 0 → headIs letC (sl s 0) = letC s[k]) := fun h => by subst h; exact headIs_at (by omega)
      have HH := Lib.hid hh
      have hL := fun wx => rLetter s[k] wx
      have hD := fun wx => rDigit s[k] wx
      have hwc : wordC s[k] = (letC s[k] || dgC s[k]) := rfl
      clear ha hh hat
      generalize letC s[k] = a at *
      generalize dgC s[k] = b at *
      generalize wordC s[k] = cc at *
      have HL := Lib.hid hL; clear hL
      have HD := Lib.hid hD; clear hD
      subst hwc
      cases a with
      | true =>
        clear HD
        go_wp2_with (go_at_call 67; refine (HL.out _).mono ?_; rintro e w' ⟨rfl, rfl⟩)
        go_round
        case rel => exact ⟨k + 1, by omega, by go_num, Hst.out rfl, fun _ => by
          rcases Nat.eq_zero_or_pos k with h | h
          · exact Hhd.out h
          · exact HH.out h⟩
        case measure => simp [intOf]; omega
      | false =>
        by_cases h0 : k = 0
        · subst h0
          have HN0 := Lib.hid (HN.out (.inr ⟨rfl, rfl⟩))
          go_wp2_with (go_at_call 67; refine (HL.out _).mono ?_; rintro e w' ⟨rfl, rfl⟩)
          go_ret
          exact ⟨ret_bool HN0.out.symm, rfl⟩
        · have h0b : ((k : Int) == 0) = false := beq_eq_false_iff_ne.2 (by omega)
          have hk0 : 0 < k := by omega
          cases b with
          | true =>
            go_wp2_with (first
              | (go_at_call 67; refine (HL.out _).mono ?_; rintro e w' ⟨rfl, rfl⟩)
              | (go_at_call 68; refine (HD.out _).mono ?_; rintro e w' ⟨rfl, rfl⟩))
            go_round
            case rel => exact ⟨k + 1, by omega, by go_num, Hst.out rfl, fun _ => HH.out hk0⟩
            case measure => simp [intOf]; omega
          | false =>
            have HN0 := Lib.hid (HN.out (.inl rfl))
            go_wp2_with (first
              | (go_at_call 67; refine (HL.out _).mono ?_; rintro e w' ⟨rfl, rfl⟩)
              | (go_at_call 68; refine (HD.out _).mono ?_; rintro e w' ⟨rfl, rfl⟩))
            go_ret
            exact ⟨ret_bool HN0.out.symm, rfl⟩
    · have hk' : k = s.size := by omega
      subst hk'
      rw [List.take_of_length_le (by omega)] at ha
      have HW : Hid (wordS (sl s 0) = (decide (1 ≤ s.size) && decide (s.size ≤ 24))) := by
        show _ = _
        by_cases h1 : 0 < s.size
        · rw [word_take _ (hh h1) ha, hl0]; simp [show 1 ≤ s.size by omega]
        · have : sl s 0 = [] := sl_end (by omega)
          rw [this]; unfold wordS; simp [headIs]; omega
      clear ha hh
      go_wp2
      all_goals go_ret
      all_goals exact ⟨ret_bool (by rw [HW.out]; (first | rfl | (rw [Bool.eq_iff_iff]; simp only [Bool.and_eq_true, Bool.or_eq_true, decide_eq_true_eq, beq_iff_eq, bne_iff_ne, ne_eq, Bool.not_eq_true', decide_eq_false_iff_not, Bool.false_eq_true, iff_false, false_iff, iff_true, true_iff]; omega))), rfl⟩
def txt5 (s : ByteArray) (a : Nat) : Value := match textAt (sl s (a + 1)) with
  | some (x, n) => .tuple #[.string ⟨x.toArray⟩, .int .i64 ((a + 1 + n : Nat) : Int), .bool (decide ((x.length : Int) ≤ 64))]
  | none => .tuple #[.string ⟨#[]⟩, .int .i64 0, .bool false]
theorem txt5_quote {s : ByteArray} {a k : Nat} {l : List UInt8} (h : TxtI s a k l) (hk : k < s.size) (hak : a + 1 ≤ k) (hc : s[k] = 34) : txt5 s a = .tuple #[.string ⟨l.toArray⟩, .int .i64 ((k : Int) + 1), .bool (decide ((l.length : Int) ≤ 64))] := by
  unfold TxtI at h
  rw [sl_cons hk, hc, textAt_quote] at h
  unfold txt5
  rw [h]
  simp
  omega
theorem txt5_none {s : ByteArray} {a k : Nat} {l : List UInt8} (h : TxtI s a k l) (hn : textAt (sl s k) = none) : txt5 s a = .tuple #[.string ⟨#[]⟩, .int .i64 0, .bool false] := by
  unfold TxtI at h
  unfold txt5
  rw [h, hn]; rfl
theorem halfI_yes {c : UInt8} (h : hexC c = true) : halfI c = (hexV c : Int) := by unfold halfI; rw [h]; rfl
theorem halfI_no {c : UInt8} (h : hexC c = false) : halfI c = -1 := by unfold halfI; rw [h]; rfl
theorem hex16 {A B : Nat} (ha : A ≤ 15) (hb : B ≤ 15) : (16 * (A : Int) + (B : Int)) % 256 = ((UInt8.ofNat (16 * A + B)).toNat : Int) := by
  rw [UInt8.toNat_ofNat']; omega
theorem rText5 (s : ByteArray) (a : Nat) (w : World) (hs : s.size ≤ 16384) (ha : a < s.size) (h34 : s[a] = 34) :
    Calls Tryz.prog 71 #[.string s, .int .i64 a] w fun e w' => e = .returned (txt5 s a) ∧ Below w.heap.size w w' := by
  obtain ⟨i0, hi, hz0, hz1, hz2⟩ := info_parts infoB
  have q0 : ((s[a].toNat : Int) != 34) = false := by rw [h34]; rfl
  have q0' : (s[a].toNat : Int) = 34 := by rw [h34]; rfl
  have ha' : ¬ (s.size : Int) ≤ (a : Int) := by omega
  clear h34
  go_enter Tryz.func71, Tryz.ntmps71; (try simp only [List.append_eq, List.cons_append, List.nil_append])
  go_wp2
  clear q0 q0'
  go_loopw [7, 8] (fun v i wr => ∃ (k : Nat) (l : List UInt8), a + 1 ≤ k ∧ k ≤ s.size ∧ i = .int .i64 k ∧ l.length ≤ k ∧ OwnB w.heap.size wr v l ∧ TxtI s a k l ∧ Below w.heap.size w wr) (fun _ i _ => s.size - (intOf i).toNat)
  case atStart => exact ⟨a + 1, [], by omega, by omega, by go_num, by simp, World.ownsRow_nil _ _ _ _, by unfold TxtI; simp, Below.refl _ _⟩
  case round =>
    obtain ⟨k, l, hak, hk, rfl, hlk, hown, hr, hb⟩ := hrel
    have Hr := Lib.hid hr; clear hr
    have Hb := Lib.hid hb; clear hb
    obtain ⟨A, cap, rfl⟩ := ownB_slice hown
    have Hown := Lib.hid hown; clear hown
    have HL : l.length + 1 ≤ maxLen ∧ (l.length + 1) * 1 ≤ 140737488355328 := by unfold maxLen; omega
    by_cases hlt : k < s.size
    · by_cases c34 : s[k] = 34
      · have q1 : ((s[k].toNat : Int) == 34) = true := by rw [c34]; rfl
        have Hq := Lib.hid (txt5_quote Hr.out hlt hak c34)
        clear c34
        have hcv := ownB_convert Hown.out
        go_wp2
        go_ret3
        exact ⟨by rw [Hq.out]; rfl, Hb.out⟩
      · have q1 : ((s[k].toNat : Int) == 34) = false := u8ne (n := 34) (by omega) c34
        by_cases c92 : s[k] = 92
        · have q2 : ((s[k].toNat : Int) == 92) = true := by rw [c92]; rfl
          by_cases h1 : k + 1 < s.size
          · have e1 : sl s k = 92 :: s[k + 1] :: sl s (k + 2) := by rw [sl_cons hlt, sl_cons h1, c92]
            have hi1 : (k : Int) + 1 < s.size := by omega
            by_cases hd : s[k + 1] = 92 ∨ s[k + 1] = 34
            · have Hst := Lib.hid (txt_step (n := 2) (c := s[k + 1]) Hr.out hak (by rw [e1]; exact textAt_esc _ hd))
              rcases hd with hd | hd
              · have q3 : ((s[k + 1].toNat : Int) == 92) = true := by rw [hd]; rfl
                clear c34 c92 e1 hd
                go_wp2_with (at_builtin; refine wpList_append_own_at _ rfl _ _ 45 rfl w.heap.size 5 i0 _ 1 1 Tryz.underlying45 hi hz0 hz1 hz2 rfl (by decide) _ l.length (bc l) rfl (Hown.out.alloc _) ⟨wr.heap.size, 0, none⟩ 1 1 [.int .u8 (s[k + 1].toNat : Int)] rfl rfl (one_new _ _ _) (one_u8 _) HL.1 HL.2 (Nat.le_trans Hb.out.size (by simp)) ?_; intro v1 w1 hown1 hgr1 _ _)
                refine ⟨⟨k + 2, l ++ [s[k + 1]], by omega, by omega, by go_num, by simp; omega, by unfold OwnB; rw [bc_snoc, List.length_append]; exact hown1, Hst.out, below_app (Hb.out.alloc Hb.out.size _) (Hown.out.alloc _) hgr1 (Nat.le_refl _) (Nat.le_trans Hb.out.size (by simp))⟩, by simp [intOf]; omega⟩
              · have q3 : ((s[k + 1].toNat : Int) == 92) = false := by rw [hd]; rfl
                have q4 : ((s[k + 1].toNat : Int) == 34) = true := by rw [hd]; rfl
                clear c34 c92 e1 hd
                go_wp2_with (at_builtin; refine wpList_append_own_at _ rfl _ _ 45 rfl w.heap.size 5 i0 _ 1 1 Tryz.underlying45 hi hz0 hz1 hz2 rfl (by decide) _ l.length (bc l) rfl (Hown.out.alloc _) ⟨wr.heap.size, 0, none⟩ 1 1 [.int .u8 (s[k + 1].toNat : Int)] rfl rfl (one_new _ _ _) (one_u8 _) HL.1 HL.2 (Nat.le_trans Hb.out.size (by simp)) ?_; intro v1 w1 hown1 hgr1 _ _)
                refine ⟨⟨k + 2, l ++ [s[k + 1]], by omega, by omega, by go_num, by simp; omega, by unfold OwnB; rw [bc_snoc, List.length_append]; exact hown1, Hst.out, below_app (Hb.out.alloc Hb.out.size _) (Hown.out.alloc _) hgr1 (Nat.le_refl _) (Nat.le_trans Hb.out.size (by simp))⟩, by simp [intOf]; omega⟩
            · have q3 : ((s[k + 1].toNat : Int) == 92) = false := u8ne (n := 92) (by omega) (fun e => hd (.inl e))
              have q4 : ((s[k + 1].toNat : Int) == 34) = false := u8ne (n := 34) (by omega) (fun e => hd (.inr e))
              have hhd : headIs (fun d => d == 92 || d == 34) (sl s (k + 1)) = false := by rw [headIs_at h1]; simp; exact ⟨fun e => hd (.inl e), fun e => hd (.inr e)⟩
              by_cases h3 : k + 3 < s.size
              · have e3 : sl s (k + 1) = s[k + 1] :: s[k + 2] :: s[k + 3] :: sl s (k + 4) := by rw [sl_cons h1, sl_cons (by omega : k + 1 + 1 < s.size), sl_cons (by omega : k + 1 + 1 + 1 < s.size)]
                have hi3 : (k : Int) + 3 < (s.size : Int) := by omega
                by_cases hx : s[k + 1] = 120
                · have q5 : ((s[k + 1].toNat : Int) == 120) = true := by rw [hx]; rfl
                  have HA := fun X => rHalf s[k + 2] X
                  have HB := fun X => rHalf s[k + 3] X
                  cases ha2 : hexC s[k + 2] with
                  | false =>
                    have Hq := Lib.hid (txt5_none Hr.out (by
                      rw [sl_cons hlt, c92]
                      refine textAt_no hhd (fun a b r' e => ?_)
                      rw [e3, hx] at e
                      simp only [List.cons.injEq, true_and] at e
                      obtain ⟨rfl, rfl, -⟩ := e
                      exact .inl ha2))
                    rw [halfI_no ha2] at HA
                    have HA2 := Lib.hid HA
                    clear HA HB c34 hd e1 hhd e3 hx ha2 c92
                    go_wp2_with (go_at_call 96; refine (HA2.out _).mono ?_; rintro e w' ⟨rfl, rfl⟩)
                    go_ret3
                    exact ⟨by rw [Hq.out]; rfl, Hb.out⟩
                  | true =>
                    cases hb2 : hexC s[k + 3] with
                    | false =>
                      have Hq := Lib.hid (txt5_none Hr.out (by
                        rw [sl_cons hlt, c92]
                        refine textAt_no hhd (fun a b r' e => ?_)
                        rw [e3, hx] at e
                        simp only [List.cons.injEq, true_and] at e
                        obtain ⟨rfl, rfl, -⟩ := e
                        exact .inr hb2))
                      rw [halfI_yes ha2] at HA
                      rw [halfI_no hb2] at HB
                      have HA2 := Lib.hid HA
                      have HB2 := Lib.hid HB
                      have hn0 : (0 : Int) ≤ (hexV s[k + 2] : Int) := by omega
                      generalize hexV s[k + 2] = A2 at *
                      clear HA HB c34 hd e1 hhd e3 hx ha2 hb2 c92
                      have tk1 : True := trivial
                      go_wp2_with (first
                        | (go_at_call 96; have _t := tk1; clear tk1; refine (HA2.out _).mono ?_; rintro e w' ⟨rfl, rfl⟩; have tk2 : True := trivial)
                        | (go_at_call 96; have _t := tk2; clear tk2; refine (HB2.out _).mono ?_; rintro e w' ⟨rfl, rfl⟩))
                      go_ret3
                      exact ⟨by rw [Hq.out]; rfl, Hb.out⟩
                    | true =>
                      have Hst := Lib.hid (txt_step (n := 4) (c := UInt8.ofNat (16 * hexV s[k + 2] + hexV s[k + 3])) Hr.out hak (by rw [sl_cons hlt, c92, e3, hx]; exact textAt_hex _ ha2 hb2))
                      rw [halfI_yes ha2] at HA
                      rw [halfI_yes hb2] at HB
                      have HA2 := Lib.hid HA
                      have HB2 := Lib.hid HB
                      have hle1 := hexV_le ha2
                      have hle2 := hexV_le hb2
                      generalize hexV s[k + 2] = A2 at *
                      generalize hexV s[k + 3] = B2 at *
                      have h16 := hex16 hle1 hle2
                      obtain ⟨V, hV⟩ : ∃ V : Int, ((UInt8.ofNat (16 * A2 + B2)).toNat : Int) = V := ⟨_, rfl⟩
                      rw [hV] at h16
                      have HV := Lib.hid hV
                      have hn0 : (0 : Int) ≤ (A2 : Int) := by omega
                      have hn1 : (0 : Int) ≤ (B2 : Int) := by omega
                      have hn2 : (A2 : Int) ≤ 15 := by omega
                      have hn3 : (B2 : Int) ≤ 15 := by omega
                      clear HA HB c34 hd e1 hhd e3 hx ha2 hb2 c92 hV
                      have hi2 : (k : Int) + 2 < (s.size : Int) := by omega
                      have tk1 : True := trivial
                      go_upto_region 15 with (first
                        | (go_at_call 96; have _t := tk1; clear tk1; refine (HA2.out _).mono ?_; rintro e w' ⟨rfl, rfl⟩; have tk2 : True := trivial)
                        | (go_at_call 96; have _t := tk2; clear tk2; refine (HB2.out _).mono ?_; rintro e w' ⟨rfl, rfl⟩))
                      refine wp_region_held_drew (S := fun _ => True) (by kernel_rfl) trivial (fun hHeld => ?_)
                      (refine htk 0 111 ?_ rfl ?_ ?_; rotate_left; (intro w hSw; clear hSw; go_simp); (try with_reducible rfl); simp only [lsz, lss])
                      (refine htk 1 112 ?_ rfl ?_ ?_; rotate_left; (intro w hSw; clear hSw; go_simp); (try with_reducible rfl); simp only [lsz, lss])
                      (refine htk 2 113 ?_ rfl ?_ ?_; rotate_left; (intro w hSw; clear hSw; go_simp); (try with_reducible rfl); simp only [lsz, lss])
                      (refine htk 3 114 (.int .i64 ((k : Int) + 2)) rfl ?_ ?_; (intro w hSw; clear hSw; go_simp; try first | exact IntWalk.i64_in _ (by omega) | omega); simp only [lsz, lss])
                      (refine htk 4 115 (.int .u8 (s[k + 2].toNat : Int)) rfl ?_ ?_; (intro w hSw; clear hSw; go_simp; have e2 : ((k : Int) + 2).toNat = k + 2 := (by omega); simp only [e2]); simp only [lsz, lss])
                      (refine htk 7 118 ?_ rfl ?_ ?_; rotate_left; (intro w hSw; clear hSw; go_simp); (try with_reducible rfl); simp only [lsz, lss])
                      (refine htk 8 119 ?_ rfl ?_ ?_; rotate_left; (intro w hSw; clear hSw; go_simp); (try with_reducible rfl); simp only [lsz, lss])
                      (refine htk 9 120 (.int .i64 ((k : Int) + 3)) rfl ?_ ?_; (intro w hSw; clear hSw; go_simp; try first | exact IntWalk.i64_in _ (by omega) | omega); simp only [lsz, lss])
                      (refine htk 10 121 (.int .u8 (s[k + 3].toNat : Int)) rfl ?_ ?_; (intro w hSw; clear hSw; go_simp; have e2 : ((k : Int) + 3).toNat = k + 3 := (by omega); simp only [e2]); simp only [lsz, lss])
                      (refine hrd 5 rfl (fun K hK => ?_))
                      rw [if_pos (by kernel_rfl)]
                      go_simp
                      refine (HA2.out _).mono ?_
                      rintro e' Xb ⟨rfl, rfl⟩
                      dsimp only
                      refine hK.out _ _ trivial (fun hHeld => ?_)
                      clear hK K
                      (try simp only [Act.put, lsa, lsz, lss])
                      (refine htk 6 117 (.int .i64 (16 * (A2 : Int))) rfl ?_ ?_; (intro w hSw; clear hSw; go_simp; try first | exact IntWalk.i64_in _ (by omega) | omega); simp only [lsz, lss])
                      (refine hrd 11 rfl (fun K hK => ?_))
                      rw [if_pos (by kernel_rfl)]
                      go_simp
                      refine (HB2.out _).mono ?_
                      rintro e' Xb ⟨rfl, rfl⟩
                      dsimp only
                      refine hK.out _ _ trivial (fun hHeld => ?_)
                      clear hK K
                      (try simp only [Act.put, lsa, lsz, lss])
                      (refine htk 12 123 (.int .i64 (16 * (A2 : Int) + (B2 : Int))) rfl ?_ ?_; (intro w hSw; clear hSw; go_simp; try first | exact IntWalk.i64_in _ (by omega) | omega); simp only [lsz, lss])
                      (refine htk 13 124 (.int .u8 V) rfl ?_ ?_; (intro w hSw; clear hSw; go_simp; try first | exact h16 | (rw [IntWalk.u8_in _ (by omega)]; omega) | omega); simp only [lsz, lss])
                      (refine hrd 14 rfl (fun K hK => ?_))
                      rw [if_pos (by kernel_rfl)]
                      go_simp
                      refine hK.out _ _ trivial (fun hHeld => ?_)
                      clear hK K
                      (try simp only [Act.put, lsa, lsz, lss])
                      have hbd : Below wr.heap.size wr (wr.drew.alloc (.cells #[.int .u8 V] 5)) := (Below.drew (Below.refl _ _)).alloc (Nat.le_refl _) _
                      (refine hrd 15 rfl (fun K hK => ?_))
                      rw [if_pos (by kernel_rfl)]
                      refine wp_append_src _ _ _ _ rfl w.heap.size 5 i0 _ 1 1 Tryz.underlying45 hi hz0 hz1 hz2 rfl (by decide) _ l.length (bc l) rfl (ownsRow_keep Hown.out hbd) _ 1 [.int .u8 V] rfl (.inr ⟨_, 1, rfl, rfl, one_new _ _ _⟩) (one_u8 _) HL.1 HL.2 (Nat.le_trans Hb.out.size hbd.size) ?_
                      intro v1 w1 hown1 hgr1 _
                      refine hK.out _ _ trivial (fun hHeld => ?_)
                      clear hK K
                      (try simp only [Act.put, lsa, lsz, lss])
                      (refine htk 16 7 ?_ rfl ?_ ?_; rotate_left; (intro w hSw; clear hSw; go_simp); (try with_reducible rfl); simp only [lsz, lss])
                      refine wpAnyH_done (by kernel_rfl) ?_ _
                      rw [← HV.out] at hown1
                      all_goals go_wp2
                      all_goals exact ⟨⟨k + 4, l ++ [UInt8.ofNat (16 * A2 + B2)], by omega, by omega, by go_num, by simp; omega, by unfold OwnB; rw [bc_snoc, List.length_append]; exact hown1, Hst.out, below_app (Hb.out.trans (hbd.mono Hb.out.size)) (ownsRow_keep Hown.out hbd) hgr1 (Nat.le_refl _) (Nat.le_trans Hb.out.size hbd.size)⟩, by simp [intOf]; omega⟩
                · have q5 : ((s[k + 1].toNat : Int) == 120) = false := u8ne (n := 120) (by omega) hx
                  have Hq := Lib.hid (txt5_none Hr.out (by rw [sl_cons hlt, c92]; refine textAt_no hhd (fun a b r' e => ?_); rw [e3] at e; injection e with e _; exact absurd e hx))
                  clear c34 hd e1 hhd e3 hx c92
                  go_wp2
                  go_ret3
                  exact ⟨by rw [Hq.out]; rfl, Hb.out⟩
              · have hi3 : ¬ (k : Int) + 3 < (s.size : Int) := by omega
                have Hq := Lib.hid (txt5_none Hr.out (by
                  rw [sl_cons hlt, c92]
                  refine textAt_no hhd (fun a b r' e => ?_)
                  have := congrArg List.length e
                  rw [sl_length] at this
                  simp at this; omega))
                clear c34 hd e1 hhd c92
                go_wp2
                go_ret3
                exact ⟨by rw [Hq.out]; rfl, Hb.out⟩
          · have hi1 : ¬ (k : Int) + 1 < s.size := by omega
            have hi3 : ¬ (k : Int) + 3 < (s.size : Int) := by omega
            have Hq := Lib.hid (txt5_none Hr.out (by rw [sl_cons hlt, c92, sl_end (by omega)]; rfl))
            clear c34 c92
            go_wp2
            go_ret3
            exact ⟨by rw [Hq.out]; rfl, Hb.out⟩
        · have q2 : ((s[k].toNat : Int) == 92) = false := u8ne (n := 92) (by omega) c92
          by_cases cbad : (s[k].toNat : Int) < 32 ∨ 126 < (s[k].toNat : Int)
          · have Hq := Lib.hid (txt5_none Hr.out (by rw [sl_cons hlt]; exact textAt_bad _ c34 (by simp only [UInt8.lt_iff_toNat_lt]; simp; omega)))
            have cb : (s[k].toNat : Int) < 32 ∨ (¬ (s[k].toNat : Int) < 32 ∧ 126 < (s[k].toNat : Int)) := by omega
            clear c34 c92 cbad
            rcases cb with h | ⟨h, h'⟩
            all_goals go_wp2
            all_goals go_ret3
            all_goals exact ⟨by rw [Hq.out]; rfl, Hb.out⟩
          · have Hst := Lib.hid (txt_step (n := 1) (c := s[k]) Hr.out hak (by rw [sl_cons hlt]; exact textAt_plain _ c34 (by rw [UInt8.le_iff_toNat_le]; show 32 ≤ _; omega) (by rw [UInt8.le_iff_toNat_le]; show _ ≤ 126; omega) c92))
            have cb3 : ¬ 126 < (s[k].toNat : Int) := by omega
            have cb4 : ¬ (s[k].toNat : Int) < 32 := by omega
            clear c34 c92 cbad
            go_wp2_with (at_builtin; refine wpList_append_own_at _ rfl _ _ 45 rfl w.heap.size 5 i0 _ 1 1 Tryz.underlying45 hi hz0 hz1 hz2 rfl (by decide) _ l.length (bc l) rfl (Hown.out.alloc _) ⟨wr.heap.size, 0, none⟩ 1 1 [.int .u8 (s[k].toNat : Int)] rfl rfl (one_new _ _ _) (one_u8 _) HL.1 HL.2 (Nat.le_trans Hb.out.size (by simp)) ?_; intro v1 w1 hown1 hgr1 _ _)
            refine ⟨⟨k + 1, l ++ [s[k]], by omega, by omega, by go_num, by simp; omega, by unfold OwnB; rw [bc_snoc, List.length_append]; exact hown1, Hst.out, below_app (Hb.out.alloc Hb.out.size _) (Hown.out.alloc _) hgr1 (Nat.le_refl _) (Nat.le_trans Hb.out.size (by simp))⟩, by simp [intOf]; omega⟩
    · have Hq := Lib.hid (txt5_none Hr.out (by rw [sl_end (by omega)]; rfl))
      go_wp2
      go_ret3
      exact ⟨by rw [Hq.out]; rfl, Hb.out⟩
def NumR (ok : Bool) (v : Int) (w : World) (e : Ending) (w' : World) : Prop := (∃ x : Int, e = .returned (.tuple #[.int .i64 x, .bool ok]) ∧ (ok = true → x = v)) ∧ w = w'
theorem numR_yes {ok : Bool} {v x : Int} {w : World} {e : Ending} (he : e = .returned (.tuple #[.int .i64 x, .bool true])) (hok : ok = true) (hx : x = v) : NumR ok v w e w := by
  subst hok; exact ⟨⟨x, he, fun _ => hx⟩, rfl⟩
theorem numR_no {ok : Bool} {v x : Int} {w : World} {e : Ending} (he : e = .returned (.tuple #[.int .i64 x, .bool false])) (hok : ok = false) : NumR ok v w e w := by
  subst hok; exact ⟨⟨x, he, fun h => Bool.noConfusion h⟩, rfl⟩
theorem dg_range' {c : UInt8} (h : dgC c = true) : 48 ≤ c.toNat ∧ c.toNat ≤ 57 := by
  simp [dgC, UInt8.le_iff_toNat_le] at h; exact h
theorem decV_lt (l : List UInt8) (h : l.all dgC = true) : decV l < 10 ^ l.length := by
  have key : ∀ (r : List UInt8) (n : Nat), r.all dgC = true → r.foldl (fun n c => n * 10 + (c.toNat - 48)) n < (n + 1) * 10 ^ r.length := by
    intro r
    induction r with
    | nil => intro n _; simp
    | cons d r ih =>
      intro n hr
      simp only [List.all_cons, Bool.and_eq_true] at hr
      obtain ⟨h1, h2⟩ := dg_range' hr.1
      refine Nat.lt_of_lt_of_le (ih (n * 10 + (d.toNat - 48)) hr.2) ?_
      rw [List.length_cons, Nat.pow_succ, Nat.mul_comm (10 ^ r.length) 10, ← Nat.mul_assoc]
      exact Nat.mul_le_mul_right _ (by omega)
  have := key l 0 h
  simpa [decV] using this
theorem decV_ge {c : UInt8} {r : List UInt8} (hc : dgC c = true) (h : c ≠ 48) : 10 ^ r.length ≤ decV (c :: r) := by
  have key : ∀ (r : List UInt8) (n : Nat), 1 ≤ n → n * 10 ^ r.length ≤ r.foldl (fun n c => n * 10 + (c.toNat - 48)) n := by
    intro r
    induction r with
    | nil => intro n _; simp
    | cons d r ih =>
      intro n hn
      have := ih (n * 10 + (d.toNat - 48)) (by omega)
      refine Nat.le_trans ?_ this
      rw [List.length_cons, Nat.pow_succ, Nat.mul_comm (10 ^ r.length) 10, ← Nat.mul_assoc]
      exact Nat.mul_le_mul_right _ (by omega)
  obtain ⟨h1, h2⟩ := dg_range' hc
  have hne : c.toNat ≠ 48 := fun e => h (UInt8.toNat_inj.1 e)
  have := key r (0 * 10 + (c.toNat - 48)) (by omega)
  refine Nat.le_trans ?_ this
  exact Nat.le_mul_of_pos_left _ (by omega)
theorem rNumberP (s : ByteArray) (dl : List UInt8) (w : World) (hs : s.size ≤ 16384) (hsl : s.data.toList = dl) (hd : dl.all dgC = true) (h0 : dl ≠ []) :
    Calls Tryz.prog 70 #[.string s] w (NumR (wholeOk dl) (wholeV dl) w) := by
  obtain ⟨c, r, rfl⟩ : ∃ c r, dl = c :: r := by cases dl with
    | nil => exact absurd rfl h0
    | cons c r => exact ⟨c, r, rfl⟩
  have hlen : s.size = ((c :: r) : List UInt8).length := by rw [← hsl]; simp
  have hc : dgC c = true := by simp only [List.all_cons, Bool.and_eq_true] at hd; exact hd.1
  have hcr := dg_range' hc
  have hs0 : 0 < s.size := by rw [hlen]; simp
  have hg0 : s[0] = c := by
    have h1 : s.data.toList[0]'(by simpa using hs0) = c := by simp [hsl]
    exact h1
  have q0 : ((s[0].toNat : Int) == 45) = false := by rw [hg0]; simp; omega
  have q0' : ¬ (s[0].toNat : Int) = 45 := by rw [hg0]; omega
  obtain ⟨D, hD⟩ : ∃ D : ByteArray, s = D := ⟨_, rfl⟩
  subst hD
  have hDl : s.data.toList = c :: r := hsl
  clear hg0
  have hDs : s.size = r.length + 1 := by
    have h1 : s.data.toList.length = s.size := by simp
    rw [hDl] at h1; simpa using h1.symm
  have hD0 : 0 < s.size := by omega
  have hDg : s[0] = c := by
    have h1 : s.data.toList[0]'(by simpa using hD0) = c := by simp [hDl]
    exact h1
  by_cases hi : c = 48 ∧ r ≠ []
  · have hw : wholeOk (c :: r) = false := by
      obtain ⟨rfl, hr⟩ := hi
      simp [wholeOk, hr]
    have h9 : 0 < r.length := List.length_pos_iff.2 hi.2
    have p1 : (1 : Int) < (s.size : Int) := by omega
    have p2 : ((s[0].toNat : Int) == 48) = true := by rw [hDg, hi.1]; rfl
    have p2' : (s[0].toNat : Int) = 48 := by rw [hDg, hi.1]; rfl
    rw [hw]
    clear hi hw hDg hsl hDl hlen hd h0 hc hcr
    go_enter Tryz.func70, Tryz.ntmps70; (try simp only [List.append_eq, List.cons_append, List.nil_append])
    go_wp2
    all_goals go_ret2
    all_goals exact ⟨⟨_, rfl, fun h => Bool.noConfusion h⟩, rfl⟩
  have hne : r = [] ∨ c ≠ 48 := by
    by_cases h : r = []
    · exact .inl h
    · exact .inr fun e => hi ⟨e, h⟩
  have p1 : ¬ (1 : Int) < (s.size : Int) ∨ (s[0].toNat : Int) ≠ 48 := by
    rcases hne with h | h
    · left; rw [hDs, h]; simp
    · right; rw [hDg]; intro e; exact h ((u8_eq_iff c 48 (by omega)).2 (by omega))
  by_cases h19 : 19 < s.size
  · have hw : wholeOk (c :: r) = false := by
      have h48 : c ≠ 48 := by
        rcases hne with h | h
        · rw [h] at hDs; simp at hDs; omega
        · exact h
      have hge := decV_ge (r := r) hc h48
      have hpw : 10 ^ 19 ≤ 10 ^ r.length := Nat.pow_le_pow_right (by decide) (by omega)
      have h45 : (c == 45) = false := by rw [beq_eq_false_iff_ne]; rintro rfl; exact absurd hc (by decide)
      simp only [wholeOk, h45, Bool.false_eq_true, if_false, Bool.and_eq_false_iff, decide_eq_false_iff_not]; right; omega
    have p4 : (19 : Int) < (s.size : Int) := by omega
    have p5 : (1 : Int) < (s.size : Int) := by omega
    have p6 : (s[0].toNat : Int) ≠ 48 := p1.resolve_left (by omega)
    have p7 : ((s[0].toNat : Int) == 48) = false := by simpa using p6
    rw [hw]
    clear p1 hne hi hw hDg hsl hDl hlen hd h0 hc hcr
    go_enter Tryz.func70, Tryz.ntmps70; (try simp only [List.append_eq, List.cons_append, List.nil_append])
    go_wp2
    all_goals go_ret2
    all_goals exact ⟨⟨_, rfl, fun h => Bool.noConfusion h⟩, rfl⟩
  · have p4 : ¬ (19 : Int) < (s.size : Int) := by omega
    have hlt := decV_lt (c :: r) hd
    have hp19 : 10 ^ (c :: r).length ≤ 10 ^ 19 := Nat.pow_le_pow_right (by decide) (by simp; omega)
    have HDl := Lib.hid hDl
    have Hd := Lib.hid hd
    have Hne := Lib.hid hne
    have Hsl := Lib.hid hsl
    have hWV : wholeV (c :: r) = (decV (c :: r) : Int) := by
      have h45 : (c == 45) = false := by rw [beq_eq_false_iff_ne]; rintro rfl; exact absurd hc (by decide)
      simp [wholeV, h45]
    have hWO : wholeOk (c :: r) = decide (decV (c :: r) < 9223372036854775808) := by
      have h45 : (c == 45) = false := by rw [beq_eq_false_iff_ne]; rintro rfl; exact absurd hc (by decide)
      rcases hne with h | h <;> simp [wholeOk, h45, h]
    
    have HWV := Lib.hid hWV
    have HWO := Lib.hid hWO
    have hVm : decV (c :: r) < 10000000000000000000 := by omega
    have HDs := Lib.hid hDs
    have hsz19 := h19
    clear hWV hWO hDl hd hne hsl hlen hi h0 hc hcr hlt hp19 hDs
    have p1b : ¬ (1 : Int) < (s.size : Int) ∨ ((1 : Int) < (s.size : Int) ∧ ((s[0].toNat : Int) == 48) = false) := by
      rcases p1 with p1 | p1
      · exact .inl p1
      · by_cases h : (1 : Int) < (s.size : Int)
        · exact .inr ⟨h, by simpa using p1⟩
        · exact .inl h
    clear p1 hDg
    rcases (show (s.toList == [48]) = true ∨ (s.toList == [48]) = false by cases (s.toList == [48]) <;> simp) with p3 | p3
    all_goals rcases p1b with p1 | ⟨p1, p1c⟩
    all_goals
      go_enter Tryz.func70, Tryz.ntmps70; (try simp only [List.append_eq, List.cons_append, List.nil_append])
      go_upto_region 7 with fail
      go_wp2_with fail
      go_loop [6, 7] (fun x i => ∃ k : Nat, k ≤ s.size ∧ i = .int .i64 k ∧ x = .int .u64 (decV ((c :: r).take k))) (fun _ i => s.size - (intOf i).toNat)
      case atStart => exact ⟨0, Nat.zero_le _, rfl, rfl⟩
      case round =>
        obtain ⟨k, hk, rfl, rfl⟩ := hrel
        by_cases hlt : k < s.size
        · have hkl : k < (c :: r).length := by have := HDs.out; simp; omega
          have hat : (c :: r)[k] = s[k] := by
            have e : s.data.toList = c :: r := HDl.out
            have h1 : s.data.toList[k]'(by rw [e]; exact hkl) = (c :: r)[k] := by simp only [e]
            rw [← h1]; rfl
          have hdk : dgC s[k] = true := by rw [← hat]; exact List.all_eq_true.1 Hd.out _ (List.getElem_mem hkl)
          obtain ⟨d1, d2⟩ := dg_range' hdk
          have hst : decV ((c :: r).take (k + 1)) = decV ((c :: r).take k) * 10 + (s[k].toNat - 48) := by
            rw [List.take_succ_eq_append_getElem hkl, decV_snoc, hat]
          have hbig := decV_take (c :: r) (k + 1)
          rw [hst] at hbig
          have Hst := Lib.hid hst
          obtain ⟨V, hV⟩ : ∃ V, decV ((c :: r).take k) = V := ⟨_, rfl⟩
          rw [hV] at Hst hbig ⊢
          have n1 : IntKind.u64.wrap ((V : Int) * 10) = (V : Int) * 10 := IntWalk.u64_in _ (by omega)
          have n2 : IntKind.u8.wrap ((s[k].toNat : Int) - 48) = (s[k].toNat : Int) - 48 := IntWalk.u8_in _ (by omega)
          have n3 : IntKind.u64.wrap ((V : Int) * 10 + ((s[k].toNat : Int) - 48)) = (V : Int) * 10 + ((s[k].toNat : Int) - 48) := IntWalk.u64_in _ (by omega)
          have n4 : IntKind.u64.wrap ((s[k].toNat : Int) - 48) = (s[k].toNat : Int) - 48 := IntWalk.u64_in _ (by omega)
          have d1' : (48 : Int) ≤ (s[k].toNat : Int) := by omega
          have d2' : (s[k].toNat : Int) ≤ 57 := by omega
          have hVb : (V : Int) ≤ 1000000000000000000 := by omega
          have HK := Lib.hid (show ((V * 10 + (s[k].toNat - 48) : Nat) : Int) = (V : Int) * 10 + ((s[k].toNat : Int) - 48) by omega)
          clear hV hbig hst hdk hat hkl
          go_wp2
          refine ⟨⟨k + 1, by omega, by go_num, ?_⟩, by simp [intOf]; omega⟩
          rw [Hst.out, HK.out]
        · have hk' : k = s.size := by omega
          subst hk'
          rw [List.take_of_length_le (by have := HDs.out; simp; omega)]
          obtain ⟨V, hV⟩ : ∃ V, decV (c :: r) = V := ⟨_, rfl⟩
          rw [hV] at hVm HWO HWV ⊢
          clear hV
          by_cases hle : V < 9223372036854775808
          · have n2 : IntKind.i64.wrap (V : Int) = (V : Int) := IntWalk.i64_in _ (by omega)
            have n5 : decide ((V : Int) < 9223372036854775808) = true := decide_eq_true (by omega)
            go_wp2
            go_ret2
            exact numR_yes rfl (by rw [HWO.out]; exact decide_eq_true hle) (by rw [HWV.out])
          · have n5 : decide ((V : Int) < 9223372036854775808) = false := decide_eq_false (by omega)
            go_wp2
            go_ret2
            exact numR_no rfl (by rw [HWO.out]; exact decide_eq_false hle)
theorem rNumberN (s : ByteArray) (dl : List UInt8) (w : World) (hs : s.size ≤ 16384) (hsl : s.data.toList = (45 :: dl)) (hd : dl.all dgC = true) (h0 : dl ≠ []) :
    Calls Tryz.prog 70 #[.string s] w (NumR (wholeOk (45 :: dl)) (wholeV (45 :: dl)) w) := by
  obtain ⟨c, r, rfl⟩ : ∃ c r, dl = c :: r := by cases dl with
    | nil => exact absurd rfl h0
    | cons c r => exact ⟨c, r, rfl⟩
  have hlen : s.size = ((45 :: (c :: r)) : List UInt8).length := by rw [← hsl]; simp
  have hc : dgC c = true := by simp only [List.all_cons, Bool.and_eq_true] at hd; exact hd.1
  have hcr := dg_range' hc
  have hs0 : 0 < s.size := by rw [hlen]; simp
  have hg0 : s[0] = 45 := by
    have h1 : s.data.toList[0]'(by simpa using hs0) = 45 := by simp [hsl]
    exact h1
  have q0 : ((s[0].toNat : Int) == 45) = true := by rw [hg0]; rfl
  have q0' : (s[0].toNat : Int) = 45 := by rw [hg0]; rfl
  obtain ⟨D, hD⟩ : ∃ D : ByteArray, s.extract 1 s.size = D := ⟨_, rfl⟩
  have hDl : D.data.toList = c :: r := by
    have e1 : s.size = 1 + (s.size - 1) := by omega
    rw [← hD]
    conv => lhs; rw [e1]
    rw [extract_sl]
    have e2 : sl s 1 = c :: r := by unfold sl; rw [hsl]; rfl
    show (sl s 1).take (s.size - 1) = _
    rw [e2, hlen]
    simp
  clear hg0
  have hDs : D.size = r.length + 1 := by
    have h1 : D.data.toList.length = D.size := by simp
    rw [hDl] at h1; simpa using h1.symm
  have hD0 : 0 < D.size := by omega
  have hDg : D[0] = c := by
    have h1 : D.data.toList[0]'(by simpa using hD0) = c := by simp [hDl]
    exact h1
  by_cases hi : c = 48 ∧ r ≠ []
  · have hw : wholeOk (45 :: (c :: r)) = false := by
      obtain ⟨rfl, hr⟩ := hi
      simp [wholeOk, headIs]
    have h9 : 0 < r.length := List.length_pos_iff.2 hi.2
    have p1 : (1 : Int) < (D.size : Int) := by omega
    have p2 : ((D[0].toNat : Int) == 48) = true := by rw [hDg, hi.1]; rfl
    have p2' : (D[0].toNat : Int) = 48 := by rw [hDg, hi.1]; rfl
    rw [hw]
    clear hi hw hDg hsl hDl hlen hd h0 hc hcr
    go_enter Tryz.func70, Tryz.ntmps70; (try simp only [List.append_eq, List.cons_append, List.nil_append])
    go_upto_region 4 with fail
    try rw [hD]
    clear hD
    go_wp2
    all_goals go_ret2
    all_goals exact ⟨⟨_, rfl, fun h => Bool.noConfusion h⟩, rfl⟩
  by_cases hz : c = 48 ∧ r = []
  · have hw : wholeOk (45 :: (c :: r)) = false := by
      obtain ⟨rfl, rfl⟩ := hz
      simp [wholeOk, headIs]
    have h9 : r.length = 0 := by rw [hz.2]; rfl
    have p1 : ¬ (1 : Int) < (D.size : Int) := by omega
    have p2 : (D.toList == [48]) = true := by
      rw [ByteArray.toList_eq, hDl, hz.1, hz.2]; rfl
    have p3 : D = ⟨#[48]⟩ := by
      cases D with | mk d => cases d with | mk l => simp at hDl; subst hDl; rw [hz.1, hz.2]
    rw [hw]
    clear hi hz hw hDg hsl hDl hlen hd h0 hc hcr
    go_enter Tryz.func70, Tryz.ntmps70; (try simp only [List.append_eq, List.cons_append, List.nil_append])
    go_upto_region 4 with fail
    try rw [hD]
    clear hD
    go_wp2
    all_goals go_ret2
    all_goals exact ⟨⟨_, rfl, fun h => Bool.noConfusion h⟩, rfl⟩
  have hne : r = [] ∨ c ≠ 48 := by
    by_cases h : r = []
    · exact .inl h
    · exact .inr fun e => hi ⟨e, h⟩
  have hc48 : c ≠ 48 := by
    rcases hne with h | h
    · exact fun e => hz ⟨e, h⟩
    · exact h
  have p3 : (D.toList == [48]) = false := by
    rw [ByteArray.toList_eq, hDl]
    rw [beq_eq_false_iff_ne]
    intro e; injection e with e1 _; exact hc48 e1
  have p3' : ¬ D = ⟨#[48]⟩ := by
    intro e; rw [e] at hDl; injection hDl with e1 _; exact hc48 e1.symm
  have p1 : ¬ (1 : Int) < (D.size : Int) ∨ (D[0].toNat : Int) ≠ 48 := by
    rcases hne with h | h
    · left; rw [hDs, h]; simp
    · right; rw [hDg]; intro e; exact h ((u8_eq_iff c 48 (by omega)).2 (by omega))
  by_cases h19 : 19 < D.size
  · have hw : wholeOk (45 :: (c :: r)) = false := by
      have h48 : c ≠ 48 := by
        rcases hne with h | h
        · rw [h] at hDs; simp at hDs; omega
        · exact h
      have hge := decV_ge (r := r) hc h48
      have hpw : 10 ^ 19 ≤ 10 ^ r.length := Nat.pow_le_pow_right (by decide) (by omega)
      simp [wholeOk, headIs, h48]; omega
      
    have p4 : (19 : Int) < (D.size : Int) := by omega
    have p5 : (1 : Int) < (D.size : Int) := by omega
    have p6 : (D[0].toNat : Int) ≠ 48 := p1.resolve_left (by omega)
    have p7 : ((D[0].toNat : Int) == 48) = false := by simpa using p6
    rw [hw]
    clear p1 hne hi hw hDg hsl hDl hlen hd h0 hc hcr
    go_enter Tryz.func70, Tryz.ntmps70; (try simp only [List.append_eq, List.cons_append, List.nil_append])
    go_upto_region 4 with fail
    try rw [hD]
    clear hD
    go_wp2
    all_goals go_ret2
    all_goals exact ⟨⟨_, rfl, fun h => Bool.noConfusion h⟩, rfl⟩
  · have p4 : ¬ (19 : Int) < (D.size : Int) := by omega
    have hlt := decV_lt (c :: r) hd
    have hp19 : 10 ^ (c :: r).length ≤ 10 ^ 19 := Nat.pow_le_pow_right (by decide) (by simp; omega)
    have HDl := Lib.hid hDl
    have Hd := Lib.hid hd
    have Hne := Lib.hid hne
    have Hsl := Lib.hid hsl
    have hWV : wholeV (45 :: (c :: r)) = -(decV (c :: r) : Int) := by
      simp [wholeV]
      
    have hWO : wholeOk (45 :: (c :: r)) = decide (decV (c :: r) ≤ 9223372036854775808) := by
      simp [wholeOk, headIs, hc48]
      
    have hge := decV_ge (r := r) hc hc48
    have h10 : 0 < 10 ^ r.length := Nat.pow_pos (by decide)
    have hpos : 1 ≤ decV (c :: r) := by omega
    clear hge h10
    have HWV := Lib.hid hWV
    have HWO := Lib.hid hWO
    have hVm : decV (c :: r) < 10000000000000000000 := by omega
    have HDs := Lib.hid hDs
    have hsz19 := h19
    clear hWV hWO hDl hd hne hsl hlen hi h0 hc hcr hlt hp19 hDs
    have p1b : ¬ (1 : Int) < (D.size : Int) ∨ ((1 : Int) < (D.size : Int) ∧ ((D[0].toNat : Int) == 48) = false) := by
      rcases p1 with p1 | p1
      · exact .inl p1
      · by_cases h : (1 : Int) < (D.size : Int)
        · exact .inr ⟨h, by simpa using p1⟩
        · exact .inl h
    clear p1 hDg
    try clear hz hc48
    rcases p1b with p1 | ⟨p1, p1c⟩
    all_goals
      go_enter Tryz.func70, Tryz.ntmps70; (try simp only [List.append_eq, List.cons_append, List.nil_append])
      go_upto_region 4 with fail
      try rw [hD]
      clear hD
      go_upto_region 7 with fail
      go_wp2_with fail
      go_loop [6, 7] (fun x i => ∃ k : Nat, k ≤ D.size ∧ i = .int .i64 k ∧ x = .int .u64 (decV ((c :: r).take k))) (fun _ i => D.size - (intOf i).toNat)
      case atStart => exact ⟨0, Nat.zero_le _, rfl, rfl⟩
      case round =>
        obtain ⟨k, hk, rfl, rfl⟩ := hrel
        by_cases hlt : k < D.size
        · have hkl : k < (c :: r).length := by have := HDs.out; simp; omega
          have hat : (c :: r)[k] = D[k] := by
            have e : D.data.toList = c :: r := HDl.out
            have h1 : D.data.toList[k]'(by rw [e]; exact hkl) = (c :: r)[k] := by simp only [e]
            rw [← h1]; rfl
          have hdk : dgC D[k] = true := by rw [← hat]; exact List.all_eq_true.1 Hd.out _ (List.getElem_mem hkl)
          obtain ⟨d1, d2⟩ := dg_range' hdk
          have hst : decV ((c :: r).take (k + 1)) = decV ((c :: r).take k) * 10 + (D[k].toNat - 48) := by
            rw [List.take_succ_eq_append_getElem hkl, decV_snoc, hat]
          have hbig := decV_take (c :: r) (k + 1)
          rw [hst] at hbig
          have Hst := Lib.hid hst
          obtain ⟨V, hV⟩ : ∃ V, decV ((c :: r).take k) = V := ⟨_, rfl⟩
          rw [hV] at Hst hbig ⊢
          have n1 : IntKind.u64.wrap ((V : Int) * 10) = (V : Int) * 10 := IntWalk.u64_in _ (by omega)
          have n2 : IntKind.u8.wrap ((D[k].toNat : Int) - 48) = (D[k].toNat : Int) - 48 := IntWalk.u8_in _ (by omega)
          have n3 : IntKind.u64.wrap ((V : Int) * 10 + ((D[k].toNat : Int) - 48)) = (V : Int) * 10 + ((D[k].toNat : Int) - 48) := IntWalk.u64_in _ (by omega)
          have n4 : IntKind.u64.wrap ((D[k].toNat : Int) - 48) = (D[k].toNat : Int) - 48 := IntWalk.u64_in _ (by omega)
          have d1' : (48 : Int) ≤ (D[k].toNat : Int) := by omega
          have d2' : (D[k].toNat : Int) ≤ 57 := by omega
          have hVb : (V : Int) ≤ 1000000000000000000 := by omega
          have HK := Lib.hid (show ((V * 10 + (D[k].toNat - 48) : Nat) : Int) = (V : Int) * 10 + ((D[k].toNat : Int) - 48) by omega)
          clear hV hbig hst hdk hat hkl
          go_wp2
          refine ⟨⟨k + 1, by omega, by go_num, ?_⟩, by simp [intOf]; omega⟩
          rw [Hst.out, HK.out]
        · have hk' : k = D.size := by omega
          subst hk'
          rw [List.take_of_length_le (by have := HDs.out; simp; omega)]
          have hx1 : (1 : Int) ≤ ((decV (c :: r) : Nat) : Int) := by omega
          obtain ⟨V, hV⟩ : ∃ V, decV (c :: r) = V := ⟨_, rfl⟩
          rw [hV] at hVm hx1 hpos HWO HWV ⊢
          clear hV
          by_cases hle : V ≤ 9223372036854775808
          · have n1 : IntKind.u64.wrap ((V : Int) - 1) = (V : Int) - 1 := IntWalk.u64_in _ (by omega)
            have n2 : IntKind.i64.wrap ((V : Int) - 1) = (V : Int) - 1 := IntWalk.i64_in _ (by omega)
            have n3 : IntKind.i64.wrap (-((V : Int) - 1)) = -((V : Int) - 1) := IntWalk.i64_in _ (by omega)
            have n4 : IntKind.i64.wrap (-((V : Int) - 1) - 1) = -((V : Int) - 1) - 1 := IntWalk.i64_in _ (by omega)
            have n5 : decide ((V : Int) ≤ 9223372036854775808) = true := decide_eq_true (by omega)
            go_wp2
            go_ret2
            exact numR_yes rfl (by rw [HWO.out]; exact decide_eq_true hle) (by rw [HWV.out]; omega)
          · have n5 : decide ((V : Int) ≤ 9223372036854775808) = false := decide_eq_false (by omega)
            go_wp2
            go_ret2
            exact numR_no rfl (by rw [HWO.out]; exact decide_eq_false hle)
theorem hexAt_lo : ∀ n : Fin 16, ((hexAt n.val).toNat : Int) = if n.val < 10 then 48 + (n.val : Int) else 97 + (n.val : Int) - 10 := by decide +kernel
theorem rHex (n : Nat) (hn : n < 16) (w : World) : Calls Tryz.prog 97 #[.int .u8 n] w fun e w' => e = .returned (.int .u8 ((hexAt n).toNat : Int)) ∧ w = w' := by
  have h := hexAt_lo ⟨n, hn⟩
  simp only at h
  have H := Lib.hid h; clear h
  go_enter Tryz.func97, Tryz.ntmps97; (try simp only [List.append_eq, List.cons_append, List.nil_append])
  by_cases h10 : n < 10
  · go_wp2
    go_ret
    exact ⟨ret_int (by rw [H.out, if_pos h10]), rfl⟩
  · go_wp2
    go_ret
    exact ⟨ret_int (by rw [H.out, if_neg h10]), rfl⟩
theorem cells_new (w : World) (xs : List Value) (t : Nat) : ∀ j u, xs[j]? = some u → (w.alloc (.cells xs.toArray t)).cell? ((⟨w.heap.size, 0, none⟩ : Addr).add j) = some u := by
  intro j u hu
  have e : (⟨w.heap.size, 0, none⟩ : Addr).add j = ⟨w.heap.size, j, none⟩ := by unfold Addr.add; by_cases hz : j = 0 <;> simp [hz]
  rw [e, World.cell?_alloc_new]; simpa using hu
theorem ownB_new (w : World) (l : List UInt8) (xs : Array Value) (n : Nat) (hx : xs = (bc l).toArray) (hn : n = l.length) (hm : l.length ≤ maxLen) : OwnB w.heap.size (w.alloc (.cells xs 5)) (.slice (some ⟨w.heap.size, 0, none⟩) n n) l := by
  subst hx hn
  exact ⟨by simp [bc], .inr ⟨w.heap.size, l.length, (bc l).toArray, rfl, Nat.le_refl _, World.alloc_heap_new w _, Nat.le_refl _, hm, by simp [bc], by rw [List.take_of_length_le (by simp [bc])]⟩⟩
theorem ownB_add {base : Nat} {w : World} {v : Value} {q d : List UInt8} {m : Nat} (hm : d.length = m) (h : w.ownsRow base 5 1 v (q.length + m) (bc q ++ bc d)) : OwnB base w v (q ++ d) := by
  subst hm
  unfold OwnB
  rw [List.length_append, show bc (q ++ d) = bc q ++ bc d by simp [bc]]; exact h
theorem rQuote3 (s : ByteArray) (w : World) (hs : s.size ≤ 2000000) :
    Calls Tryz.prog 73 #[.string s] w fun e w' => e = .returned (.string ⟨(quoteL s.data.toList).toArray⟩) ∧ Below w.heap.size w w' := by
  obtain ⟨i0, hi, hz0, hz1, hz2⟩ := info_parts infoB
  go_enter Tryz.func73, Tryz.ntmps73; (try simp only [List.append_eq, List.cons_append, List.nil_append])
  go_wp2
  go_loopw [3, 4] (fun v i wr => ∃ k : Nat, k ≤ s.size ∧ i = .int .i64 k ∧ OwnB w.heap.size wr v (34 :: qs (s.data.toList.take k)) ∧ Below w.heap.size w wr) (fun _ i _ => s.size - (intOf i).toNat)
  case atStart => exact ⟨0, Nat.zero_le _, rfl, ownB_new w _ _ 1 rfl (by simp [qs]) (by simp [qs, maxLen]), (Below.refl _ _).alloc (Nat.le_refl _) _⟩
  case round =>
    obtain ⟨k, hk, rfl, hown, hb⟩ := hrel
    have Hb := Lib.hid hb; clear hb
    have hql := qs_length (s.data.toList.take k)
    have hql2 : (s.data.toList.take k).length ≤ k := List.length_take_le _ _
    by_cases hlt : k < s.size
    · have hsn : qs (s.data.toList.take (k + 1)) = qs (s.data.toList.take k) ++ qc s[k] := by rw [take_snoc' s k hlt, qs_snoc]
      have Hsn := Lib.hid hsn; clear hsn
      obtain ⟨q, hq⟩ : ∃ q, 34 :: qs (s.data.toList.take k) = q := ⟨_, rfl⟩
      have hqn : q.length ≤ 8000010 := by rw [← hq, List.length_cons]; omega
      have HQ : Hid (34 :: qs (s.data.toList.take (k + 1)) = q ++ qc s[k]) := by show _ = _; rw [Hsn.out, ← hq]; rfl
      rw [hq] at hown
      obtain ⟨A, cap, rfl⟩ := ownB_slice hown
      have Hown := Lib.hid hown; clear hown
      have HL : ∀ m : Nat, m ≤ 4 → q.length + m ≤ maxLen ∧ (q.length + m) * 1 ≤ 140737488355328 := fun m hm => by unfold maxLen; omega
      clear hq hql hql2 Hsn
      have hb255 : (s[k].toNat : Int) ≤ 255 := by have := s[k].toNat_lt; omega
      by_cases h1 : s[k].toNat = 92 ∨ s[k].toNat = 34
      · rw [qc_two h1] at HQ
        rcases h1 with h1 | h1
        · have a1 : ((s[k].toNat : Int) == 34) = false := by simp; omega
          have a2 : ((s[k].toNat : Int) == 92) = true := by simp; omega
          clear h1
          go_wp2_with (at_builtin; refine wpList_append_own_at _ rfl _ _ 45 rfl w.heap.size 5 i0 _ 1 1 Tryz.underlying45 hi hz0 hz1 hz2 rfl (by decide) _ q.length (bc q) rfl (Hown.out.alloc _) ⟨wr.heap.size, 0, none⟩ 2 2 [.int .u8 92, .int .u8 (s[k].toNat : Int)] rfl rfl (cells_new _ _ _) (by simp [Value.oneCell']) (HL 2 (by omega)).1 (HL 2 (by omega)).2 (Nat.le_trans Hb.out.size (by simp)) ?_; intro v1 w1 hown1 hgr1 _ _)
          refine ⟨⟨k + 1, by omega, by go_num, by rw [HQ.out]; exact ownB_add (m := 2) rfl hown1, below_app (Hb.out.alloc Hb.out.size _) (Hown.out.alloc _) hgr1 (Nat.le_refl _) (Nat.le_trans Hb.out.size (by simp))⟩, by simp [intOf]; omega⟩
        · have a1 : ((s[k].toNat : Int) == 34) = true := by simp; omega
          clear h1
          go_wp2_with (at_builtin; refine wpList_append_own_at _ rfl _ _ 45 rfl w.heap.size 5 i0 _ 1 1 Tryz.underlying45 hi hz0 hz1 hz2 rfl (by decide) _ q.length (bc q) rfl (Hown.out.alloc _) ⟨wr.heap.size, 0, none⟩ 2 2 [.int .u8 92, .int .u8 (s[k].toNat : Int)] rfl rfl (cells_new _ _ _) (by simp [Value.oneCell']) (HL 2 (by omega)).1 (HL 2 (by omega)).2 (Nat.le_trans Hb.out.size (by simp)) ?_; intro v1 w1 hown1 hgr1 _ _)
          refine ⟨⟨k + 1, by omega, by go_num, by rw [HQ.out]; exact ownB_add (m := 2) rfl hown1, below_app (Hb.out.alloc Hb.out.size _) (Hown.out.alloc _) hgr1 (Nat.le_refl _) (Nat.le_trans Hb.out.size (by simp))⟩, by simp [intOf]; omega⟩
      · have b1 : ((s[k].toNat : Int) == 92) = false := by simp; omega
        have b2 : ((s[k].toNat : Int) == 34) = false := by simp; omega
        by_cases h2 : s[k].toNat < 32 ∨ 126 < s[k].toNat
        · rw [qc_four h1 h2] at HQ
          clear h1
          have hlo : s[k].toNat % 16 < 16 := by omega
          have hhi : s[k].toNat / 16 < 16 := by omega
          have e1 : (s[k].toNat : Int) / 16 = ((s[k].toNat / 16 : Nat) : Int) := by omega
          have e2 : (s[k].toNat : Int) % 16 = ((s[k].toNat % 16 : Nat) : Int) := by omega
          have H1 := Lib.hid (rHex (s[k].toNat / 16) hhi)
          have H2 := Lib.hid (rHex (s[k].toNat % 16) hlo)
          have E1 := Lib.hid e1
          have E2 := Lib.hid e2
          have h3 : (s[k].toNat : Int) < 32 ∨ (¬ (s[k].toNat : Int) < 32 ∧ 126 < (s[k].toNat : Int)) := by omega
          clear h2 e1 e2
          rcases h3 with h3 | ⟨h3, h4⟩
          all_goals
            have tk1 : True := trivial
            go_wp2_with (first
              | (go_at_call 97; have _t := tk1; clear tk1; (rw [E1.out]); refine (H1.out _).mono ?_; rintro e w' ⟨rfl, rfl⟩; have tk2 : True := trivial)
              | (go_at_call 97; have _t := tk2; clear tk2; (rw [E2.out]); refine (H2.out _).mono ?_; rintro e w' ⟨rfl, rfl⟩)
              | (at_builtin; refine wpList_append_own_at _ rfl _ _ 45 rfl w.heap.size 5 i0 _ 1 1 Tryz.underlying45 hi hz0 hz1 hz2 rfl (by decide) _ q.length (bc q) rfl (Hown.out.alloc _) ⟨wr.heap.size, 0, none⟩ 4 4 [.int .u8 92, .int .u8 120, .int .u8 ((hexAt (s[k].toNat / 16)).toNat : Int), .int .u8 ((hexAt (s[k].toNat % 16)).toNat : Int)] rfl rfl (cells_new _ _ _) (by simp [Value.oneCell']) (HL 4 (by omega)).1 (HL 4 (by omega)).2 (Nat.le_trans Hb.out.size (by simp)) ?_; intro v1 w1 hown1 hgr1 _ _))
            refine ⟨⟨k + 1, by omega, by go_num, by rw [HQ.out]; exact ownB_add (m := 4) rfl hown1, below_app (Hb.out.alloc Hb.out.size _) (Hown.out.alloc _) hgr1 (Nat.le_refl _) (Nat.le_trans Hb.out.size (by simp))⟩, by simp [intOf]; omega⟩
        · rw [qc_one h1 h2] at HQ
          have h3 : ¬ (s[k].toNat : Int) < 32 := by omega
          have h4 : ¬ 126 < (s[k].toNat : Int) := by omega
          clear h1 h2
          go_wp2_with (at_builtin; refine wpList_append_own_at _ rfl _ _ 45 rfl w.heap.size 5 i0 _ 1 1 Tryz.underlying45 hi hz0 hz1 hz2 rfl (by decide) _ q.length (bc q) rfl (Hown.out.alloc _) ⟨wr.heap.size, 0, none⟩ 1 1 [.int .u8 (s[k].toNat : Int)] rfl rfl (cells_new _ _ _) (by simp [Value.oneCell']) (HL 1 (by omega)).1 (HL 1 (by omega)).2 (Nat.le_trans Hb.out.size (by simp)) ?_; intro v1 w1 hown1 hgr1 _ _)
          refine ⟨⟨k + 1, by omega, by go_num, by rw [HQ.out]; exact ownB_add (m := 1) rfl hown1, below_app (Hb.out.alloc Hb.out.size _) (Hown.out.alloc _) hgr1 (Nat.le_refl _) (Nat.le_trans Hb.out.size (by simp))⟩, by simp [intOf]; omega⟩
    · have hk' : k = s.size := by omega
      subst hk'
      rw [List.take_of_length_le (by simp)] at hown hql
      obtain ⟨q, hq⟩ : ∃ q, 34 :: qs s.data.toList = q := ⟨_, rfl⟩
      have hqn : q.length ≤ 8000010 := by rw [← hq, List.length_cons]; have : s.data.toList.length = s.size := by simp
                                          omega
      have HF : Hid (quoteL s.data.toList = q ++ [34]) := by show _ = _; rw [← hq]; rfl
      rw [hq] at hown
      obtain ⟨A, cap, rfl⟩ := ownB_slice hown
      have Hown := Lib.hid hown; clear hown
      have HL : ∀ m : Nat, m ≤ 4 → q.length + m ≤ maxLen ∧ (q.length + m) * 1 ≤ 140737488355328 := fun m hm => by unfold maxLen; omega
      clear hq hql hql2
      go_wp2_with (at_builtin; refine wpList_append_own_at _ rfl _ _ 45 rfl w.heap.size 5 i0 _ 1 1 Tryz.underlying45 hi hz0 hz1 hz2 rfl (by decide) _ q.length (bc q) rfl (Hown.out.alloc _) ⟨wr.heap.size, 0, none⟩ 1 1 [.int .u8 34] rfl rfl (cells_new _ _ _) (by simp [Value.oneCell']) (HL 1 (by omega)).1 (HL 1 (by omega)).2 (Nat.le_trans Hb.out.size (by simp)) ?_; intro v1 w1 hown1 hgr1 _ _; have hcv := ownB_convert (ownB_add (m := 1) (d := [34]) rfl hown1))
      go_ret
      exact ⟨ret_string (by rw [HF.out]), below_app (Hb.out.alloc Hb.out.size _) (Hown.out.alloc _) hgr1 (Nat.le_refl _) (Nat.le_trans Hb.out.size (by simp))⟩
theorem rQuote (s : ByteArray) (w : World) (hs : s.size ≤ 2000000) :
    Calls Tryz.prog 33 #[.string s] w fun e w' => e = .returned (.string ⟨(quoteL s.data.toList).toArray⟩) ∧ Below w.heap.size w w' := by
  go_enter Tryz.func33, Tryz.ntmps33; (try simp only [List.append_eq, List.cons_append, List.nil_append])
  go_wp2_with (go_at_call 73; refine (rQuote3 s _ hs).mono ?_; rintro e w1 ⟨rfl, hb⟩)
  go_ret
  exact ⟨rfl, hb⟩
theorem digs_step (m : Nat) (h : 10 ≤ m) (l : List UInt8) : Lib.decDigits (m / 10) ++ UInt8.ofNat (48 + m % 10) :: l = Lib.decDigits m ++ l := by
  rw [Lib.decDigits.eq_def m, dif_neg (by omega)]; simp
theorem digs_len (m : Nat) (h : m ≤ 9223372036854775808) : (Lib.decDigits m).length ≤ 20 := by
  have := Lib.itoa_length_le (-(m : Int)) (by omega) (by omega)
  unfold Lib.itoa at this
  split at this
  · rw [show (-(m : Int)).natAbs = m by omega] at this; simp at this; omega
  · have : m = 0 := by omega
    subst this; rw [Lib.decDigits_one (by omega)]; simp
theorem dig_u8 (m : Nat) : ((UInt8.ofNat (48 + m % 10)).toNat : Int) = 48 + ((m % 10 : Nat) : Int) := by
  have : m % 10 < 10 := by omega
  rw [UInt8.toNat_ofNat']; omega
theorem rDigitsPos (n : Nat) (w : World) (hn : n ≤ 9223372036854775807) :
    Calls Tryz.prog 74 #[.int .i64 n] w fun e w' => e = .returned (.string ⟨(Lib.decDigits n).toArray⟩) ∧ Below w.heap.size w w' := by
  have HL := Lib.hid (digs_len n (by omega))
  go_enter Tryz.func74, Tryz.ntmps74; (try simp only [List.append_eq, List.cons_append, List.nil_append])
  go_wp2
  go_loopw [0, 3, 5] (fun c v d wr => ∃ (m : Nat) (l : List UInt8), m ≤ n ∧ c = .int .i64 m ∧ v = .string ⟨l.toArray⟩ ∧ Lib.decDigits m ++ l = Lib.decDigits n ∧ (∃ x, d = x) ∧ Below w.heap.size w wr) (fun c _ _ _ => (intOf c).toNat)
  case atStart => exact ⟨n, [], Nat.le_refl _, rfl, rfl, by simp, ⟨_, rfl⟩, Below.refl _ _⟩
  case round =>
    obtain ⟨m, l, hm, rfl, rfl, hd, ⟨d, rfl⟩, hb⟩ := hrel
    have Hd := Lib.hid hd; clear hd
    have Hb := Lib.hid hb; clear hb
    have hlen : 1 + l.length ≤ 100 := by
      have h1 := HL.out
      rw [← Hd.out, List.length_append] at h1
      omega
    have hlen2 : ¬ 9223372036854775807 < 1 + l.length := by omega
    have hu := dig_u8 m
    have Hst := Lib.hid (digs_step m)
    obtain ⟨c, hc⟩ : ∃ c, UInt8.ofNat (48 + m % 10) = c := ⟨_, rfl⟩
    rw [hc] at hu Hst
    have hu2 : (c.toNat : Int) = 48 + (m : Int) % 10 := by rw [hu, ← IntWalk.up_mod (a := (m : Int)) (b := 10) (x := m) (y := 10) rfl rfl]
    have hob := one_back wr c
    have hd0 : ¬ ((m : Int) % 10 < 0) := by omega
    rw [hu2] at hob
    clear hu hlen hu2
    by_cases h10 : m < 10
    · have HE : Hid (c :: l = Lib.decDigits n) := by show _ = _; rw [← Hd.out, Lib.decDigits_one h10, ← hc, Nat.mod_eq_of_lt h10]; rfl
      have hq : (m : Int) / 10 = 0 := by omega
      clear hc
      go_wp2
      go_ret
      exact ⟨ret_string (by rw [← HE.out]; apply ByteArray.ext; simp [ByteArray.data_append]), Hb.out.alloc Hb.out.size _⟩
    · have h1 := Hst.out (by omega) l
      have H1 := Lib.hid (h1.trans Hd.out); clear h1
      have hq : ((m : Int) / 10 == 0) = false := by simp; omega
      have hq2 : ¬ (m : Int) / 10 = 0 := by omega
      clear hc
      go_wp2
      exact ⟨⟨m / 10, c :: l, by omega, by go_num, by congr 1, H1.out, ⟨_, rfl⟩, Hb.out.alloc Hb.out.size _⟩, by simp [intOf]; omega⟩
theorem rDigitsNeg (n : Nat) (w : World) (hn : n ≤ 9223372036854775808) (h1 : 1 ≤ n) :
    Calls Tryz.prog 74 #[.int .i64 (-(n : Int))] w fun e w' => e = .returned (.string ⟨(45 :: Lib.decDigits n).toArray⟩) ∧ Below w.heap.size w w' := by
  have HL := Lib.hid (digs_len n hn)
  have hneg : -(n : Int) < 0 := by omega
  go_enter Tryz.func74, Tryz.ntmps74; (try simp only [List.append_eq, List.cons_append, List.nil_append])
  go_wp2
  go_loopw [0, 3, 5] (fun c v d wr => ∃ (m : Nat) (l : List UInt8), m ≤ n ∧ 1 ≤ m ∧ c = .int .i64 (-(m : Int)) ∧ v = .string ⟨l.toArray⟩ ∧ Lib.decDigits m ++ l = Lib.decDigits n ∧ (∃ x, d = x) ∧ Below w.heap.size w wr) (fun c _ _ _ => (intOf c).natAbs)
  case atStart => exact ⟨n, [], Nat.le_refl _, h1, rfl, rfl, by simp, ⟨_, rfl⟩, Below.refl _ _⟩
  case round =>
    obtain ⟨m, l, hm, hm1, rfl, rfl, hd, ⟨d, rfl⟩, hb⟩ := hrel
    have Hd := Lib.hid hd; clear hd
    have Hb := Lib.hid hb; clear hb
    have hlen : 1 + l.length ≤ 100 := by
      have h1 := HL.out
      rw [← Hd.out, List.length_append] at h1
      omega
    have hlen2 : ¬ 9223372036854775807 < 1 + l.length := by omega
    have hlen3 : ¬ 9223372036854775807 < 1 + (1 + l.length) := by omega
    have hu := dig_u8 m
    have Hst := Lib.hid (digs_step m)
    obtain ⟨c, hc⟩ : ∃ c, UInt8.ofNat (48 + m % 10) = c := ⟨_, rfl⟩
    rw [hc] at hu Hst
    have hr : (-(m : Int)).tmod 10 = -((m % 10 : Nat) : Int) := by rw [Int.neg_tmod]; rfl
    have hq : (-(m : Int)).tdiv 10 = -((m / 10 : Nat) : Int) := by rw [Int.neg_tdiv]; rfl
    have hob := one_back wr c
    have hrl : m % 10 ≤ 9 := by omega
    have hkm : m / 10 ≤ m := by omega
    have hkl : m / 10 < m := by omega
    have hk10 : 10 ≤ m ↔ 1 ≤ m / 10 := by omega
    have hk1 : m < 10 → m % 10 = m := fun h => Nat.mod_eq_of_lt h
    generalize m % 10 = r at hr hu hc hrl hk1
    generalize hkk : m / 10 = k at hq Hst hkm hkl hk10
    have hu2 : (c.toNat : Int) = 48 + (r : Int) := hu
    rw [hu2] at hob
    clear hu hu2 hlen hkk
    have hmb : (m : Int) ≤ 9223372036854775808 := by omega
    by_cases hr0 : r = 0
    · subst hr0
      have h10 : 10 ≤ m := by
        rcases Nat.lt_or_ge m 10 with h | h
        · have := hk1 h; omega
        · exact h
      have hob2 : (convert 45 9 (.slice (some ⟨wr.heap.size, 0, none⟩) 1 1)).run Tryz.prog (wr.alloc (.cells #[.int .u8 48] 5)) = .ok (.string ⟨#[c]⟩) (wr.alloc (.cells #[.int .u8 48] 5)) := by simpa using hob
      have h1 := Hst.out h10 l
      have H1 := Lib.hid (h1.trans Hd.out); clear h1
      have hk1' : 1 ≤ k := hk10.1 h10
      have hkz : ¬ k = 0 := by omega
      have hz : (-(k : Int) == 0) = false := by simp; omega
      clear hc hk1 hob hk10 Hst
      go_wp2
      exact ⟨⟨k, c :: l, by omega, by omega, rfl, by congr 1, H1.out, ⟨_, rfl⟩, Hb.out.alloc Hb.out.size _⟩, by simp [intOf]; omega⟩
    · have hr1 : 0 < r := by omega
      have hr2 : -(r : Int) < 0 := by omega
      by_cases h10 : 10 ≤ m
      · have h1 := Hst.out h10 l
        have H1 := Lib.hid (h1.trans Hd.out); clear h1
        have hk1' : 1 ≤ k := hk10.1 h10
        have hkz : ¬ k = 0 := by omega
        have hz : (-(k : Int) == 0) = false := by simp; omega
        clear hc hk1 hk10 Hst
        go_wp2
        exact ⟨⟨k, c :: l, by omega, by omega, rfl, by congr 1, H1.out, ⟨_, rfl⟩, Hb.out.alloc Hb.out.size _⟩, by simp [intOf]; omega⟩
      · have hk0 : k = 0 := by omega
        subst hk0
        have hrm : r = m := hk1 (by omega)
        have HE : Hid (c :: l = Lib.decDigits n) := by show _ = _; rw [← Hd.out, Lib.decDigits_one (by omega), ← hc, hrm]; rfl
        clear hc hk1 hk10 Hst hrm
        go_wp2
        go_ret
        exact ⟨ret_string (by rw [← HE.out]; apply ByteArray.ext; simp [ByteArray.data_append]), Hb.out.alloc Hb.out.size _⟩
theorem rDigits (n : Int) (w : World) (hn : -9223372036854775808 ≤ n ∧ n ≤ 9223372036854775807) :
    Calls Tryz.prog 34 #[.int .i64 n] w fun e w' => e = .returned (.string ⟨(Lib.itoa n).toArray⟩) ∧ Below w.heap.size w w' := by
  go_enter Tryz.func34, Tryz.ntmps34; (try simp only [List.append_eq, List.cons_append, List.nil_append])
  by_cases h : n < 0
  · obtain ⟨m, rfl⟩ : ∃ m : Nat, n = -(m : Int) := ⟨n.natAbs, by omega⟩
    have H1 := Lib.hid (rDigitsNeg m w (by omega) (by omega))
    have HI : Hid (Lib.itoa (-(m : Int)) = 45 :: Lib.decDigits m) := by show _ = _; unfold Lib.itoa; rw [if_pos h, show (-(m : Int)).natAbs = m by omega]
    go_wp2_with (go_at_call 74; refine H1.out.mono ?_; rintro e w1 ⟨rfl, hb⟩)
    go_ret
    exact ⟨ret_string (by rw [HI.out]), hb⟩
  · obtain ⟨m, rfl⟩ : ∃ m : Nat, n = (m : Int) := ⟨n.toNat, by omega⟩
    have H1 := Lib.hid (rDigitsPos m w (by omega))
    have HI : Hid (Lib.itoa (m : Int) = Lib.decDigits m) := by show _ = _; unfold Lib.itoa; rw [if_neg h, show (m : Int).toNat = m by omega]
    go_wp2_with (go_at_call 74; refine H1.out.mono ?_; rintro e w1 ⟨rfl, hb⟩)
    go_ret
    exact ⟨ret_string (by rw [HI.out]), hb⟩
end Go.Proofs.YtpmbamfpmmdhcaaGreat
