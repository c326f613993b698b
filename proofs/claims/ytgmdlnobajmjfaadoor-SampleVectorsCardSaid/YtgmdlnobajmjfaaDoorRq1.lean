/- The reference's Digits. -/
import Derived.Test.YtgmdlnobajmjfaaDoorRq0
import Derived.IntWalk
namespace Go.Proofs.YtgmdlnobajmjfaaDoor
open Go.RowKit
set_option linter.unusedSimpArgs false
set_option linter.unusedVariables false

theorem digs_step (m : Nat) (h : 10 ≤ m) (l : List UInt8) : Lib.decDigits (m / 10) ++ UInt8.ofNat (48 + m % 10) :: l = Lib.decDigits m ++ l := by
  rw [Lib.decDigits.eq_def m, dif_neg (by omega)]; simp
theorem digs_len (m : Nat) (h : m ≤ 9223372036854775808) : (Lib.decDigits m).length ≤ 20 := by
  have := Lib.itoa_length_le (-(m : Int)) (by omega) (by omega)
  unfold Lib.itoa at this
  split at this
  · rw [show (-(m : Int)).natAbs = m by omega] at this; simp at this; omega
  · have : m = 0 := by omega
    subst this; rw [Lib.decDigits_one (by omega)]; simp
theorem dig_u8 (m : Nat) : ((UInt8.ofNat (48 + m % 10)).toNat : Int) = 48 + ((m % 10 : Nat) : Int) := by
  have : m % 10 < 10 := by omega
  rw [UInt8.toNat_ofNat']; omega

set_option maxRecDepth 100000 in
set_option maxHeartbeats 4000000 in
theorem rDigitsPos (n : Nat) (w : World) (hn : n ≤ 9223372036854775807) :
    Calls Tryd.prog 44 #[.int .i64 n] w fun e w' => e = .returned (.string ⟨(Lib.decDigits n).toArray⟩) ∧ Below w.heap.size w w' := by
  have HL := Lib.hid (digs_len n (by omega))
  go_enter Tryd.func44, Tryd.ntmps44; (try simp only [List.append_eq, List.cons_append, List.nil_append])
  go_wp2
  go_loopw [0, 3, 5] (fun c v d wr => ∃ (m : Nat) (l : List UInt8), m ≤ n ∧ c = .int .i64 m ∧ v = .string ⟨l.toArray⟩ ∧ Lib.decDigits m ++ l = Lib.decDigits n ∧ (∃ x, d = x) ∧ Below w.heap.size w wr) (fun c _ _ _ => (intOf c).toNat)
  case atStart => exact ⟨n, [], Nat.le_refl _, rfl, rfl, by simp, ⟨_, rfl⟩, Below.refl _ _⟩
  case round =>
    obtain ⟨m, l, hm, rfl, rfl, hd, ⟨d, rfl⟩, hb⟩ := hrel
    have Hd := Lib.hid hd; clear hd
    have Hb := Lib.hid hb; clear hb
    have hlen : 1 + l.length ≤ 100 := by
      have h1 := HL.out
      rw [← Hd.out, List.length_append] at h1
      omega
    have hlen2 : ¬ 9223372036854775807 < 1 + l.length := by omega
    have hu := dig_u8 m
    have Hst := Lib.hid (digs_step m)
    obtain ⟨c, hc⟩ : ∃ c, UInt8.ofNat (48 + m % 10) = c := ⟨_, rfl⟩
    rw [hc] at hu Hst
    have hu2 : (c.toNat : Int) = 48 + (m : Int) % 10 := by rw [hu, ← IntWalk.up_mod (a := (m : Int)) (b := 10) (x := m) (y := 10) rfl rfl]
    have hob := one_back wr c
    have hd0 : ¬ ((m : Int) % 10 < 0) := by omega
    rw [hu2] at hob
    clear hu hlen hu2
    by_cases h10 : m < 10
    · have HE : Hid (c :: l = Lib.decDigits n) := by show _ = _; rw [← Hd.out, Lib.decDigits_one h10, ← hc, Nat.mod_eq_of_lt h10]; rfl
      have hq : (m : Int) / 10 = 0 := by omega
      clear hc
      go_wp2
      go_ret
      exact ⟨ret_string (by rw [← HE.out]; apply ByteArray.ext; simp [ByteArray.data_append]), Hb.out.alloc Hb.out.size _⟩
    · have h1 := Hst.out (by omega) l
      have H1 := Lib.hid (h1.trans Hd.out); clear h1
      have hq : ((m : Int) / 10 == 0) = false := by simp; omega
      have hq2 : ¬ (m : Int) / 10 = 0 := by omega
      clear hc
      go_wp2
      exact ⟨⟨m / 10, c :: l, by omega, by go_num, by congr 1, H1.out, ⟨_, rfl⟩, Hb.out.alloc Hb.out.size _⟩, by simp [intOf]; omega⟩

set_option maxRecDepth 100000 in
set_option maxHeartbeats 4000000 in
theorem rDigitsNeg (n : Nat) (w : World) (hn : n ≤ 9223372036854775808) (h1 : 1 ≤ n) :
    Calls Tryd.prog 44 #[.int .i64 (-(n : Int))] w fun e w' => e = .returned (.string ⟨(45 :: Lib.decDigits n).toArray⟩) ∧ Below w.heap.size w w' := by
  have HL := Lib.hid (digs_len n hn)
  have hneg : -(n : Int) < 0 := by omega
  go_enter Tryd.func44, Tryd.ntmps44; (try simp only [List.append_eq, List.cons_append, List.nil_append])
  go_wp2
  go_loopw [0, 3, 5] (fun c v d wr => ∃ (m : Nat) (l : List UInt8), m ≤ n ∧ 1 ≤ m ∧ c = .int .i64 (-(m : Int)) ∧ v = .string ⟨l.toArray⟩ ∧ Lib.decDigits m ++ l = Lib.decDigits n ∧ (∃ x, d = x) ∧ Below w.heap.size w wr) (fun c _ _ _ => (intOf c).natAbs)
  case atStart => exact ⟨n, [], Nat.le_refl _, h1, rfl, rfl, by simp, ⟨_, rfl⟩, Below.refl _ _⟩
  case round =>
    obtain ⟨m, l, hm, hm1, rfl, rfl, hd, ⟨d, rfl⟩, hb⟩ := hrel
    have Hd := Lib.hid hd; clear hd
    have Hb := Lib.hid hb; clear hb
    have hlen : 1 + l.length ≤ 100 := by
      have h1 := HL.out
      rw [← Hd.out, List.length_append] at h1
      omega
    have hlen2 : ¬ 9223372036854775807 < 1 + l.length := by omega
    have hlen3 : ¬ 9223372036854775807 < 1 + (1 + l.length) := by omega
    have hu := dig_u8 m
    have Hst := Lib.hid (digs_step m)
    obtain ⟨c, hc⟩ : ∃ c, UInt8.ofNat (48 + m % 10) = c := ⟨_, rfl⟩
    rw [hc] at hu Hst
    have hr : (-(m : Int)).tmod 10 = -((m % 10 : Nat) : Int) := by rw [Int.neg_tmod]; rfl
    have hq : (-(m : Int)).tdiv 10 = -((m / 10 : Nat) : Int) := by rw [Int.neg_tdiv]; rfl
    have hob := one_back wr c
    have hrl : m % 10 ≤ 9 := by omega
    have hkm : m / 10 ≤ m := by omega
    have hkl : m / 10 < m := by omega
    have hk10 : 10 ≤ m ↔ 1 ≤ m / 10 := by omega
    have hk1 : m < 10 → m % 10 = m := fun h => Nat.mod_eq_of_lt h
    generalize m % 10 = r at hr hu hc hrl hk1
    generalize hkk : m / 10 = k at hq Hst hkm hkl hk10
    have hu2 : (c.toNat : Int) = 48 + (r : Int) := hu
    rw [hu2] at hob
    clear hu hu2 hlen hkk
    have hmb : (m : Int) ≤ 9223372036854775808 := by omega
    by_cases hr0 : r = 0
    · subst hr0
      have h10 : 10 ≤ m := by
        rcases Nat.lt_or_ge m 10 with h | h
        · have := hk1 h; omega
        · exact h
      have hob2 : (convert 58 9 (.slice (some ⟨wr.heap.size, 0, none⟩) 1 1)).run Tryd.prog (wr.alloc (.cells #[.int .u8 48] 5)) = .ok (.string ⟨#[c]⟩) (wr.alloc (.cells #[.int .u8 48] 5)) := by simpa using hob
      have h1 := Hst.out h10 l
      have H1 := Lib.hid (h1.trans Hd.out); clear h1
      have hk1' : 1 ≤ k := hk10.1 h10
      have hkz : ¬ k = 0 := by omega
      have hz : (-(k : Int) == 0) = false := by simp; omega
      clear hc hk1 hob hk10 Hst
      go_wp2
      exact ⟨⟨k, c :: l, by omega, by omega, rfl, by congr 1, H1.out, ⟨_, rfl⟩, Hb.out.alloc Hb.out.size _⟩, by simp [intOf]; omega⟩
    · have hr1 : 0 < r := by omega
      have hr2 : -(r : Int) < 0 := by omega
      by_cases h10 : 10 ≤ m
      · have h1 := Hst.out h10 l
        have H1 := Lib.hid (h1.trans Hd.out); clear h1
        have hk1' : 1 ≤ k := hk10.1 h10
        have hkz : ¬ k = 0 := by omega
        have hz : (-(k : Int) == 0) = false := by simp; omega
        clear hc hk1 hk10 Hst
        go_wp2
        exact ⟨⟨k, c :: l, by omega, by omega, rfl, by congr 1, H1.out, ⟨_, rfl⟩, Hb.out.alloc Hb.out.size _⟩, by simp [intOf]; omega⟩
      · have hk0 : k = 0 := by omega
        subst hk0
        have hrm : r = m := hk1 (by omega)
        have HE : Hid (c :: l = Lib.decDigits n) := by show _ = _; rw [← Hd.out, Lib.decDigits_one (by omega), ← hc, hrm]; rfl
        clear hc hk1 hk10 Hst hrm
        go_wp2
        go_ret
        exact ⟨ret_string (by rw [← HE.out]; apply ByteArray.ext; simp [ByteArray.data_append]), Hb.out.alloc Hb.out.size _⟩
end Go.Proofs.YtgmdlnobajmjfaaDoor
