/- lex.Unquote, lex.Word; the law's wrong and kinds. -/
import Derived.Test.YtgjeomcflapmpaaDoorLy1
import Derived.Test.YtgjeomcflapmpaaDoorLx9
namespace Go.Proofs.YtgjeomcflapmpaaDoor
open Go.RowKit
set_option linter.unusedSimpArgs false
set_option linter.unusedVariables false

def unq (s : ByteArray) : Option (List UInt8) :=
  if headIs (· == 34) (sl s 0) then (match textR (sl s 1) with
    | some (x, n) => if n = s.size then some x else none
    | none => none) else none
def unqV : Option (List UInt8) → Value
  | some x => .tuple #[.string ⟨x.toArray⟩, .bool true]
  | none => .tuple #[.string ⟨#[]⟩, .bool false]
def wordY (l : List UInt8) : Bool := headIs letC l && runN wordC l == l.length && decide (l.length ≤ 24)

set_option maxRecDepth 100000 in
theorem lUnquote (s : ByteArray) (w : World) (hs : s.size ≤ 16384) : Calls Tryd.prog 6 #[.string s] w fun e w' => e = .returned (unqV (unq s)) ∧ Below w.heap.size w w' := by
  by_cases h0 : 0 < s.size
  · have hne : (s.toList == []) = false := by
      rw [ByteArray.toList_eq]
      cases h : s.data.toList with
      | nil => have : s.data.toList.length = s.size := by simp
               rw [h] at this; simp at this; omega
      | cons c r => rfl
    by_cases hq : s[0] = 34
    · have hh : headIs (· == 34) (sl s 0) = true := by rw [headIs_at h0, hq]; rfl
      have h34 : ((s[0].toNat : Int) != 34) = false := by rw [hq]; rfl
      have Ht := Lib.hid (fun wx => lText s 0 wx hs h0)
      simp only [Int.cast_ofNat_Int, Nat.zero_add] at Ht
      cases ho : textR (sl s 1) with
      | none =>
        have Hu : Hid (unq s = none) := by show _ = _; unfold unq; rw [hh, ho]; rfl
        rw [ho] at Ht
        simp only [textV] at Ht
        clear ho hh hq
        rw [Hu.out]
        simp only [unqV]
        go_enter Tryd.func6, Tryd.ntmps6; (try simp only [List.append_eq, List.cons_append, List.nil_append])
        go_wp2_with (go_at_call 19; refine (Ht.out _).mono ?_; rintro e w1 ⟨rfl, hb⟩; have HB := Lib.hid hb; clear hb)
        go_ret2
        exact ⟨rfl, HB.out⟩
      | some y =>
        obtain ⟨x, n⟩ := y
        rw [ho] at Ht
        simp only [textV] at Ht
        by_cases hn : n = s.size
        · have Hu : Hid (unq s = some x) := by show _ = _; unfold unq; rw [hh, ho]; simp [hn]
          have hn' : ((n : Int) != (s.size : Int)) = false := by simp [hn]
          clear ho hh hq hn
          rw [Hu.out]
          simp only [unqV]
          go_enter Tryd.func6, Tryd.ntmps6; (try simp only [List.append_eq, List.cons_append, List.nil_append])
          go_wp2_with (go_at_call 19; refine (Ht.out _).mono ?_; rintro e w1 ⟨rfl, hb⟩; have HB := Lib.hid hb; clear hb)
          go_ret2
          exact ⟨rfl, HB.out⟩
        · have Hu : Hid (unq s = none) := by show _ = _; unfold unq; rw [hh, ho]; simp [hn]
          have hn' : ((n : Int) != (s.size : Int)) = true := by simp; omega
          clear ho hh hq hn
          rw [Hu.out]
          simp only [unqV]
          go_enter Tryd.func6, Tryd.ntmps6; (try simp only [List.append_eq, List.cons_append, List.nil_append])
          go_wp2_with (go_at_call 19; refine (Ht.out _).mono ?_; rintro e w1 ⟨rfl, hb⟩; have HB := Lib.hid hb; clear hb)
          go_ret2
          exact ⟨rfl, HB.out⟩
    · have hh : headIs (· == 34) (sl s 0) = false := by rw [headIs_at h0]; simpa using hq
      have h34 : ((s[0].toNat : Int) != 34) = true := by have := u8ne (n := 34) (by omega) hq; simpa using this
      have Hu : Hid (unq s = none) := by show _ = _; unfold unq; rw [hh]; rfl
      clear hq hh
      rw [Hu.out]
      simp only [unqV]
      go_enter Tryd.func6, Tryd.ntmps6; (try simp only [List.append_eq, List.cons_append, List.nil_append])
      go_wp2
      go_ret2
      exact ⟨rfl, Below.refl _ _⟩
  · have hz : s.size = 0 := by omega
    have hne : (s.toList == []) = true := by
      rw [ByteArray.toList_eq]
      have : s.data.toList.length = 0 := by simpa using hz
      rw [List.eq_nil_of_length_eq_zero this]; rfl
    have Hu : Hid (unq s = none) := by show _ = _; unfold unq; rw [headIs_end (by omega)]; rfl
    clear hz
    rw [Hu.out]
    simp only [unqV]
    go_enter Tryd.func6, Tryd.ntmps6; (try simp only [List.append_eq, List.cons_append, List.nil_append])
    go_wp2
    go_ret2
    exact ⟨rfl, Below.refl _ _⟩

set_option maxRecDepth 100000 in
theorem lWord (s : ByteArray) (w : World) (hs : s.size ≤ maxLen) : Calls Tryd.prog 13 #[.string s] w fun e w' => e = .returned (.bool (wordY (sl s 0))) ∧ w = w' := by
  have hs' := hs
  unfold maxLen at hs
  by_cases h0 : 0 < s.size
  · have hne : (s.toList == []) = false := by
      rw [ByteArray.toList_eq]
      cases h : s.data.toList with
      | nil => have : s.data.toList.length = s.size := by simp
               rw [h] at this; simp at this; omega
      | cons c r => rfl
    have Hw := Lib.hid (fun wx => lWordN s 0 wx hs' h0)
    have hle := runN_le wordC (sl s 0)
    rw [sl_length] at hle
    simp only [Int.cast_ofNat_Int] at Hw
    have Hu : Hid (wordY (sl s 0) = (letC s[0] && runN wordC (sl s 0) == s.size && decide (s.size ≤ 24))) := by
      show _ = _; unfold wordY; rw [headIs_at h0, sl_length, Nat.sub_zero]
    obtain ⟨n, hn⟩ : ∃ n, runN wordC (sl s 0) = n := ⟨_, rfl⟩
    rw [hn] at Hw Hu hle
    clear hn
    rw [Hu.out]
    generalize letC s[0] = b at *
    cases b
    all_goals simp only [Bool.false_eq_true, if_false, if_true] at Hw
    · have hne2 : ((0 : Int) == (s.size : Int)) = false := by simp; omega
      go_enter Tryd.func13, Tryd.ntmps13; (try simp only [List.append_eq, List.cons_append, List.nil_append])
      go_wp2_with (go_at_call 31; refine (Hw.out _).mono ?_; rintro e w' ⟨rfl, rfl⟩)
      go_ret
      exact ⟨ret_bool rfl, rfl⟩
    · by_cases hn : n = s.size
      · have hne2 : ((n : Int) == (s.size : Int)) = true := by simp [hn]
        have Hn := Lib.hid hn; clear hn
        go_enter Tryd.func13, Tryd.ntmps13; (try simp only [List.append_eq, List.cons_append, List.nil_append])
        go_wp2_with (go_at_call 31; refine (Hw.out _).mono ?_; rintro e w' ⟨rfl, rfl⟩)
        go_ret
        exact ⟨ret_bool (by rw [Hn.out]; simp; omega), rfl⟩
      · have hne2 : ((n : Int) == (s.size : Int)) = false := by simp; omega
        have Hn := Lib.hid hn; clear hn
        go_enter Tryd.func13, Tryd.ntmps13; (try simp only [List.append_eq, List.cons_append, List.nil_append])
        go_wp2_with (go_at_call 31; refine (Hw.out _).mono ?_; rintro e w' ⟨rfl, rfl⟩)
        go_ret
        exact ⟨ret_bool (by simp [Hn.out]), rfl⟩
  · have hz : s.size = 0 := by omega
    have hne : (s.toList == []) = true := by
      rw [ByteArray.toList_eq]
      have : s.data.toList.length = 0 := by simpa using hz
      rw [List.eq_nil_of_length_eq_zero this]; rfl
    have Hu : Hid (wordY (sl s 0) = false) := by show _ = _; unfold wordY; rw [headIs_end (by omega)]; rfl
    clear hz
    rw [Hu.out]
    go_enter Tryd.func13, Tryd.ntmps13; (try simp only [List.append_eq, List.cons_append, List.nil_append])
    go_wp2
    go_ret
    exact ⟨rfl, rfl⟩

end Go.Proofs.YtgjeomcflapmpaaDoor
