/- The reference's lexer: Unquote. -/
import Derived.Test.YtgjeomcflapmpaaDoorRt1
namespace Go.Proofs.YtgjeomcflapmpaaDoor
open Go.RowKit
set_option linter.unusedSimpArgs false
set_option linter.unusedVariables false

set_option maxRecDepth 100000 in
theorem rTextEnd (s : ByteArray) (a : Nat) (w : World) (hs : s.size ≤ 2000000) (ha : s.size ≤ a) (ha2 : a ≤ 2000000) :
    Calls Tryd.prog 30 #[.string s, .int .i64 a] w fun e w' => e = .returned (.tuple #[.string ⟨#[]⟩, .int .i64 0, .bool false]) ∧ Below w.heap.size w w' := by
  have h1 : (s.size : Int) ≤ (a : Int) := by omega
  go_enter Tryd.func30, Tryd.ntmps30; (try simp only [List.append_eq, List.cons_append, List.nil_append])
  go_wp2_with fail
  go_ret3
  exact ⟨rfl, Below.refl _ _⟩
set_option maxRecDepth 100000 in
theorem rTextNo (s : ByteArray) (a : Nat) (w : World) (hs : s.size ≤ 2000000) (ha : a < s.size) (hq : s[a] ≠ 34) :
    Calls Tryd.prog 30 #[.string s, .int .i64 a] w fun e w' => e = .returned (.tuple #[.string ⟨#[]⟩, .int .i64 0, .bool false]) ∧ Below w.heap.size w w' := by
  have h1 : ¬ (s.size : Int) ≤ (a : Int) := by omega
  have h2 : ((s[a].toNat : Int) == 34) = false := u8ne (n := 34) (by omega) hq
  have h3 : ((s[a].toNat : Int) != 34) = true := by simp only [bne, h2]; rfl
  clear hq
  go_enter Tryd.func30, Tryd.ntmps30; (try simp only [List.append_eq, List.cons_append, List.nil_append])
  go_wp2_with fail
  go_ret3
  exact ⟨rfl, Below.refl _ _⟩

/-- What the reference's text tells of a whole string. -/
theorem rText0 (s : ByteArray) (hs : s.size ≤ 2000000) : ∃ (x : ByteArray) (n : Int) (ok : Bool), (∀ w, Calls Tryd.prog 30 #[.string s, .int .i64 0] w fun e w' => e = .returned (.tuple #[.string x, .int .i64 n, .bool ok]) ∧ Below w.heap.size w w') ∧
    unqV (unq s) = if ok = true ∧ n = s.size then .tuple #[.string x, .bool true] else .tuple #[.string ⟨#[]⟩, .bool false] := by
  by_cases h0 : 0 < s.size
  · by_cases hq : s[0] = 34
    · have hh : headIs (· == 34) (sl s 0) = true := by rw [headIs_at h0, hq]; rfl
      have h := fun w => rText5B s 0 w hs h0 hq
      unfold txt5 at h
      simp only [Nat.zero_add, Int.cast_ofNat_Int] at h
      cases ht : textAt (sl s 1) with
      | none =>
        rw [ht] at h
        refine ⟨⟨#[]⟩, 0, false, h, ?_⟩
        unfold unq textR
        rw [hh, ht]; rfl
      | some y =>
        obtain ⟨x, n⟩ := y
        rw [ht] at h
        refine ⟨⟨x.toArray⟩, _, _, h, ?_⟩
        unfold unq textR
        rw [hh, ht]
        by_cases h64 : x.length ≤ 64
        · by_cases hn : 1 + n = s.size
          · have h1 : ((1 + n : Nat) : Int) = (s.size : Int) := by omega
            have h2 : (x.length : Int) ≤ 64 := by omega
            have h3 : n + 1 = s.size := by omega
            simp [h64, h1, h2, h3, unqV]
          · have h1 : ¬ ((1 + n : Nat) : Int) = (s.size : Int) := by omega
            have h3 : ¬ n + 1 = s.size := by omega
            simp only [h1, and_false, if_false]
            simp [h64, h3, unqV]
        · have h2 : ¬ (x.length : Int) ≤ 64 := by omega
          simp [h64, h2, unqV]
    · refine ⟨⟨#[]⟩, 0, false, fun w => rTextNo s 0 w hs h0 hq, ?_⟩
      have hh : headIs (· == 34) (sl s 0) = false := by rw [headIs_at h0]; simp [hq]
      unfold unq
      rw [hh]; rfl
  · refine ⟨⟨#[]⟩, 0, false, fun w => rTextEnd s 0 w hs (by omega) (by omega), ?_⟩
    have hh : headIs (· == 34) (sl s 0) = false := headIs_end (by omega)
    unfold unq
    rw [hh]; rfl

theorem rUnquote (s : ByteArray) (w : World) (hs : s.size ≤ 2000000) : Calls Tryd.prog 12 #[.string s] w fun e w' => e = .returned (unqV (unq s)) ∧ Below w.heap.size w w' := by
  obtain ⟨x, n, ok, h, hu⟩ := rText0 s hs
  rw [hu]
  have Ht := Lib.hid h
  clear h hu
  cases ok with
  | false =>
    rw [if_neg (by simp)]
    go_enter Tryd.func12, Tryd.ntmps12; (try simp only [List.append_eq, List.cons_append, List.nil_append])
    go_wp2_with (go_at_call 30; refine (Ht.out _).mono ?_; rintro e w1 ⟨rfl, hb⟩; have HB := Lib.hid hb; clear hb)
    go_ret2
    exact ⟨rfl, HB.out⟩
  | true =>
    by_cases hn : n = s.size
    · rw [if_pos ⟨rfl, hn⟩]
      have h1 : (n == (s.size : Int)) = true := by simpa using hn
      clear hn
      go_enter Tryd.func12, Tryd.ntmps12; (try simp only [List.append_eq, List.cons_append, List.nil_append])
      go_wp2_with (go_at_call 30; refine (Ht.out _).mono ?_; rintro e w1 ⟨rfl, hb⟩; have HB := Lib.hid hb; clear hb)
      go_ret2
      exact ⟨rfl, HB.out⟩
    · rw [if_neg (by simp [hn])]
      have h1 : (n == (s.size : Int)) = false := by simpa using hn
      clear hn
      go_enter Tryd.func12, Tryd.ntmps12; (try simp only [List.append_eq, List.cons_append, List.nil_append])
      go_wp2_with (go_at_call 30; refine (Ht.out _).mono ?_; rintro e w1 ⟨rfl, hb⟩; have HB := Lib.hid hb; clear hb)
      go_ret2
      exact ⟨rfl, HB.out⟩
end Go.Proofs.YtgjeomcflapmpaaDoor
