/- LexNames: the walk. -/
import Derived.Test.YtgjeomcflapmpaaLy4
namespace Go.Proofs.Ytgjeomcflapmpaa
open Go.RowKit
set_option linter.unusedSimpArgs false
set_option linter.unusedVariables false

theorem litN : lexAll ⟨#[45, 50]⟩ = ((lexAll ⟨#[45, 50]⟩).1, 0, 0) ∧ (lexAll ⟨#[45, 50]⟩).1.length = 2 ∧ (lexAll ⟨#[45, 50]⟩).1[0]?.map Tok.num = some (-2) := by decide +kernel
theorem litU : unq ⟨#[34, 92, 120, 48, 97, 34]⟩ = some [10] := by decide +kernel
theorem litW1 : lexAll ⟨#[48, 48, 55]⟩ = ([], 13, ((0 : Nat) : Int)) := by decide +kernel
theorem litW2 : lexAll ⟨#[34, 97]⟩ = ([], 13, ((0 : Nat) : Int)) := by decide +kernel
theorem litW3 : lexAll ⟨#[49, 97]⟩ = ([], 13, ((0 : Nat) : Int)) := by decide +kernel
theorem litW4 : lexAll ⟨#[97, 32, 38]⟩ = ([], 13, ((2 : Nat) : Int)) := by decide +kernel
theorem litV1 : wordS (sl ⟨#[97, 95, 49]⟩ 0) = true := by decide +kernel
theorem litV2 : wordS (sl ⟨#[65]⟩ 0) = false := by decide +kernel
theorem wordOf {s : ByteArray} {b : Bool} (h : wordS (sl s 0) = b) (hs : s.size ≤ maxLen) (w : World) : Calls Try.prog 10 #[.string s] w fun e w' => e = .returned (.bool b) ∧ w = w' := by
  subst h; exact lWord s w hs
theorem unqOf {s : ByteArray} {x : List UInt8} (h : unq s = some x) (hs : s.size ≤ 16384) (w : World) : Calls Try.prog 8 #[.string s] w fun e w' => e = .returned (.tuple #[.string ⟨x.toArray⟩, .bool true]) ∧ Below w.heap.size w w' := by
  have := lUnquote s w hs
  rwa [h] at this

set_option maxRecDepth 100000 in
set_option maxHeartbeats 2000000 in
theorem wNames (w : World) : Calls Try.prog 4 #[] w fun e w' => e = .returned (.bool true) ∧ Below w.heap.size w w' := by
  have HA := Lib.hid (fun wx => allLit 2 litN.1 litN.2.1 (by unfold maxLen; decide +kernel) wx)
  have HU := Lib.hid (fun wx => unqOf litU (by decide +kernel) wx)
  have HL := Lib.hid (fun wx => lLives wx)
  have H1 := Lib.hid (fun wx => lWrong _ _ wx (by unfold maxLen; decide +kernel) litW1)
  have H2 := Lib.hid (fun wx => lWrong _ _ wx (by unfold maxLen; decide +kernel) litW2)
  have H3 := Lib.hid (fun wx => lWrong _ _ wx (by unfold maxLen; decide +kernel) litW3)
  have H4 := Lib.hid (fun wx => lWrong _ _ wx (by unfold maxLen; decide +kernel) litW4)
  have HV1 := Lib.hid (fun wx => wordOf litV1 (by unfold maxLen; decide +kernel) wx)
  have HV2 := Lib.hid (fun wx => wordOf litV2 (by unfold maxLen; decide +kernel) wx)
  simp only [Int.cast_ofNat_Int] at H1 H2 H3 H4
  have HN := Lib.hid litN
  go_enter Try.func4, Try.ntmps4; (try simp only [List.append_eq, List.cons_append, List.nil_append])
  go_wp2_with (first
    | (go_at_call 6; refine (HA.out _).mono ?_; rintro e w1 ⟨p, cap, rfl, ho, hb⟩; have HT := Lib.hid (ho.toks (Nat.le_refl _)); clear ho; obtain ⟨b, off, rfl, hbn, -, -, h3, -⟩ := HT.out.get (k := 0) (by have := HN.out.2.1; omega); have e3 : ((lexAll ⟨#[45, 50]⟩).1[0]'(by have := HN.out.2.1; omega)).num = -2 := by { have := HN.out.2.2; rw [List.getElem?_eq_getElem (by have := HN.out.2.1; omega)] at this; simpa using this }; rw [e3] at h3; clear e3; have HB := Lib.hid hb; clear hb; simp only [Nat.zero_mul, Nat.add_zero] at h3; have HX3 := Lib.hid h3; clear h3; have HC := Lib.hid (Below.refl w1.heap.size w1))
    | (go_at_call 8; refine (HU.out _).mono ?_; rintro e w2 ⟨rfl, hb2⟩; have HC := Lib.hid ((HC.out.alloc (Nat.le_refl _) (.cells #[.int .i64 0, .int .i64 0] 26)).trans (hb2.mono (by simp))); have HB := Lib.hid ((HB.out.alloc (by have := HB.out.size; omega) _).trans (hb2.mono (by have := HB.out.size; simp; omega))); clear hb2)
    | (go_at_call 5; refine (HL.out _).mono ?_; rintro e w3 ⟨rfl, hb2⟩; have HC := Lib.hid (HC.out.trans (hb2.mono (by have := HC.out.size; omega))); have h3 := (HC.out.cell (p := ⟨b, off + 2, none⟩) hbn).trans HX3.out; have HB := Lib.hid ((HB.out).trans (hb2.mono (by have := HB.out.size; omega))); clear hb2)
    | (go_at_call 9; (first | (with_reducible refine (H1.out _).mono ?_) | (with_reducible refine (H2.out _).mono ?_) | (with_reducible refine (H3.out _).mono ?_) | (with_reducible refine (H4.out _).mono ?_)); rintro e w4 ⟨rfl, hb2⟩; have HB := Lib.hid ((HB.out).trans (hb2.mono (by have := HB.out.size; omega))); clear hb2)
    | (go_at_call 10; (first | (with_reducible refine (HV1.out _).mono ?_) | (with_reducible refine (HV2.out _).mono ?_)); rintro e w' ⟨rfl, rfl⟩))
  go_ret
  exact ⟨rfl, HB.out⟩

end Go.Proofs.Ytgjeomcflapmpaa
