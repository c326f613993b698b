/- label.Check, Get, takes, Takes: what they compute. -/
import Derived.Test.YtkheeiipkdeihaaLa0
namespace Go.Proofs.Ytkheeiipkdeihaa
open Go.RowKit
set_option linter.unusedSimpArgs false
set_option linter.unusedVariables false

theorem sle_yes {a b : ByteArray} (h : Op.bytesLess a.toList b.toList = true ∨ a.toList = b.toList) : sless b a = false := sle_true (h.imp id fun h => by simpa using h)
theorem sle_no {a b : ByteArray} (h : Op.bytesLess a.toList b.toList = false ∧ ¬a.toList = b.toList) : sless b a = true := sle_false ⟨h.1, by simpa using h.2⟩
theorem txt_none {s : ByteArray} (h : s.toList.isEmpty = true) : s.size < 1 := by
  rw [ByteArray.toList_eq] at h
  obtain ⟨⟨l⟩⟩ := s
  cases l with
  | nil => decide
  | cons x l => simp at h
theorem txt_some {s : ByteArray} (h : s.toList.isEmpty = false) : 1 ≤ s.size := by
  rw [ByteArray.toList_eq] at h
  obtain ⟨⟨l⟩⟩ := s
  cases l with
  | nil => simp at h
  | cons x l => simp [ByteArray.size]
set_option maxHeartbeats 1000000 in
theorem lCheck (l : List Lab) (v : Value) (n : Nat) (w : World) (hn : n ≤ w.heap.size) (h : IsLabs n w v l) :
    Calls Try.prog 39 #[v] w fun e w' => e = .returned (.int .i64 (checkL l)) ∧ Below w.heap.size w w' := by
  obtain ⟨p, cap, rfl, _, _, hl⟩ := h.open
  unfold maxLen at hl
  go_enter Try.func39, Try.ntmps39; (try simp only [List.append_eq, List.cons_append, List.nil_append])
  by_cases h8 : 8 < l.length
  · go_wp2
    go_ret
    exact ⟨ret_int (checkL_long h8).symm, Below.refl _ _⟩
  · go_wp2
    go_loopw [3, 11] (fun s i wr => ∃ k : Nat, k ≤ l.length ∧ i = .int .i64 k ∧ s = .string (lastN ByteArray.empty (l.take k)) ∧ rising ByteArray.empty (l.take k) = true ∧ Below w.heap.size w wr) (fun _ i _ => l.length - (intOf i).toNat)
    case atStart => exact ⟨0, Nat.zero_le _, rfl, rfl, rfl, Below.refl _ _⟩
    case round =>
      obtain ⟨k, hk, rfl, rfl, hr, hb⟩ := hrel
      have Hr := Lib.hid hr; clear hr
      have Hb := Lib.hid hb; clear hb
      by_cases hlt : k < l.length
      · have hstep := Lib.hid (lastN_step hlt)
        have hgood := fun h1 h2 => rising_step Hr.out hlt h1 h2
        have hbad := fun hx => checkL_bad h8 (rising_bad hlt hx)
        have Hgood := Lib.hid hgood; clear hgood
        have Hbad := Lib.hid hbad; clear hbad
        obtain ⟨last, hlast⟩ : ∃ s, lastN ByteArray.empty (l.take k) = s := ⟨_, rfl⟩
        rw [hlast] at Hgood Hbad ⊢
        clear hlast
        obtain ⟨b, off, rfl, hbn, h1, h2, hs1, hs2⟩ := (h.mono (Hb.out.mono hn) (Nat.le_refl _)).get hlt
        obtain ⟨x, hx⟩ : ∃ x, l[k] = x := ⟨_, rfl⟩
        rw [hx] at Hgood Hbad hstep h1 h2 hs1 hs2
        clear hx
        have Hh := Lib.hid h; clear h
        have Hs1 := Lib.hid hs1; clear hs1
        unfold maxLen at hs2
        go_wp2_with (go_at_call 38; refine (lName _ _ Hs1.out).mono ?_; rintro e w' ⟨rfl, rfl⟩)
        · go_ret
          exact ⟨ret_int (Eq.symm (Hbad.out (.inl (labB_name (by assumption))))), Hb.out.alloc Hb.out.size _⟩
        · go_ret
          exact ⟨ret_int (Eq.symm (Hbad.out (.inr (sle_yes (by assumption))))), Hb.out.alloc Hb.out.size _⟩
        · go_ret
          exact ⟨ret_int (Eq.symm (Hbad.out (.inl (labB_text (.inl (txt_none (by assumption))))))), Hb.out.alloc Hb.out.size _⟩
        · go_ret
          exact ⟨ret_int (Eq.symm (Hbad.out (.inl (labB_text (.inr (by omega)))))), Hb.out.alloc Hb.out.size _⟩
        · exact ⟨⟨k + 1, by omega, by go_num, by rw [hstep.out], Hgood.out (labB_ok (by assumption) (txt_some (by assumption)) (by omega)) (sle_no (by assumption)), Hb.out.alloc Hb.out.size _⟩, by simp [intOf]; omega⟩
      · go_wp2
        go_ret
        rw [List.take_of_length_le (by omega)] at Hr
        exact ⟨ret_int (checkL_ok h8 Hr.out).symm, Hb.out⟩
end Go.Proofs.Ytkheeiipkdeihaa
