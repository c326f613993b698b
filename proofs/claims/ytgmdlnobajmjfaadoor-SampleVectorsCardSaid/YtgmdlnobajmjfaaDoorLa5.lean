/- label.quoted: a text in quotes. -/
import Derived.Test.YtgmdlnobajmjfaaDoorShBl
import Derived.Test.YtgmdlnobajmjfaaDoorShelf
import Derived.Test.YtgmdlnobajmjfaaDoorLa0
import Derived.Test.YtgmdlnobajmjfaaDoorQt0
import Derived.Deep.RegionHeld3
import Derived.Deep.CutRange
namespace Go.Proofs.YtgmdlnobajmjfaaDoor
open Go.RowKit
set_option linter.unusedSimpArgs false
set_option linter.unusedVariables false

set_option maxRecDepth 100000 in
set_option maxHeartbeats 2000000 in
theorem lQuoted (s : ByteArray) (w : World) (hs : s.size ≤ 1000000) :
    Calls Tryd.prog 56 #[.string s] w fun e w' => e = .returned (.string ⟨(quoteL s.data.toList).toArray⟩) ∧ Below w.heap.size w w' := by
  have HW := Lib.hid (fun (l : List UInt8) (c : UInt8) (v : Int) (hv : v = (c.toNat : Int)) X (h : Lib.IsBuilder 60 5 w.heap.size w.heap.size (Lib.byteCells l) X) (hl : l.length ≤ 10000000) (hX : w.heap.size ≤ X.heap.size) =>
    show Calls Tryd.prog 40 #[.pointer (some ⟨w.heap.size, 0, none⟩), .int .u8 v] X (fun e w' => e = .returned .nilIface ∧ Lib.IsBuilder 60 5 w.heap.size w.heap.size (Lib.byteCells (l ++ [c])) w' ∧ Below w.heap.size X w') from
    (Tryd.bWriteByte w.heap.size w.heap.size (Lib.byteCells l) v X h (by simp [Lib.byteCells]; omega) hX).mono fun e w' ⟨h1, h2, h3⟩ => ⟨h1, by rw [Lib.byteCells_append]; subst hv; exact .inr h2, h3⟩)
  have HWS := Lib.hid (fun (l : List UInt8) (u : ByteArray) X (h : Lib.IsBuilder 60 5 w.heap.size w.heap.size (Lib.byteCells l) X) (hl : l.length + u.size ≤ 10000000) (hX : w.heap.size ≤ X.heap.size) =>
    show Calls Tryd.prog 38 #[.pointer (some ⟨w.heap.size, 0, none⟩), .string u] X (fun e w' => e = .returned (.tuple #[.int .i64 u.size, .nilIface]) ∧ Lib.IsBuilder 60 5 w.heap.size w.heap.size (Lib.byteCells (l ++ u.data.toList)) w' ∧ Below w.heap.size X w') from
    (Tryd.bWriteString w.heap.size w.heap.size (Lib.byteCells l) u X h (by simp [Lib.byteCells]; omega) hX).mono fun e w' ⟨h1, h2, h3⟩ => ⟨h1, by rw [Lib.byteCells_append, ← Lib.strCells_eq]; exact .inr h2, h3⟩)
  go_enter Tryd.func56, Tryd.ntmps56; (try simp only [List.append_eq, List.cons_append, List.nil_append])
  go_upto_region 2 with fail
  have h0 : Lib.IsBuilder 60 5 w.heap.size w.heap.size (Lib.byteCells []) (w.alloc (.cells #[.pointer none, .slice none 0 0] 60)) :=
    .inl ⟨Nat.le_refl _, _, World.alloc_heap_new w _, World.ownsRow_nil _ _ _ _, by simp [Value.ownBlock]⟩
  have H0 := Lib.hid h0; clear h0
  go_upto_region 4 with (go_at_call 40; refine (HW.out [] 34 _ rfl _ H0.out (by simp) (by simp)).mono ?_; rintro e w1 ⟨rfl, hbd, hb⟩; have HB := Lib.hid hbd; have HL := Lib.hid (((Below.refl _ _).alloc (Nat.le_refl _) _).trans hb); clear hbd hb)
  have HB0 := HB; have HL0 := HL; clear HB HL H0
  go_loopw [9] (fun i wr => ∃ k : Nat, k ≤ s.size ∧ i = .int .i64 k ∧ Lib.IsBuilder 60 5 w.heap.size w.heap.size (Lib.byteCells (34 :: qs (s.data.toList.take k))) wr ∧ Below w.heap.size w wr) (fun i _ => s.size - (intOf i).toNat)
  case atStart => exact ⟨0, Nat.zero_le _, rfl, by simpa [qs] using HB0.out, HL0.out⟩
  case round =>
    obtain ⟨k, hk, rfl, hbd, hb⟩ := hrel
    have HB := Lib.hid hbd; clear hbd
    have HL := Lib.hid hb; clear hb
    have hsz := HL.out.size
    have hql := qs_length (s.data.toList.take k)
    have hql2 : (s.data.toList.take k).length ≤ k := List.length_take_le _ _
    by_cases hlt : k < s.size
    · have hsn : qs (s.data.toList.take (k + 1)) = qs (s.data.toList.take k) ++ qc s[k] := by rw [take_snoc' s k hlt, qs_snoc]
      have Hsn := Lib.hid hsn; clear hsn
      obtain ⟨q, hq⟩ : ∃ q, qs (s.data.toList.take k) = q := ⟨_, rfl⟩
      rw [hq] at HB Hsn hql
      clear hq
      have hL : q.length ≤ 9000000 := by omega
      have hL2 : (34 :: q).length + (⟨#[92, 120]⟩ : ByteArray).size ≤ 10000000 := by have e : (⟨#[92, 120]⟩ : ByteArray).size = 2 := rfl; rw [e, List.length_cons]; omega
      have HL2' := Lib.hid hL2; clear hL2
      have hb255 : (s[k].toNat : Int) ≤ 255 := by have := s[k].toNat_lt; omega
      by_cases h1 : s[k].toNat = 92 ∨ s[k].toNat = 34
      · rw [qc_two h1] at Hsn
        rcases h1 with h1 | h1
        · have a1 : ((s[k].toNat : Int) == 92) = true := by simp; omega
          have a2 : (s[k].toNat : Int) = 92 := by omega
          have hc : s[k] = 92 := UInt8.toNat_inj.1 h1
          rw [hc] at Hsn
          clear hc h1
          go_upto_region 10 with (go_at_call 40; (with_reducible refine (HW.out (34 :: q) 92 92 e92 _ HB.out (bd_len q _ 1 hL (by simp) (by decide)) hsz).mono ?_); rintro e w1 ⟨rfl, hbd, hb⟩; have HB1 := Lib.hid hbd; have HL1 := Lib.hid (HL.out.trans hb); clear hbd hb; have hsz1 := HL1.out.size)
          go_wp2_with (go_at_call 40; (with_reducible refine (HW.out (34 :: q ++ [92]) 92 92 e92 _ HB1.out (bd_len q _ 2 hL (by simp) (by decide)) hsz1).mono ?_); rintro e w2 ⟨rfl, hbd, hb⟩; have HB2 := Lib.hid hbd; have HL2 := Lib.hid (HL1.out.trans hb); clear hbd hb; have hsz2 := HL2.out.size)
          exact ⟨⟨k + 1, by omega, by go_num, by rw [Hsn.out]; simpa using HB2.out, HL2.out⟩, by simp [intOf]; omega⟩
        · have a1 : ((s[k].toNat : Int) == 92) = false := by simp; omega
          have a3 : ((s[k].toNat : Int) == 34) = true := by simp; omega
          have a2 : (s[k].toNat : Int) = 34 := by omega
          have hc : s[k] = 34 := UInt8.toNat_inj.1 h1
          rw [hc] at Hsn
          clear hc h1
          go_upto_region 10 with (go_at_call 40; (with_reducible refine (HW.out (34 :: q) 92 92 e92 _ HB.out (bd_len q _ 1 hL (by simp) (by decide)) hsz).mono ?_); rintro e w1 ⟨rfl, hbd, hb⟩; have HB1 := Lib.hid hbd; have HL1 := Lib.hid (HL.out.trans hb); clear hbd hb; have hsz1 := HL1.out.size)
          go_wp2_with (go_at_call 40; (with_reducible refine (HW.out (34 :: q ++ [92]) 34 34 e34 _ HB1.out (bd_len q _ 2 hL (by simp) (by decide)) hsz1).mono ?_); rintro e w2 ⟨rfl, hbd, hb⟩; have HB2 := Lib.hid hbd; have HL2 := Lib.hid (HL1.out.trans hb); clear hbd hb; have hsz2 := HL2.out.size)
          exact ⟨⟨k + 1, by omega, by go_num, by rw [Hsn.out]; simpa using HB2.out, HL2.out⟩, by simp [intOf]; omega⟩
      · have b1 : ((s[k].toNat : Int) == 92) = false := by simp; omega
        have b2 : ((s[k].toNat : Int) == 34) = false := by simp; omega
        have a1 : ¬ (s[k].toNat : Int) = 92 := by omega
        have a2 : ¬ (s[k].toNat : Int) = 34 := by omega
        by_cases h2 : s[k].toNat < 32 ∨ 126 < s[k].toNat
        · rw [qc_four h1 h2] at Hsn
          clear h1
          rcases h2 with h2 | h2
          · have a3 : (s[k].toNat : Int) < 32 := by omega
            go_upto_region 13 with (go_at_call 38; refine (HWS.out _ ⟨#[92, 120]⟩ _ HB.out HL2'.out hsz).mono ?_; rintro e w1 ⟨rfl, hbd, hb⟩; have HB1 := Lib.hid hbd; have HL1 := Lib.hid (HL.out.trans hb); clear hbd hb; have hsz1 := HL1.out.size)
            go_upto_region 14 with (go_at_call 40; (with_reducible refine (HW.out (34 :: q ++ [92, 120]) (hexAt (s[k].toNat / 16)) _ (by rw [hex_at]) _ HB1.out (bd_len q _ 3 hL (by simp) (by decide)) hsz1).mono ?_); rintro e w2 ⟨rfl, hbd, hb⟩; have HB2 := Lib.hid hbd; have HL2 := Lib.hid (HL1.out.trans hb); clear hbd hb; have hsz2 := HL2.out.size)
            go_wp2_with (go_at_call 40; (with_reducible refine (HW.out (34 :: q ++ [92, 120] ++ [hexAt (s[k].toNat / 16)]) (hexAt (s[k].toNat % 16)) _ (by rw [hex_at]) _ HB2.out (bd_len q _ 4 hL (by simp) (by decide)) hsz2).mono ?_); rintro e w3 ⟨rfl, hbd, hb⟩; have HB3 := Lib.hid hbd; have HL3 := Lib.hid (HL2.out.trans hb); clear hbd hb; have hsz3 := HL3.out.size)
            exact ⟨⟨k + 1, by omega, by go_num, by rw [Hsn.out]; simpa using HB3.out, HL3.out⟩, by simp [intOf]; omega⟩
          · have a3 : ¬ (s[k].toNat : Int) < 32 := by omega
            have a4 : 126 < (s[k].toNat : Int) := by omega
            go_upto_region 13 with (go_at_call 38; refine (HWS.out _ ⟨#[92, 120]⟩ _ HB.out HL2'.out hsz).mono ?_; rintro e w1 ⟨rfl, hbd, hb⟩; have HB1 := Lib.hid hbd; have HL1 := Lib.hid (HL.out.trans hb); clear hbd hb; have hsz1 := HL1.out.size)
            go_upto_region 14 with (go_at_call 40; (with_reducible refine (HW.out (34 :: q ++ [92, 120]) (hexAt (s[k].toNat / 16)) _ (by rw [hex_at]) _ HB1.out (bd_len q _ 3 hL (by simp) (by decide)) hsz1).mono ?_); rintro e w2 ⟨rfl, hbd, hb⟩; have HB2 := Lib.hid hbd; have HL2 := Lib.hid (HL1.out.trans hb); clear hbd hb; have hsz2 := HL2.out.size)
            go_wp2_with (go_at_call 40; (with_reducible refine (HW.out (34 :: q ++ [92, 120] ++ [hexAt (s[k].toNat / 16)]) (hexAt (s[k].toNat % 16)) _ (by rw [hex_at]) _ HB2.out (bd_len q _ 4 hL (by simp) (by decide)) hsz2).mono ?_); rintro e w3 ⟨rfl, hbd, hb⟩; have HB3 := Lib.hid hbd; have HL3 := Lib.hid (HL2.out.trans hb); clear hbd hb; have hsz3 := HL3.out.size)
            exact ⟨⟨k + 1, by omega, by go_num, by rw [Hsn.out]; simpa using HB3.out, HL3.out⟩, by simp [intOf]; omega⟩
        · rw [qc_one h1 h2] at Hsn
          have a3 : ¬ (s[k].toNat : Int) < 32 := by omega
          have a4 : ¬ 126 < (s[k].toNat : Int) := by omega
          clear h1 h2
          go_wp2_with (go_at_call 40; (with_reducible refine (HW.out (34 :: q) s[k] _ rfl _ HB.out (bd_len q _ 1 hL (by simp) (by decide)) hsz).mono ?_); rintro e w1 ⟨rfl, hbd, hb⟩; have HB1 := Lib.hid hbd; have HL1 := Lib.hid (HL.out.trans hb); clear hbd hb; have hsz1 := HL1.out.size)
          exact ⟨⟨k + 1, by omega, by go_num, by rw [Hsn.out]; simpa using HB1.out, HL1.out⟩, by simp [intOf]; omega⟩
    · have hk' : k = s.size := by omega
      subst hk'
      have hall : s.data.toList.take s.size = s.data.toList := List.take_of_length_le (by simp)
      rw [hall] at HB hql
      clear hall
      have hL5 : (qs s.data.toList).length ≤ 9000000 := by
        have h5 : s.data.toList.length = s.size := by simp
        have h6 := qs_length s.data.toList
        omega
      have HQ : Hid (quoteL s.data.toList = 34 :: qs s.data.toList ++ [34]) := rfl
      go_upto_region 17 with (go_at_call 40; (with_reducible refine (HW.out (34 :: qs s.data.toList) 34 34 e34 _ HB.out (bd_len _ _ 1 hL5 (by simp) (by decide)) hsz).mono ?_); rintro e w1 ⟨rfl, hbd, hb⟩; have HB1 := Lib.hid hbd; have HL1 := Lib.hid (HL.out.trans hb); clear hbd hb; have hsz1 := HL1.out.size)
      go_wp2_with (go_at_call 42; refine (Tryd.Builder_String_any w.heap.size w.heap.size (34 :: qs s.data.toList ++ [34]) _ HB1.out hsz1).mono ?_; rintro e w2 ⟨rfl, hb⟩; have HL2 := Lib.hid (HL1.out.trans hb); clear hb)
      go_ret
      exact ⟨ret_string (by rw [HQ.out]; rfl), HL2.out⟩
end Go.Proofs.YtgmdlnobajmjfaaDoor
