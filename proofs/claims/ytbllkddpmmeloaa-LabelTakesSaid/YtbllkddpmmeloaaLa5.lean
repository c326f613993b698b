/- label.quoted: a text in quotes. -/
import Derived.Test.YtbllkddpmmeloaaShBl
import Derived.Test.YtbllkddpmmeloaaShelf
import Derived.Test.YtbllkddpmmeloaaLa0
import Derived.Deep.RegionHeld3
import Derived.Deep.CutRange
namespace Go.Proofs.Ytbllkddpmmeloaa
open Go.RowKit
set_option linter.unusedSimpArgs false
set_option linter.unusedVariables false

/-- The digits of sixteen. -/
def signsL : List UInt8 := [48, 49, 50, 51, 52, 53, 54, 55, 56, 57, 97, 98, 99, 100, 101, 102]
def hexAt (n : Nat) : UInt8 := signsL.getD n 0
/-- A byte as it stands in quotes. -/
def qc (c : UInt8) : List UInt8 := if c = 92 ∨ c = 34 then [92, c] else if c < 32 ∨ 126 < c then [92, 120, hexAt (c.toNat / 16), hexAt (c.toNat % 16)] else [c]
def qs (l : List UInt8) : List UInt8 := l.flatMap qc
def quoteL (l : List UInt8) : List UInt8 := 34 :: qs l ++ [34]
theorem qs_snoc (l : List UInt8) (c : UInt8) : qs (l ++ [c]) = qs l ++ qc c := by simp [qs]
theorem qc_length (c : UInt8) : 1 ≤ (qc c).length ∧ (qc c).length ≤ 4 := by unfold qc; (repeat' split) <;> simp
theorem qs_length (l : List UInt8) : (qs l).length ≤ 4 * l.length := by
  induction l with
  | nil => simp [qs]
  | cons c l ih => have := (qc_length c).2; simp only [qs, List.flatMap_cons, List.length_append, List.length_cons] at *; omega
theorem bd_len (q l : List UInt8) (e : Nat) (h : q.length ≤ 9000000) (hl : l.length = q.length + e) (he : e ≤ 100) : l.length ≤ 10000000 := by omega
theorem e92 : (92 : Int) = ((92 : UInt8).toNat : Int) := rfl
theorem e34 : (34 : Int) = ((34 : UInt8).toNat : Int) := rfl
theorem hex_at (n : Nat) (h : n < (⟨#[48, 49, 50, 51, 52, 53, 54, 55, 56, 57, 97, 98, 99, 100, 101, 102]⟩ : ByteArray).size) : (⟨#[48, 49, 50, 51, 52, 53, 54, 55, 56, 57, 97, 98, 99, 100, 101, 102]⟩ : ByteArray)[n] = hexAt n := by
  have h' : n < signsL.length := h
  unfold hexAt
  rw [List.getD_eq_getElem?_getD, List.getElem?_eq_getElem h', Option.getD_some]
  rfl
theorem qc_two {c : UInt8} (h : c.toNat = 92 ∨ c.toNat = 34) : qc c = [92, c] := by
  unfold qc; rw [if_pos]
  rcases h with h | h
  · left; exact UInt8.toNat_inj.1 h
  · right; exact UInt8.toNat_inj.1 h
theorem qc_four {c : UInt8} (h : ¬ (c.toNat = 92 ∨ c.toNat = 34)) (h2 : c.toNat < 32 ∨ 126 < c.toNat) : qc c = [92, 120, hexAt (c.toNat / 16), hexAt (c.toNat % 16)] := by
  unfold qc
  rw [if_neg (by rintro (rfl | rfl) <;> exact h (by decide)), if_pos]
  rcases h2 with h2 | h2
  · left; exact UInt8.lt_iff_toNat_lt.2 h2
  · right; exact UInt8.lt_iff_toNat_lt.2 h2
theorem qc_one {c : UInt8} (h : ¬ (c.toNat = 92 ∨ c.toNat = 34)) (h2 : ¬ (c.toNat < 32 ∨ 126 < c.toNat)) : qc c = [c] := by
  unfold qc
  rw [if_neg (by rintro (rfl | rfl) <;> exact h (by decide)), if_neg]
  rintro (h3 | h3)
  · exact h2 (.inl (UInt8.lt_iff_toNat_lt.1 h3))
  · exact h2 (.inr (UInt8.lt_iff_toNat_lt.1 h3))
theorem take_snoc' (s : ByteArray) (k : Nat) (h : k < s.size) : s.data.toList.take (k + 1) = s.data.toList.take k ++ [s[k]] := by
  rw [List.take_succ_eq_append_getElem (by simpa using h)]; rfl

set_option maxRecDepth 100000 in
set_option maxHeartbeats 2000000 in
theorem lQuoted (s : ByteArray) (w : World) (hs : s.size ≤ 1000000) :
    Calls Try.prog 24 #[.string s] w fun e w' => e = .returned (.string ⟨(quoteL s.data.toList).toArray⟩) ∧ Below w.heap.size w w' := by
  have HW := Lib.hid (fun (l : List UInt8) (c : UInt8) (v : Int) (hv : v = (c.toNat : Int)) X (h : Lib.IsBuilder 61 5 w.heap.size w.heap.size (Lib.byteCells l) X) (hl : l.length ≤ 10000000) (hX : w.heap.size ≤ X.heap.size) =>
    show Calls Try.prog 33 #[.pointer (some ⟨w.heap.size, 0, none⟩), .int .u8 v] X (fun e w' => e = .returned .nilIface ∧ Lib.IsBuilder 61 5 w.heap.size w.heap.size (Lib.byteCells (l ++ [c])) w' ∧ Below w.heap.size X w') from
    (Try.bWriteByte w.heap.size w.heap.size (Lib.byteCells l) v X h (by simp [Lib.byteCells]; omega) hX).mono fun e w' ⟨h1, h2, h3⟩ => ⟨h1, by rw [Lib.byteCells_append]; subst hv; exact .inr h2, h3⟩)
  have HWS := Lib.hid (fun (l : List UInt8) (u : ByteArray) X (h : Lib.IsBuilder 61 5 w.heap.size w.heap.size (Lib.byteCells l) X) (hl : l.length + u.size ≤ 10000000) (hX : w.heap.size ≤ X.heap.size) =>
    show Calls Try.prog 34 #[.pointer (some ⟨w.heap.size, 0, none⟩), .string u] X (fun e w' => e = .returned (.tuple #[.int .i64 u.size, .nilIface]) ∧ Lib.IsBuilder 61 5 w.heap.size w.heap.size (Lib.byteCells (l ++ u.data.toList)) w' ∧ Below w.heap.size X w') from
    (Try.bWriteString w.heap.size w.heap.size (Lib.byteCells l) u X h (by simp [Lib.byteCells]; omega) hX).mono fun e w' ⟨h1, h2, h3⟩ => ⟨h1, by rw [Lib.byteCells_append, ← Lib.strCells_eq]; exact .inr h2, h3⟩)
  go_enter Try.func24, Try.ntmps24; (try simp only [List.append_eq, List.cons_append, List.nil_append])
  go_upto_region 2 with fail
  have h0 : Lib.IsBuilder 61 5 w.heap.size w.heap.size (Lib.byteCells []) (w.alloc (.cells #[.pointer none, .slice none 0 0] 61)) :=
    .inl ⟨Nat.le_refl _, _, World.alloc_heap_new w _, World.ownsRow_nil _ _ _ _, by simp [Value.ownBlock]⟩
  have H0 := Lib.hid h0; clear h0
  go_upto_region 4 with (go_at_call 33; refine (HW.out [] 34 _ rfl _ H0.out (by simp) (by simp)).mono ?_; rintro e w1 ⟨rfl, hbd, hb⟩; have HB := Lib.hid hbd; have HL := Lib.hid (((Below.refl _ _).alloc (Nat.le_refl _) _).trans hb); clear hbd hb)
  have HB0 := HB; have HL0 := HL; clear HB HL H0
  go_loopw [9] (fun i wr => ∃ k : Nat, k ≤ s.size ∧ i = .int .i64 k ∧ Lib.IsBuilder 61 5 w.heap.size w.heap.size (Lib.byteCells (34 :: qs (s.data.toList.take k))) wr ∧ Below w.heap.size w wr) (fun i _ => s.size - (intOf i).toNat)
  case atStart => exact ⟨0, Nat.zero_le _, rfl, by simpa [qs] using HB0.out, HL0.out⟩
  case round =>
    obtain ⟨k, hk, rfl, hbd, hb⟩ := hrel
    have HB := Lib.hid hbd; clear hbd
    have HL := Lib.hid hb; clear hb
    have hsz := HL.out.size
    have hql := qs_length (s.data.toList.take k)
    have hql2 : (s.data.toList.take k).length ≤ k := List.length_take_le _ _
    by_cases hlt : k < s.size
    · have hsn : qs (s.data.toList.take (k + 1)) = qs (s.data.toList.take k) ++ qc s[k] := by rw [take_snoc' s k hlt, qs_snoc]
      have Hsn := Lib.hid hsn; clear hsn
      obtain ⟨q, hq⟩ : ∃ q, qs (s.data.toList.take k) = q := ⟨_, rfl⟩
      rw [hq] at HB Hsn hql
      clear hq
      have hL : q.length ≤ 9000000 := by omega
      have hL2 : (34 :: q).length + (⟨#[92, 120]⟩ : ByteArray).size ≤ 10000000 := by have e : (⟨#[92, 120]⟩ : ByteArray).size = 2 := rfl; rw [e, List.length_cons]; omega
      have HL2' := Lib.hid hL2; clear hL2
      have hb255 : (s[k].toNat : Int) ≤ 255 := by have := s[k].toNat_lt; omega
      by_cases h1 : s[k].toNat = 92 ∨ s[k].toNat = 34
      · rw [qc_two h1] at Hsn
        rcases h1 with h1 | h1
        · have a1 : ((s[k].toNat : Int) == 92) = true := by simp; omega
          have a2 : (s[k].toNat : Int) = 92 := by omega
          have hc : s[k] = 92 := UInt8.toNat_inj.1 h1
          rw [hc] at Hsn
          clear hc h1
          go_upto_region 10 with (go_at_call 33; (with_reducible refine (HW.out (34 :: q) 92 92 e92 _ HB.out (bd_len q _ 1 hL (by simp) (by decide)) hsz).mono ?_); rintro e w1 ⟨rfl, hbd, hb⟩; have HB1 := Lib.hid hbd; have HL1 := Lib.hid (HL.out.trans hb); clear hbd hb; have hsz1 := HL1.out.size)
          go_wp2_with (go_at_call 33; (with_reducible refine (HW.out (34 :: q ++ [92]) 92 92 e92 _ HB1.out (bd_len q _ 2 hL (by simp) (by decide)) hsz1).mono ?_); rintro e w2 ⟨rfl, hbd, hb⟩; have HB2 := Lib.hid hbd; have HL2 := Lib.hid (HL1.out.trans hb); clear hbd hb; have hsz2 := HL2.out.size)
          exact ⟨⟨k + 1, by omega, by go_num, by rw [Hsn.out]; simpa using HB2.out, HL2.out⟩, by simp [intOf]; omega⟩
        · have a1 : ((s[k].toNat : Int) == 92) = false := by simp; omega
          have a3 : ((s[k].toNat : Int) == 34) = true := by simp; omega
          have a2 : (s[k].toNat : Int) = 34 := by omega
          have hc : s[k] = 34 := UInt8.toNat_inj.1 h1
          rw [hc] at Hsn
          clear hc h1
          go_upto_region 10 with (go_at_call 33; (with_reducible refine (HW.out (34 :: q) 92 92 e92 _ HB.out (bd_len q _ 1 hL (by simp) (by decide)) hsz).mono ?_); rintro e w1 ⟨rfl, hbd, hb⟩; have HB1 := Lib.hid hbd; have HL1 := Lib.hid (HL.out.trans hb); clear hbd hb; have hsz1 := HL1.out.size)
          go_wp2_with (go_at_call 33; (with_reducible refine (HW.out (34 :: q ++ [92]) 34 34 e34 _ HB1.out (bd_len q _ 2 hL (by simp) (by decide)) hsz1).mono ?_); rintro e w2 ⟨rfl, hbd, hb⟩; have HB2 := Lib.hid hbd; have HL2 := Lib.hid (HL1.out.trans hb); clear hbd hb; have hsz2 := HL2.out.size)
          exact ⟨⟨k + 1, by omega, by go_num, by rw [Hsn.out]; simpa using HB2.out, HL2.out⟩, by simp [intOf]; omega⟩
      · have b1 : ((s[k].toNat : Int) == 92) = false := by simp; omega
        have b2 : ((s[k].toNat : Int) == 34) = false := by simp; omega
        have a1 : ¬ (s[k].toNat : Int) = 92 := by omega
        have a2 : ¬ (s[k].toNat : Int) = 34 := by omega
        by_cases h2 : s[k].toNat < 32 ∨ 126 < s[k].toNat
        · rw [qc_four h1 h2] at Hsn
          clear h1
          rcases h2 with h2 | h2
          · have a3 : (s[k].toNat : Int) < 32 := by omega
            go_upto_region 13 with (go_at_call 34; refine (HWS.out _ ⟨#[92, 120]⟩ _ HB.out HL2'.out hsz).mono ?_; rintro e w1 ⟨rfl, hbd, hb⟩; have HB1 := Lib.hid hbd; have HL1 := Lib.hid (HL.out.trans hb); clear hbd hb; have hsz1 := HL1.out.size)
            go_upto_region 14 with (go_at_call 33; (with_reducible refine (HW.out (34 :: q ++ [92, 120]) (hexAt (s[k].toNat / 16)) _ (by rw [hex_at]) _ HB1.out (bd_len q _ 3 hL (by simp) (by decide)) hsz1).mono ?_); rintro e w2 ⟨rfl, hbd, hb⟩; have HB2 := Lib.hid hbd; have HL2 := Lib.hid (HL1.out.trans hb); clear hbd hb; have hsz2 := HL2.out.size)
            go_wp2_with (go_at_call 33; (with_reducible refine (HW.out (34 :: q ++ [92, 120] ++ [hexAt (s[k].toNat / 16)]) (hexAt (s[k].toNat % 16)) _ (by rw [hex_at]) _ HB2.out (bd_len q _ 4 hL (by simp) (by decide)) hsz2).mono ?_); rintro e w3 ⟨rfl, hbd, hb⟩; have HB3 := Lib.hid hbd; have HL3 := Lib.hid (HL2.out.trans hb); clear hbd hb; have hsz3 := HL3.out.size)
            exact ⟨⟨k + 1, by omega, by go_num, by rw [Hsn.out]; simpa using HB3.out, HL3.out⟩, by simp [intOf]; omega⟩
          · have a3 : ¬ (s[k].toNat : Int) < 32 := by omega
            have a4 : 126 < (s[k].toNat : Int) := by omega
            go_upto_region 13 with (go_at_call 34; refine (HWS.out _ ⟨#[92, 120]⟩ _ HB.out HL2'.out hsz).mono ?_; rintro e w1 ⟨rfl, hbd, hb⟩; have HB1 := Lib.hid hbd; have HL1 := Lib.hid (HL.out.trans hb); clear hbd hb; have hsz1 := HL1.out.size)
            go_upto_region 14 with (go_at_call 33; (with_reducible refine (HW.out (34 :: q ++ [92, 120]) (hexAt (s[k].toNat / 16)) _ (by rw [hex_at]) _ HB1.out (bd_len q _ 3 hL (by simp) (by decide)) hsz1).mono ?_); rintro e w2 ⟨rfl, hbd, hb⟩; have HB2 := Lib.hid hbd; have HL2 := Lib.hid (HL1.out.trans hb); clear hbd hb; have hsz2 := HL2.out.size)
            go_wp2_with (go_at_call 33; (with_reducible refine (HW.out (34 :: q ++ [92, 120] ++ [hexAt (s[k].toNat / 16)]) (hexAt (s[k].toNat % 16)) _ (by rw [hex_at]) _ HB2.out (bd_len q _ 4 hL (by simp) (by decide)) hsz2).mono ?_); rintro e w3 ⟨rfl, hbd, hb⟩; have HB3 := Lib.hid hbd; have HL3 := Lib.hid (HL2.out.trans hb); clear hbd hb; have hsz3 := HL3.out.size)
            exact ⟨⟨k + 1, by omega, by go_num, by rw [Hsn.out]; simpa using HB3.out, HL3.out⟩, by simp [intOf]; omega⟩
        · rw [qc_one h1 h2] at Hsn
          have a3 : ¬ (s[k].toNat : Int) < 32 := by omega
          have a4 : ¬ 126 < (s[k].toNat : Int) := by omega
          clear h1 h2
          go_wp2_with (go_at_call 33; (with_reducible refine (HW.out (34 :: q) s[k] _ rfl _ HB.out (bd_len q _ 1 hL (by simp) (by decide)) hsz).mono ?_); rintro e w1 ⟨rfl, hbd, hb⟩; have HB1 := Lib.hid hbd; have HL1 := Lib.hid (HL.out.trans hb); clear hbd hb; have hsz1 := HL1.out.size)
          exact ⟨⟨k + 1, by omega, by go_num, by rw [Hsn.out]; simpa using HB1.out, HL1.out⟩, by simp [intOf]; omega⟩
    · have hk' : k = s.size := by omega
      subst hk'
      have hall : s.data.toList.take s.size = s.data.toList := List.take_of_length_le (by simp)
      rw [hall] at HB hql
      clear hall
      have hL5 : (qs s.data.toList).length ≤ 9000000 := by
        have h5 : s.data.toList.length = s.size := by simp
        have h6 := qs_length s.data.toList
        omega
      have HQ : Hid (quoteL s.data.toList = 34 :: qs s.data.toList ++ [34]) := rfl
      go_upto_region 17 with (go_at_call 33; (with_reducible refine (HW.out (34 :: qs s.data.toList) 34 34 e34 _ HB.out (bd_len _ _ 1 hL5 (by simp) (by decide)) hsz).mono ?_); rintro e w1 ⟨rfl, hbd, hb⟩; have HB1 := Lib.hid hbd; have HL1 := Lib.hid (HL.out.trans hb); clear hbd hb; have hsz1 := HL1.out.size)
      go_wp2_with (go_at_call 35; refine (Try.Builder_String_any w.heap.size w.heap.size (34 :: qs s.data.toList ++ [34]) _ HB1.out hsz1).mono ?_; rintro e w2 ⟨rfl, hb⟩; have HL2 := Lib.hid (HL1.out.trans hb); clear hb)
      go_ret
      exact ⟨ret_string (by rw [HQ.out]; rfl), HL2.out⟩
end Go.Proofs.Ytbllkddpmmeloaa
