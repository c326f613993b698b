/- A Builder that is written through a pointer: what a write keeps; FormatInt at base 10. -/
import Derived.Test.YtdjdikiimhhjpaaGreatDoorK21
import Derived.Test.YtdjdikiimhhjpaaGreatDoorK22
import Derived.Test.YtdjdikiimhhjpaaGreatDoorK0
import Derived.Shelf.Strings.BuilderK
import Derived.Lib.AppendIntMem
import Derived.Lib.ItoaLen
import Derived.Deep.CutRange
set_option maxRecDepth 100000
set_option maxHeartbeats 16000000
namespace Go.Proofs.YtdjdikiimhhjpaaGreatDoor
open Go.RowKit
set_option linter.unusedSimpArgs false
set_option linter.unusedVariables false
def Bld (B b : Nat) (l : List UInt8) (w : World) : Prop := Lib.IsBuilderF 85 5 B b (Lib.byteCells l) w
def Kp (b : Nat) (w w' : World) : Prop := Lib.OthersKept 5 (some b) w w'
theorem Kp.refl (b : Nat) (w : World) : Kp b w w := Lib.OthersKept.refl _ _ _
theorem Kp.trans {b : Nat} {a c d : World} (h : Kp b a c) (k : Kp b c d) : Kp b a d := Lib.OthersKept.trans h k
theorem Kp.of {b : Nat} {w w' : World} (hb : Below w.heap.size w w') : Kp b w w' := fun k o hk _ _ => by
  rw [hb.block k (Array.getElem?_eq_some_iff.1 hk).1]; exact hk
theorem Kp.alloc (b : Nat) (w : World) (o : Obj) : Kp b w (w.alloc o) := Kp.of ((Below.refl _ _).alloc (Nat.le_refl _) _)
theorem Bld.keep {B b : Nat} {l : List UInt8} {w w' : World} (h : Bld B b l w) (hb : Below w.heap.size w w') : Bld B b l w' := by
  have key : ∀ p, Lib.BuilderAtF 85 5 B b p (Lib.byteCells l) w → Lib.BuilderAtF 85 5 B b p (Lib.byteCells l) w' := by
    rintro p ⟨h1, v, h2, h3, h4⟩; refine ⟨h1, v, by rw [hb.block b (Array.getElem?_eq_some_iff.1 h2).1]; exact h2, ⟨h3.1, ?_⟩, h4⟩; rcases h3.2 with hn | ⟨g, cap, cur, fz, rfl, hB, hg, rest⟩
    · exact .inl hn
    · exact .inr ⟨g, cap, cur, fz, rfl, hB, by rw [hb.block g (Array.getElem?_eq_some_iff.1 hg).1]; exact hg, rest⟩
  exact h.elim (fun x => .inl (key _ x)) (fun x => .inr (key _ x))
theorem Bld.blk {B b : Nat} {l : List UInt8} {w : World} (h : Bld B b l w) : ∃ cs, w.heap[b]? = some (.cells cs 85 (0, 0)) := by
  rcases h with ⟨_, v, h, _⟩ | ⟨_, v, h, _⟩ <;> exact ⟨_, h⟩
theorem Bld.lt {B b : Nat} {l : List UInt8} {w : World} (h : Bld B b l w) : b < w.heap.size := (Array.getElem?_eq_some_iff.1 h.blk.choose_spec).1
theorem Bld.ne {B b g t : Nat} {l : List UInt8} {w : World} {cs : List Value} (h : Bld B b l w) (hg : Blk w g t cs) (ht : t ≠ 85) : g ≠ b := by
  rintro rfl
  obtain ⟨c, hc⟩ := h.blk
  have hg' : w.heap[g]? = some (.cells cs.toArray t (0, 0)) := hg
  rw [hg'] at hc
  cases hc
  exact ht rfl
theorem Blk.kp {b g t : Nat} {cs : List Value} {w w' : World} (h : Blk w g t cs) (hk : Kp b w w') (hg : g ≠ b) (ht : t ≠ 5) : Blk w' g t cs :=
  hk g _ h (by simpa using hg) (fun c fz e => by cases e; exact ht rfl)
theorem Bld.fresh (w : World) : Bld w.heap.size w.heap.size [] (w.alloc (.cells #[.pointer none, .slice none 0 0] 85)) := Lib.IsBuilderF.of (Lib.fresh_isBuilder _ _ w)
theorem bWS (B b : Nat) (l : List UInt8) (s : ByteArray) (W : World) (h : Bld B b l W) (hl : l.length + s.size ≤ 1000000000) (hB : B ≤ W.heap.size) :
    Calls Tryz.prog 82 #[.pointer (some ⟨b, 0, none⟩), .string s] W fun e w' => e = .returned (.tuple #[.int .i64 s.size, .nilIface]) ∧ Bld B b (l ++ s.data.toList) w' ∧ Below B W w' ∧ Kp b W w' :=
  (Any.Builder_WriteString_k Tryz.bl166 Tryz.blE166 B b (Lib.byteCells l) s W h (by simp [Lib.byteCells]; omega) hB).mono fun e w' ⟨h1, h2, h3, h4⟩ =>
    ⟨h1, by unfold Bld; rw [Lib.byteCells_append, ← Lib.strCells_eq]; exact .inr h2, h3, h4⟩
theorem bWB (B b : Nat) (l : List UInt8) (c : UInt8) (v : Int) (hv : v = (c.toNat : Int)) (W : World) (h : Bld B b l W) (hl : l.length ≤ 1000000000) (hB : B ≤ W.heap.size) :
    Calls Tryz.prog 90 #[.pointer (some ⟨b, 0, none⟩), .int .u8 v] W fun e w' => e = .returned .nilIface ∧ Bld B b (l ++ [c]) w' ∧ Below B W w' ∧ Kp b W w' :=
  (Any.Builder_WriteByte_k Tryz.bl167 Tryz.blE167 B b (Lib.byteCells l) v W h (by simp [Lib.byteCells]; omega) hB).mono fun e w' ⟨h1, h2, h3, h4⟩ =>
    ⟨h1, by unfold Bld; rw [Lib.byteCells_append]; subst hv; exact .inr h2, h3, h4⟩
theorem bStr (B b : Nat) (l : List UInt8) (W : World) (h : Bld B b l W) (hB : B ≤ W.heap.size) :
    Calls Tryz.prog 42 #[.pointer (some ⟨b, 0, none⟩)] W fun e w' => e = .returned (.string ⟨l.toArray⟩) ∧ Bld B b l w' ∧ Below B W w' ∧ Kp b W w' :=
  Tryz.Builder_String_any_k B b l W h hB
def TB (B : Nat) (w : World) : Prop := Lib.TabBelow Tryz.prog B w "internal/strconv.uint64pow10" .u64 Lib.pow10Tab
theorem TB.on {B : Nat} {w w' : World} (h : TB B w) (hb : Below B w w') : TB B w' := Lib.TabBelow.on h hb
theorem TB.less {B C : Nat} {w : World} (h : TB B w) (hB : B ≤ C) : TB C w := fun w' hb => h w' (hb.mono hB)
theorem bFmt (n : Int) (hn : -9223372036854775808 ≤ n ∧ n ≤ 9223372036854775807) (B : Nat) (W : World) (hT : TB B W) :
    Calls Tryz.prog 70 #[.int .i64 n, .int .i64 10] W fun e w' => e = .returned (.string ⟨(Lib.itoa n).toArray⟩) ∧ Below W.heap.size W w' :=
  (Tryz.strconv_FormatInt_10 n hn.1 hn.2 W hT.here).mono fun e w' ⟨h1, k, os, h2⟩ => ⟨h1, by subst h2; exact Lib.below_grow _ W (Nat.le_refl _) k os⟩
theorem lQuote (s : ByteArray) (w : World) (hs : s.size ≤ 2000000) :
    Calls Tryz.prog 83 #[.string s] w fun e w' => e = .returned (.string ⟨(quoteL s.data.toList).toArray⟩) ∧ Below w.heap.size w w' := by
  have HW := Lib.hid (fun (l : List UInt8) (c : UInt8) (v : Int) (hv : v = (c.toNat : Int)) X (h : Bld w.heap.size w.heap.size l X) (hl : l.length ≤ 10000000) (hX : w.heap.size ≤ X.heap.size) =>
    show Calls Tryz.prog 90 #[.pointer (some ⟨w.heap.size, 0, none⟩), .int .u8 v] X (fun e w' => e = .returned .nilIface ∧ Bld w.heap.size w.heap.size (l ++ [c]) w' ∧ Below w.heap.size X w') from
    (bWB _ _ l c v hv X h (by omega) hX).mono fun e w' ⟨h1, h2, h3, _⟩ => ⟨h1, h2, h3⟩)
  have HWS := Lib.hid (fun (l : List UInt8) (u : ByteArray) X (h : Bld w.heap.size w.heap.size l X) (hl : l.length + u.size ≤ 10000000) (hX : w.heap.size ≤ X.heap.size) =>
    show Calls Tryz.prog 82 #[.pointer (some ⟨w.heap.size, 0, none⟩), .string u] X (fun e w' => e = .returned (.tuple #[.int .i64 u.size, .nilIface]) ∧ Bld w.heap.size w.heap.size (l ++ u.data.toList) w' ∧ Below w.heap.size X w') from
    (bWS _ _ l u X h (by omega) hX).mono fun e w' ⟨h1, h2, h3, _⟩ => ⟨h1, h2, h3⟩)
  go_enter Tryz.func83, Tryz.ntmps83; (try simp only [List.append_eq, List.cons_append, List.nil_append])
  go_upto_region 2 with fail
  have H0 := Lib.hid (Bld.fresh w)
  go_upto_region 4 with (go_at_call 90; refine (HW.out [] 34 _ rfl _ H0.out (by simp) (by simp)).mono ?_; rintro e w1 ⟨rfl, hbd, hb⟩; have HB := Lib.hid hbd; have HL := Lib.hid (((Below.refl _ _).alloc (Nat.le_refl _) _).trans hb); clear hbd hb)
  have HB0 := HB; have HL0 := HL; clear HB HL H0
  go_loopw [9] (fun i wr => ∃ k : Nat, k ≤ s.size ∧ i = .int .i64 k ∧ Bld w.heap.size w.heap.size (34 :: qs (s.data.toList.take k)) wr ∧ Below w.heap.size w wr) (fun i _ => s.size - (intOf i).toNat)
  case atStart => exact ⟨0, Nat.zero_le _, rfl, by simpa [qs] using HB0.out, HL0.out⟩
  case round =>
    obtain ⟨k, hk, rfl, hbd, hb⟩ := hrel; have HB := Lib.hid hbd; clear hbd; have HL := Lib.hid hb; clear hb; have hsz := HL.out.size; have hql := qs_length (s.data.toList.take k); have hql2 : (s.data.toList.take k).length ≤ k := List.length_take_le _ _
    by_cases hlt : k < s.size
    · have hsn : qs (s.data.toList.take (k + 1)) = qs (s.data.toList.take k) ++ qc s[k] := by rw [take_snoc' s k hlt, qs_snoc]
      have Hsn := Lib.hid hsn; clear hsn; obtain ⟨q, hq⟩ : ∃ q, qs (s.data.toList.take k) = q := ⟨_, rfl⟩; rw [hq] at HB Hsn hql; clear hq; have hL : q.length ≤ 9000000 := by omega
      have hL2 : (34 :: q).length + (⟨#[92, 120]⟩ : ByteArray).size ≤ 10000000 := by have e : (⟨#[92, 120]⟩ : ByteArray).size = 2 := rfl; rw [e, List.length_cons]; omega
      have HL2' := Lib.hid hL2; clear hL2; have hb255 : (s[k].toNat : Int) ≤ 255 := by have := s[k].toNat_lt; omega
      by_cases h1 : s[k].toNat = 92 ∨ s[k].toNat = 34
      · rw [qc_two h1] at Hsn
        rcases h1 with h1 | h1
        · have a1 : ((s[k].toNat : Int) == 92) = true := by simp; omega
          have a2 : (s[k].toNat : Int) = 92 := by omega
          have hc : s[k] = 92 := UInt8.toNat_inj.1 h1; rw [hc] at Hsn; clear hc h1
          go_wp2_with (go_at_call 82; refine (HWS.out (34 :: q) ⟨#[92, 92]⟩ _ HB.out HL2'.out hsz).mono ?_; rintro e w2 ⟨rfl, hbd, hb⟩; have HB2 := Lib.hid hbd; have HL2 := Lib.hid (HL.out.trans hb); clear hbd hb; have hsz2 := HL2.out.size)
          exact ⟨⟨k + 1, by omega, by go_num, by rw [Hsn.out]; simpa using HB2.out, HL2.out⟩, by simp [intOf]; omega⟩
        · have a1 : ((s[k].toNat : Int) == 92) = false := by simp; omega
          have a3 : ((s[k].toNat : Int) == 34) = true := by simp; omega
          have a2 : (s[k].toNat : Int) = 34 := by omega
          have hc : s[k] = 34 := UInt8.toNat_inj.1 h1; rw [hc] at Hsn; clear hc h1
          go_wp2_with (go_at_call 82; refine (HWS.out (34 :: q) ⟨#[92, 34]⟩ _ HB.out HL2'.out hsz).mono ?_; rintro e w2 ⟨rfl, hbd, hb⟩; have HB2 := Lib.hid hbd; have HL2 := Lib.hid (HL.out.trans hb); clear hbd hb; have hsz2 := HL2.out.size)
          exact ⟨⟨k + 1, by omega, by go_num, by rw [Hsn.out]; simpa using HB2.out, HL2.out⟩, by simp [intOf]; omega⟩
      · have b1 : ((s[k].toNat : Int) == 92) = false := by simp; omega
        have b2 : ((s[k].toNat : Int) == 34) = false := by simp; omega
        have a1 : ¬ (s[k].toNat : Int) = 92 := by omega
        have a2 : ¬ (s[k].toNat : Int) = 34 := by omega
        by_cases h2 : s[k].toNat < 32 ∨ 126 < s[k].toNat
        · rw [qc_four h1 h2] at Hsn
          clear h1; have hlo : s[k].toNat % 16 < 16 := by omega
          rcases h2 with h2 | h2
          · have a3 : (s[k].toNat : Int) < 32 := by omega
            go_upto_region 12 with (go_at_call 82; refine (HWS.out _ ⟨#[92, 120]⟩ _ HB.out HL2'.out hsz).mono ?_; rintro e w1 ⟨rfl, hbd, hb⟩; have HB1 := Lib.hid hbd; have HL1 := Lib.hid (HL.out.trans hb); clear hbd hb; have hsz1 := HL1.out.size)
            go_upto_region 13 with (go_at_call 90; (with_reducible refine (HW.out (34 :: q ++ [92, 120]) (hexAt (s[k].toNat / 16)) _ (by rw [hex_at]) _ HB1.out (bd_len q _ 3 hL (by simp) (by decide)) hsz1).mono ?_); rintro e w2 ⟨rfl, hbd, hb⟩; have HB2 := Lib.hid hbd; have HL2 := Lib.hid (HL1.out.trans hb); clear hbd hb; have hsz2 := HL2.out.size)
            go_wp2_with (go_at_call 90; (with_reducible refine (HW.out (34 :: q ++ [92, 120] ++ [hexAt (s[k].toNat / 16)]) (hexAt (s[k].toNat % 16)) _ (by rw [hex_at]) _ HB2.out (bd_len q _ 4 hL (by simp) (by decide)) hsz2).mono ?_); rintro e w3 ⟨rfl, hbd, hb⟩; have HB3 := Lib.hid hbd; have HL3 := Lib.hid (HL2.out.trans hb); clear hbd hb; have hsz3 := HL3.out.size)
            exact ⟨⟨k + 1, by omega, by go_num, by rw [Hsn.out]; simpa using HB3.out, HL3.out⟩, by simp [intOf]; omega⟩
          · have a3 : ¬ (s[k].toNat : Int) < 32 := by omega
            have a4 : 126 < (s[k].toNat : Int) := by omega
            go_upto_region 12 with (go_at_call 82; refine (HWS.out _ ⟨#[92, 120]⟩ _ HB.out HL2'.out hsz).mono ?_; rintro e w1 ⟨rfl, hbd, hb⟩; have HB1 := Lib.hid hbd; have HL1 := Lib.hid (HL.out.trans hb); clear hbd hb; have hsz1 := HL1.out.size)
            go_upto_region 13 with (go_at_call 90; (with_reducible refine (HW.out (34 :: q ++ [92, 120]) (hexAt (s[k].toNat / 16)) _ (by rw [hex_at]) _ HB1.out (bd_len q _ 3 hL (by simp) (by decide)) hsz1).mono ?_); rintro e w2 ⟨rfl, hbd, hb⟩; have HB2 := Lib.hid hbd; have HL2 := Lib.hid (HL1.out.trans hb); clear hbd hb; have hsz2 := HL2.out.size)
            go_wp2_with (go_at_call 90; (with_reducible refine (HW.out (34 :: q ++ [92, 120] ++ [hexAt (s[k].toNat / 16)]) (hexAt (s[k].toNat % 16)) _ (by rw [hex_at]) _ HB2.out (bd_len q _ 4 hL (by simp) (by decide)) hsz2).mono ?_); rintro e w3 ⟨rfl, hbd, hb⟩; have HB3 := Lib.hid hbd; have HL3 := Lib.hid (HL2.out.trans hb); clear hbd hb; have hsz3 := HL3.out.size)
            exact ⟨⟨k + 1, by omega, by go_num, by rw [Hsn.out]; simpa using HB3.out, HL3.out⟩, by simp [intOf]; omega⟩
        · rw [qc_one h1 h2] at Hsn
          have a3 : ¬ (s[k].toNat : Int) < 32 := by omega
          have a4 : ¬ 126 < (s[k].toNat : Int) := by omega
          clear h1 h2
          go_wp2_with (go_at_call 90; (with_reducible refine (HW.out (34 :: q) s[k] _ rfl _ HB.out (bd_len q _ 1 hL (by simp) (by decide)) hsz).mono ?_); rintro e w1 ⟨rfl, hbd, hb⟩; have HB1 := Lib.hid hbd; have HL1 := Lib.hid (HL.out.trans hb); clear hbd hb; have hsz1 := HL1.out.size)
          exact ⟨⟨k + 1, by omega, by go_num, by rw [Hsn.out]; simpa using HB1.out, HL1.out⟩, by simp [intOf]; omega⟩
    · have hk' : k = s.size := by omega
      subst hk'; have hall : s.data.toList.take s.size = s.data.toList := List.take_of_length_le (by simp); rw [hall] at HB hql; clear hall; have hL5 : (qs s.data.toList).length ≤ 9000000 := by
        have h5 : s.data.toList.length = s.size := by simp
        have h6 := qs_length s.data.toList; omega
      have HQ : Hid (quoteL s.data.toList = 34 :: qs s.data.toList ++ [34]) := rfl; have HSZ : Hid ((⟨(34 :: qs s.data.toList).toArray⟩ : ByteArray).size ≤ 9000001) := by show (34 :: qs s.data.toList).toArray.size ≤ _; simp; exact hL5
      obtain ⟨Q, hQ⟩ : ∃ Q : ByteArray, Q = ⟨(34 :: qs s.data.toList).toArray⟩ := ⟨_, rfl⟩; have HQQ := Lib.hid hQ; rw [← hQ] at HSZ; clear hQ; have hSZ := HSZ.out
      go_wp2_with (go_at_call 42; refine (bStr w.heap.size w.heap.size (34 :: qs s.data.toList) _ HB.out hsz).mono ?_; rintro e w2 ⟨rfl, hbd, hb, hk⟩; rw [← HQQ.out]; have HL2 := Lib.hid (HL.out.trans hb); clear hb hbd hk)
      go_ret; exact ⟨ret_string (by rw [HQ.out, HQQ.out]; rfl), HL2.out⟩
end Go.Proofs.YtdjdikiimhhjpaaGreatDoor
