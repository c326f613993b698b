/- ref03.Check, ref01.Number, Text, ref03.Key, ref04.CheckSeries, Key. -/
import Derived.Test.YtkheeiipkdeihaaNt3
import Derived.Lib.AppendStr
namespace Go.Proofs.Ytkheeiipkdeihaa
open Go.RowKit
set_option linter.unusedSimpArgs false
set_option linter.unusedVariables false

/-- It answers so, and only draws. -/
def Qt (v : Value) (W : World) (e : Ending) (w' : World) : Prop := e = .returned v ∧ ∃ n, w' = W.drewN n
theorem rName' (s : ByteArray) (W : World) (hs : s.size ≤ maxLen) : Calls Try.prog 41 #[.string s] W fun e w' => e = .returned (.bool (nameB s)) ∧ w' = W := (rName s W hs).mono fun _ _ ⟨h1, h2⟩ => ⟨h1, h2.symm⟩
theorem rise_at {l : List Lab} {j : Nat} (hj : j < l.length) : lastN ByteArray.empty (l.take (j + 1)) = l[j].name := lastN_step hj
set_option maxRecDepth 100000 in
set_option maxHeartbeats 8000000 in
theorem rCheck3 {l : List Lab} {v : Value} {n : Nat} {W : World} (hn : n ≤ W.heap.size) (h : IsLabs n W v l) :
    Calls Try.prog 42 #[v] W (Qt (.int .i64 (checkL l)) W) := by
  obtain ⟨p, cap, rfl, _, _, hl⟩ := h.open
  unfold maxLen at hl
  have HL := Lib.hid h; have HN := Lib.hid hn
  clear h hn
  obtain ⟨N, hN⟩ : ∃ z, l.length = z := ⟨_, rfl⟩
  rw [hN] at HL hl ⊢
  have HNL := Lib.hid hN
  clear hN
  have hN2 : (N : Int) ≤ 9223372036854775807 := by omega
  by_cases h8 : 8 < N
  · have h8i : (8 : Int) < (N : Int) := by omega
    have HE := Lib.hid (checkL_long (l := l) (by rw [HNL.out]; exact h8))
    go_enter Try.func42, Try.ntmps42; (try simp only [List.append_eq, List.cons_append, List.nil_append])
    go_wp2
    go_ret
    exact ⟨by rw [HE.out]; rfl, 0, rfl⟩
  have h8i : (N : Int) ≤ 8 := by omega
  have h8b : decide ((8 : Int) < (N : Int)) = false := decide_eq_false (by omega)
  have H8 := Lib.hid (show ¬ 8 < l.length by rw [HNL.out]; exact h8)
  clear h8
  go_enter Try.func42, Try.ntmps42; (try simp only [List.append_eq, List.cons_append, List.nil_append])
  go_wp2
  go_loopw [3] (fun j wr => ∃ k m : Nat, k ≤ N ∧ j = .int .i64 k ∧ rising ByteArray.empty (l.take k) = true ∧ wr = W.drewN m) (fun j _ => N - (intOf j).toNat)
  case atStart => exact ⟨0, 0, Nat.zero_le _, rfl, rfl, rfl⟩
  case round =>
    obtain ⟨k, m, hk, rfl, hr, hw⟩ := hrel
    have HR := Lib.hid hr; have HW := Lib.hid hw
    have hbw := below_drewN (Below.refl W.heap.size W) m
    rw [← hw] at hbw
    have HBW := Lib.hid hbw
    clear hr hw hbw
    by_cases hlt : k < N
    · have hki : (k : Int) < (N : Int) := by omega
      have hk0 : (0 : Int) ≤ (k : Int) := by omega
      have hkl : k < l.length := by have := HNL.out; omega
      obtain ⟨b1, o1, rfl, hb1, d0, d1, s0, s1⟩ := (HL.out.mono (HBW.out.mono HN.out) (Nat.le_refl _)).get hkl
      have HGOOD := Lib.hid (fun h1 h2 => rising_step HR.out hkl h1 h2)
      have HBAD := Lib.hid (fun hx => checkL_bad H8.out (rising_bad hkl hx))
      obtain ⟨nm, tx, hx⟩ : ∃ nm tx, l[k] = ⟨nm, tx⟩ := ⟨l[k].name, l[k].text, rfl⟩
      rw [hx] at d0 d1 s0 s1 HGOOD HBAD
      have HX := Lib.hid hx
      clear hx
      simp only at d0 d1 s0 s1 HGOOD HBAD
      have hb1w : b1 < wr.heap.size := by have := HN.out; have := HBW.out.size; omega
      have S0 := Lib.hid s0
      unfold maxLen at s1
      have hs1 : (tx.size : Int) ≤ 9223372036854775807 := by omega
      clear s0 s1 hb1
      obtain ⟨nb, hnb⟩ : ∃ z, nameB nm = z := ⟨_, rfl⟩
      have HNB := Lib.hid hnb
      have hnm : ∀ X, Calls Try.prog 41 #[.string nm] X fun e w' => e = .returned (.bool nb) ∧ w' = X := fun X => by rw [← hnb]; exact rName' nm X S0.out
      have HNM := Lib.hid hnm
      clear hnb hnm
      cases nb with
      | false =>
        go_wp2_with fail
        go_quiet ((go_at_call 41; exact Calls.quiet_of_same (HNM.out _)))
        go_wp2
        go_ret
        exact ⟨by rw [HBAD.out (.inl (labB_name HNB.out))]; rfl, m + nq, by rw [HW.out, World.drewN_drewN]⟩
      | true =>
        by_cases ht0 : tx.size < 1
        · have hte : tx.toList.isEmpty = true := by rw [ByteArray.toList_eq]; simp; exact Array.eq_empty_of_size_eq_zero (by have : tx.data.size = tx.size := rfl; omega)
          have htl : tx.toList = [] := by simpa using hte
          have HT := Lib.hid ht0
          clear ht0
          go_wp2_with fail
          go_quiet ((go_at_call 41; exact Calls.quiet_of_same (HNM.out _)))
          go_wp2
          go_ret
          exact ⟨by rw [HBAD.out (.inl (labB_text (.inl HT.out)))]; rfl, m + nq, by rw [HW.out, World.drewN_drewN]⟩
        have hte : tx.toList.isEmpty = false := by
          cases hb : tx.toList.isEmpty with
          | false => rfl
          | true =>
            rw [ByteArray.toList_eq] at hb
            simp at hb
            have : tx.data.size = tx.size := rfl
            rw [hb] at this
            simp at this
            omega
        by_cases ht1 : 64 < tx.size
        · have ht1i : decide ((64 : Int) < (tx.size : Int)) = true := decide_eq_true (by omega)
          have ht1j : (64 : Int) < (tx.size : Int) := by omega
          have HT := Lib.hid ht1
          clear ht0 ht1
          go_wp2_with fail
          go_quiet ((go_at_call 41; exact Calls.quiet_of_same (HNM.out _)))
          go_wp2
          go_ret
          exact ⟨by rw [HBAD.out (.inl (labB_text (.inr HT.out)))]; rfl, m + nq, by rw [HW.out, World.drewN_drewN]⟩
        have ht1i : decide ((64 : Int) < (tx.size : Int)) = false := decide_eq_false (by omega)
        have ht1j : (tx.size : Int) ≤ 64 := by omega
        have HLB := Lib.hid (labB_ok (x := ⟨nm, tx⟩) HNB.out (by show 1 ≤ tx.size; omega) (by show tx.size ≤ 64; omega))
        clear ht0 ht1
        cases k with
        | zero =>
          have HGD := Lib.hid (HGOOD.out HLB.out (sless_empty (nameB_size HNB.out).1))
          simp only [Nat.zero_mul, Nat.add_zero] at d0 d1
          have h00 : decide ((0 : Int) < ((0 : Nat) : Int)) = false := by decide
          have h01 : decide ((0 : Int) < (0 : Int)) = false := by decide
          have h02 : decide ((0 : Nat) < (0 : Nat)) = false := by decide
          go_wp2_with fail
          go_quiet ((go_at_call 41; exact Calls.quiet_of_same (HNM.out _)))
          go_wp2
          exact ⟨⟨1, m + nq, by omega, by go_num, HGD.out, by rw [HW.out, World.drewN_drewN]⟩, by simp [intOf]; omega⟩
        | succ j =>
          have hjl : j < l.length := by omega
          obtain ⟨b2, o2, hp2, hb2, e0, -, -, -⟩ := (HL.out.mono (HBW.out.mono HN.out) (Nat.le_refl _)).get hjl
          obtain ⟨rfl, rfl⟩ : b1 = b2 ∧ o1 = o2 := by simpa using hp2
          rw [rise_at hjl] at HGOOD HBAD
          obtain ⟨pn, hpn⟩ : ∃ z, l[j].name = z := ⟨_, rfl⟩
          rw [hpn] at e0 HGOOD HBAD
          have hjp : (0 : Int) < ((j + 1 : Nat) : Int) := by omega
          have hw1 : IntKind.i64.wrap (((j + 1 : Nat) : Int) - 1) = (j : Int) := by rw [IntWalk.i64_in _ (by omega)]; omega
          have hw2 : IntKind.i64.wrap (j : Int) = (j : Int) := IntWalk.i64_in _ (by omega)
          have hj0 : (0 : Int) ≤ (j : Int) := by omega
          have hjn : (j : Int) < (N : Int) := by omega
          have hjb : decide ((0 : Int) < ((j : Int) + 1)) = true := decide_eq_true (by omega)
          clear hp2 hpn hjl hb2
          by_cases hs : sless pn nm = true
          · have HGD := Lib.hid (HGOOD.out HLB.out hs)
            have hs1 : Op.bytesLess pn.toList nm.toList = true := hs
            have hs2 : Op.bytesLess nm.toList pn.toList = false := sless_asymm hs
            have hs3 : (pn.toList == nm.toList) = false := by rw [toList_beq]; exact decide_eq_false (fun e => by subst e; rw [sless_irrefl] at hs; cases hs)
            have hs4 : (nm.toList == pn.toList) = false := by rw [toList_beq]; exact decide_eq_false (fun e => by subst e; rw [sless_irrefl] at hs; cases hs)
            clear hs
            go_wp2_with fail
            go_quiet ((go_at_call 41; exact Calls.quiet_of_same (HNM.out _)))
            go_wp2
            exact ⟨⟨j + 2, m + nq, by omega, by go_num, HGD.out, by rw [HW.out, World.drewN_drewN]⟩, by simp [intOf]; omega⟩
          · have hs' : sless pn nm = false := by simpa using hs
            have HSN := Lib.hid hs'
            have hs1 : Op.bytesLess pn.toList nm.toList = false := hs'
            clear hs hs'
            go_wp2_with fail
            go_quiet ((go_at_call 41; exact Calls.quiet_of_same (HNM.out _)))
            go_wp2
            go_ret
            exact ⟨by rw [HBAD.out (.inr HSN.out)]; rfl, m + nq, by rw [HW.out, World.drewN_drewN]⟩
    · have hkN : k = N := by omega
      subst hkN
      have hki : ¬ ((k : Int) < (k : Int)) := by omega
      have HE := Lib.hid (checkL_ok H8.out (by have h := HR.out; rwa [List.take_of_length_le (by rw [HNL.out]; exact Nat.le_refl _)] at h))
      go_wp2
      go_ret
      exact ⟨by rw [HE.out]; rfl, m, HW.out⟩
theorem Qt.below {v : Value} {W w' : World} {e : Ending} (h : Qt v W e w') : e = .returned v ∧ Below W.heap.size W w' := by
  obtain ⟨h1, n, rfl⟩ := h
  exact ⟨h1, below_drewN (Below.refl _ _) _⟩
theorem strCells_bc (s : ByteArray) : Lib.strCells s = bc s.data.toList := by
  unfold Lib.strCells bc
  simp
set_option maxRecDepth 100000 in
set_option maxHeartbeats 4000000 in
theorem rNumber {b : List UInt8} {vb : Value} {base x : Nat} {W : World} (hbs : base ≤ W.heap.size) (hb : OwnB base W vb b) (h0 : 1 ≤ x) (h1 : x ≤ 255) (ht : b.length ≤ 900000) :
    Calls Try.prog 43 #[vb, .int .u64 x] W fun e w' => ∃ v', e = .returned v' ∧ OwnB base w' v' (b ++ [1, UInt8.ofNat x]) ∧ Below base W w' := by
  obtain ⟨i0, hi, hz0, hz1, hz2⟩ := info_parts infoB
  obtain ⟨pb, cb, rfl⟩ := ownB_slice hb
  have HB := Lib.hid hb; have HBS := Lib.hid hbs; have HT := Lib.hid ht
  obtain ⟨lb, hlb⟩ : ∃ z, b.length = z := ⟨_, rfl⟩
  rw [hlb] at HB ht ⊢
  have HLB := Lib.hid hlb
  clear hb hlb
  go_enter Try.func43, Try.ntmps43; (try simp only [List.append_eq, List.cons_append, List.nil_append])
  go_wp2
  go_loopw [1, 5] (fun x' v wr => (x' = .int .u64 x ∧ v = .slice none 0 0 ∧ wr = W) ∨ (x' = .int .u64 0 ∧ OwnB W.heap.size wr v [UInt8.ofNat x] ∧ Below W.heap.size W wr)) (fun x' _ _ => (intOf x').toNat)
  case atStart => exact .inl ⟨rfl, rfl, rfl⟩
  case round =>
    rcases hrel with ⟨rfl, rfl, rfl⟩ | ⟨rfl, hown, hbw⟩
    · have hk0 : (0 : Int) < (x : Int) := by omega
      have hnt : ((UInt8.ofNat x).toNat : Int) = (x : Int) := by rw [UInt8.toNat_ofNat']; omega
      have hwr : IntKind.u8.wrap (x : Int) = (x : Int) := by unfold IntKind.wrap; simp [IntKind.bits, IntKind.signed]; omega
      have HNT := Lib.hid hnt
      clear hnt
      go_wp2_with (at_builtin; refine wpList_append_src _ rfl _ _ _ rfl wr.heap.size 5 i0 _ 1 1 Try.underlying50 hi hz0 hz1 hz2 rfl (by decide) (.slice none 0 0) 0 [] rfl (World.ownsRow_nil _ _ _ _) _ 1 (bc [UInt8.ofNat x]) rfl (.inr ⟨_, 1, rfl, rfl, by unfold bc; rw [List.map_cons, List.map_nil, HNT.out]; exact one_new _ _ _⟩) (bc_one _) (by decide) (by decide) (by simp) ?_; intro v3 w3 hown3 hgr3 _; have hb3 : Below wr.heap.size wr w3 := ((Below.refl _ _).alloc (Nat.le_refl _) _).grown hgr3 (by simp) (by simp [Value.ownBlock]); have HO3 := Lib.hid hown3; have HB3 := Lib.hid hb3; clear hown3 hgr3 hb3)
      have hdv : (x : Int) / 256 = 0 := by omega
      rw [hdv]
      exact ⟨.inr ⟨rfl, HO3.out, HB3.out⟩, by simp [intOf]; omega⟩
    · obtain ⟨X, rfl⟩ : ∃ z, z = wr := ⟨_, rfl⟩
      obtain ⟨a1, c1, rfl⟩ := ownB_slice hown
      simp only [List.length_singleton] at hown ⊢
      have HO := Lib.hid hown; have HBW := Lib.hid hbw
      have hbX : OwnB base X (.slice pb lb cb) b := by
        have h := HB.out
        have hh := ownsRow_keep (w' := X) (by unfold OwnB at h; exact h) HBW.out
        exact hh
      have HBX := Lib.hid hbX
      have hsz := HBW.out.size
      have hln : lb = b.length := HLB.out.symm
      -- one byte behind
      have hnew : Blk (X.alloc (.cells #[.int .u8 1] 5)) X.heap.size 5 [.int .u8 1] := Blk.new X [.int .u8 1] 5
      have HNEW := Lib.hid hnew
      have hblk := Lib.hid (ownsRow_block (by have h := HB.out; unfold OwnB at h; exact h : World.ownsRow W base 5 1 (.slice pb lb cb) b.length (bc b)))
      have hblk1 := Lib.hid (ownsRow_block (by have h := HO.out; unfold OwnB at h; exact h : World.ownsRow X W.heap.size 5 1 (.slice a1 1 c1) 1 (bc [UInt8.ofNat x])))
      clear hown hbw hbX hnew
      have HOR := Lib.hid (show World.ownsRow X W.heap.size 5 1 (.slice a1 1 c1) 1 (bc [UInt8.ofNat x]) from by have h := HO.out; unfold OwnB at h; exact h)
      have HBR := Lib.hid (show World.ownsRow X base 5 1 (.slice pb b.length cb) b.length (bc b) from by have h := HBX.out; unfold OwnB at h; rw [hln] at h; exact h)
      have hbl : b.length ≤ 900000 := HT.out
      rw [hln]
      have HHB := Lib.hid (show ∀ k, (Value.slice pb b.length cb).ownBlock = some k → base ≤ k ∧ k < W.heap.size from by have h := hblk.out; rw [hln] at h; exact h)
      have H1B := hblk1
      clear hblk hblk1 hln
      have hbX : base ≤ X.heap.size := Nat.le_trans HBS.out hsz
      go_wp2_with (first
        | (at_builtin; refine wpList_append_src _ rfl _ _ _ rfl base 5 i0 _ 1 1 Try.underlying50 hi hz0 hz1 hz2 rfl (by decide) (.slice pb b.length cb) b.length (bc b) rfl (ownsRow_keep HBR.out ((Below.refl _ _).alloc (Nat.le_refl _) _)) _ 1 [.int .u8 1] rfl (srcB HNEW.out rfl) (by intro u hu; simp at hu; subst hu; rfl) (by unfold maxLen; omega) (by omega) (by simp; omega) ?_; intro v3 w3 hown3 hgr3 _; have hX1 := ownsRow_keep HOR.out ((Below.refl _ _).alloc (Nat.le_refl _) (.cells #[.int .u8 1] 5)); have h3 := ownsRow_offM hX1 (OffM.grown hgr3) (fun g hg1 hg2 => by have e1 := HHB.out g hg2; have e2 := H1B.out g hg1; omega); have HS3 := Lib.hid (Src.of_own h3); have HB3 := Lib.hid (below_app ((Below.refl _ X).alloc hbX (.cells #[.int .u8 1] 5)) (ownsRow_keep HBR.out ((Below.refl _ _).alloc (Nat.le_refl _) _)) hgr3 (Nat.le_refl _) (by simp; omega)); have HO3 := Lib.hid hown3; clear hX1 h3 hown3 hgr3)
        | (at_builtin; refine wpList_append_src _ rfl _ _ _ rfl base 5 i0 _ 1 1 Try.underlying50 hi hz0 hz1 hz2 rfl (by decide) v3 (b.length + 1) (bc b ++ [Value.int .u8 1]) rfl HO3.out _ 1 (bc [UInt8.ofNat x]) rfl HS3.out (bc_one _) (by unfold maxLen; omega) (by omega) (Nat.le_trans hbX HB3.out.size) ?_; intro v4 w4 hown4 hgr4 _; have HB4 := Lib.hid (below_app HB3.out HO3.out hgr4 (Nat.le_refl _) (Nat.le_trans hbX HB3.out.size)); have HO4 := Lib.hid hown4; clear hown4 hgr4)
        | fail)
      go_ret
      refine ⟨_, rfl, ?_, (HBW.out.mono HBS.out).trans HB4.out⟩
      have h := HO4.out
      have e : bc b ++ [Value.int .u8 1] ++ bc [UInt8.ofNat x] = bc b ++ bc [1, UInt8.ofNat x] := by unfold bc; simp
      rw [e, Nat.add_assoc] at h
      exact ownB_add (m := 2) rfl h
theorem ownB_nil (base : Nat) (w : World) : OwnB base w (.slice none 0 0) [] := World.ownsRow_nil _ _ _ _
set_option maxRecDepth 100000 in
set_option maxHeartbeats 4000000 in
theorem rText1 {b : List UInt8} {vb : Value} {s : ByteArray} {base : Nat} {W : World} (hbs : base ≤ W.heap.size) (hb : OwnB base W vb b) (h0 : 1 ≤ s.size) (h1 : s.size ≤ 255) (ht : b.length ≤ 800000) :
    Calls Try.prog 26 #[vb, .string s] W fun e w' => ∃ v', e = .returned (.tuple #[v', .int .i64 0]) ∧ OwnB base w' v' (b ++ encT s) ∧ Below base W w' := by
  obtain ⟨i0, hi, hz0, hz1, hz2⟩ := info_parts infoB
  have HB := Lib.hid hb; have HBS := Lib.hid hbs; have HT := Lib.hid ht
  clear hb hbs ht
  have hsi : (s.size : Int) ≤ 255 := by omega
  have hwu : IntKind.u64.wrap (s.size : Int) = (s.size : Int) := by unfold IntKind.wrap; simp [IntKind.bits, IntKind.signed]; omega
  go_enter Try.func26, Try.ntmps26; (try simp only [List.append_eq, List.cons_append, List.nil_append])
  go_wp2_with fail
  refine (rNumber HBS.out HB.out h0 h1 (by have := HT.out; omega)).mono ?_
  rintro e w1 ⟨v1, rfl, hown, hb1⟩
  have HB1 := Lib.hid hb1
  have hl1 : (b ++ [1, UInt8.ofNat s.size]).length = b.length + 2 := by simp
  have HO := Lib.hid (show World.ownsRow w1 base 5 1 v1 (b.length + 2) (bc (b ++ [1, UInt8.ofNat s.size])) from by have h := hown; unfold OwnB at h; rwa [hl1] at h)
  have hb1s : base ≤ w1.heap.size := Nat.le_trans HBS.out hb1.size
  have hbl : b.length ≤ 800000 := HT.out
  clear hown hb1 hl1
  go_wp2_with (at_builtin; refine Lib.wpList_append_own_string w1 rfl _ _ _ _ rfl base 5 i0 Try.underlying50 Try.underlying9 hi hz0 hz1 hz2 v1 (b.length + 2) _ rfl HO.out s rfl (by unfold maxLen; omega) (by omega) hb1s ?_; intro v3 w3 hown3 hgr3 _; have HB3 := Lib.hid (below_app HB1.out HO.out hgr3 (Nat.le_refl _) hb1s); have HO3 := Lib.hid hown3; clear hown3 hgr3)
  go_ret2
  refine ⟨_, rfl, ?_, HB3.out⟩
  have h := HO3.out
  rw [strCells_bc] at h
  have e : bc (b ++ [1, UInt8.ofNat s.size]) ++ bc s.data.toList = bc b ++ bc (encT s) := by unfold bc encT; simp
  rw [e, Nat.add_assoc, show 2 + s.size = (encT s).length by rw [encT_len]; omega] at h
  exact ownB_add rfl h
set_option maxRecDepth 100000 in
set_option maxHeartbeats 8000000 in
theorem rKey3 {l : List Lab} {v : Value} {n : Nat} {W : World} (hn : n ≤ W.heap.size) (h : IsLabs n W v l) (hc : checkL l = 0) :
    Calls Try.prog 27 #[v] W fun e w' => e = .returned (.string ⟨(encL l).toArray⟩) ∧ Below W.heap.size W w' := by
  obtain ⟨hf8, hfit⟩ := checkL_fit hc
  obtain ⟨p, cap, rfl, hc1, hc2, -⟩ := h.open
  unfold maxLen at hc2
  have HH := Lib.hid h; have HN := Lib.hid hn; have HC := Lib.hid hc; have HFT := Lib.hid hfit
  obtain ⟨N, hN⟩ : ∃ z, l.length = z := ⟨_, rfl⟩
  rw [hN] at HH hc1 hf8 ⊢
  have HNL := Lib.hid hN
  clear h hn hc hfit hN
  go_enter Try.func27, Try.ntmps27; (try simp only [List.append_eq, List.cons_append, List.nil_append])
  go_wp2
  go_loopw [3, 4] (fun b j wr => ∃ k : Nat, k ≤ N ∧ j = .int .i64 k ∧ OwnB W.heap.size wr b (encL (l.take k)) ∧ Below W.heap.size W wr) (fun _ j _ => N - (intOf j).toNat)
  case atStart => exact ⟨0, Nat.zero_le _, rfl, by rw [List.take_zero]; exact World.ownsRow_nil _ _ _ _, Below.refl _ _⟩
  case round =>
    obtain ⟨k, hk, rfl, hown, hb⟩ := hrel
    obtain ⟨q, hq⟩ : ∃ z, encL (l.take k) = z := ⟨_, rfl⟩
    rw [hq] at hown
    have HQ := Lib.hid hq
    have hql : q.length ≤ 92 * k := by
      rw [← hq]
      have h1 := encL_len (l := l.take k) (fun x hx => by have := HFT.out x (List.mem_of_mem_take hx); omega)
      have h2 : (l.take k).length ≤ k := List.length_take_le _ _
      omega
    obtain ⟨a2, c2, rfl⟩ := ownB_slice hown
    have HO := Lib.hid hown; have HB := Lib.hid hb
    clear hq hown hb
    obtain ⟨W1, rfl⟩ : ∃ z, z = wr := ⟨_, rfl⟩
    by_cases hlt : k < N
    · have hki : (k : Int) < (N : Int) := by omega
      have hk0 : (0 : Int) ≤ (k : Int) := by omega
      obtain ⟨x, hx⟩ : ∃ x, l[k]? = some x := ⟨_, List.getElem?_eq_getElem (by have := HNL.out; omega)⟩
      have hkl : k < l.length := by have := HNL.out; omega
      obtain ⟨b1, o1, rfl, hb1, d0, d1, -, -⟩ := (HH.out.mono (HB.out.mono HN.out) (Nat.le_refl _)).get hkl
      have hxe : l[k] = x := by rw [List.getElem?_eq_getElem hkl] at hx; exact Option.some.inj hx
      rw [hxe] at d0 d1
      have hfx := HFT.out x (List.mem_of_getElem? hx)
      have HX := Lib.hid (encL_take hx)
      obtain ⟨nm, tx⟩ := x
      simp only at d0 d1 hfx HX
      rw [HQ.out] at HX
      have HFX := Lib.hid hfx
      have hb1W : b1 < W.heap.size := by have := HN.out; omega
      have hb1w : b1 < W1.heap.size := Nat.lt_of_lt_of_le hb1W HB.out.size
      clear hx hxe hfx hb1 hkl
      go_wp2_with fail
      refine (rCheck3 (n := n) (Nat.le_trans HN.out HB.out.size) (HH.out.mono (HB.out.mono HN.out) (Nat.le_refl _))).mono ?_
      rintro e w2 hq2
      obtain ⟨rfl, hb2⟩ := hq2.below
      rw [HC.out]
      have HB2 := Lib.hid (HB.out.trans (hb2.mono HB.out.size))
      have HO2 := Lib.hid (HO.out.keep hb2)
      have d0 := (hb2.cell (p := ⟨b1, o1 + k * 2, none⟩) hb1w).trans d0
      have d1 := (hb2.cell (p := ⟨b1, o1 + k * 2 + 1, none⟩) hb1w).trans d1
      have hb1w := Nat.lt_of_lt_of_le hb1w hb2.size
      clear hb2 hq2 HO HB
      go_wp2_with fail
      refine (rText1 HB2.out.size HO2.out (by have := HFX.out; show 1 ≤ nm.size; omega) (by have := HFX.out; show nm.size ≤ 255; omega) (by omega)).mono ?_
      rintro e w3 ⟨v3, rfl, hown3, hb3⟩
      have HB3 := Lib.hid (HB2.out.trans hb3)
      have HO3 := Lib.hid hown3
      have d1 := (hb3.cell (p := ⟨b1, o1 + k * 2 + 1, none⟩) hb1W).trans d1
      have hb1w := Nat.lt_of_lt_of_le hb1w hb3.size
      have hq2 : (q ++ encT nm).length ≤ 92 * k + 30 := by have := HFX.out; rw [List.length_append, encT_len]; show q.length + (nm.size + 2) ≤ _; have h9 : nm.size ≤ 24 := this.1.2; omega
      obtain ⟨q2, hq2e⟩ : ∃ z, q ++ encT nm = z := ⟨_, rfl⟩
      rw [hq2e] at HO3 hq2 HX
      clear hq2e hb3 hown3 d0 HO2 HB2
      obtain ⟨a3, c3, rfl⟩ := ownB_slice HO3.out
      go_wp2_with fail
      refine (rText1 HB3.out.size HO3.out (by have := HFX.out; show 1 ≤ tx.size; omega) (by have := HFX.out; show tx.size ≤ 255; have h9 : tx.size ≤ 64 := this.2.2; omega) (by omega)).mono ?_
      rintro e w4 ⟨v4, rfl, hown4, hb4⟩
      have HB4 := Lib.hid (HB3.out.trans hb4)
      have HO4 := Lib.hid hown4
      clear hb4 hown4 d1 hb1w
      go_wp2
      exact ⟨⟨k + 1, by omega, by go_num, by rw [HX.out]; exact HO4.out, HB4.out⟩, by simp [intOf]; omega⟩
    · have hkN : k = N := by omega
      subst hkN
      have hki : ¬ ((k : Int) < (k : Int)) := by omega
      have HE := Lib.hid (show encL l = q from by rw [← HQ.out, List.take_of_length_le (by rw [HNL.out]; exact Nat.le_refl _)])
      have hcv := ownB_convert HO.out
      go_wp2
      go_ret
      exact ⟨by rw [HE.out]; rfl, HB.out⟩
set_option maxHeartbeats 2000000 in
theorem rCheckS {s : Sr} {p : Option Addr} {c n : Nat} {W : World} (hn : n ≤ W.heap.size) (h : IsLabs n W (.slice p s.labs.length c) s.labs) (hm : s.metric.size ≤ maxLen) :
    Calls Try.prog 25 #[.agg #[.string s.metric, .slice p s.labs.length c]] W fun e w' => e = .returned (.int .i64 (okS s)) ∧ Below W.heap.size W w' := by
  have HH := Lib.hid h; have HN := Lib.hid hn; have HM := Lib.hid hm
  have HOK := Lib.hid (show okS s = if nameB s.metric = true then checkL s.labs else 2 from rfl)
  clear h hn hm
  obtain ⟨m, l⟩ := s
  simp only at HH HM HOK ⊢
  obtain ⟨N, hN⟩ : ∃ z, l.length = z := ⟨_, rfl⟩
  rw [hN] at HH ⊢
  clear hN
  go_enter Try.func25, Try.ntmps25; (try simp only [List.append_eq, List.cons_append, List.nil_append])
  go_upto_region 1 with fail
  have k1 := Blk.new W [.string m, .slice p N c] 33
  have hr : Below W.heap.size W (W.alloc (.cells #[.string m, .slice p N c] 33)) := (Below.refl _ _).alloc (Nat.le_refl _) _
  have HB1 := Lib.hid hr
  obtain ⟨g, hg⟩ : ∃ z, W.heap.size = z := ⟨_, rfl⟩
  obtain ⟨Y, hY⟩ : ∃ z, W.alloc (.cells #[.string m, .slice p N c] 33) = z := ⟨_, rfl⟩
  rw [show W.alloc (.cells ([.string m, .slice p N c] : List Value).toArray 33) = Y from hY] at k1
  rw [hY] at HB1 ⊢
  have hgW := hg
  rw [hg] at k1 ⊢
  have HGW := Lib.hid hgW
  have c0 := k1.cell 0 _ rfl; have c1' := k1.cell 1 _ rfl; have hgl := k1.lt
  clear hY hg hr k1 hgW
  have HNM := Lib.hid (fun X => rName m X HM.out)
  obtain ⟨nb, hnb⟩ : ∃ z, nameB m = z := ⟨_, rfl⟩
  rw [hnb] at HNM HOK
  clear hnb
  go_wp2_with fail
  refine (HNM.out Y).mono ?_
  rintro e w1 ⟨rfl, hw1⟩
  subst hw1
  cases nb with
  | false =>
    simp only [Bool.false_eq_true, if_false] at HOK
    go_wp2
    go_ret
    exact ⟨by rw [HOK.out]; rfl, by have h := HB1.out; rwa [HGW.out] at h⟩
  | true =>
    simp only [if_true] at HOK
    go_wp2_with fail
    refine (rCheck3 (n := n) (Nat.le_trans HN.out HB1.out.size) (HH.out.mono (HB1.out.mono HN.out) (Nat.le_refl _))).mono ?_
    rintro e w2 hq2
    obtain ⟨rfl, hb2⟩ := hq2.below
    clear hq2
    have HB2 := Lib.hid (HB1.out.trans (hb2.mono HB1.out.size))
    clear hb2
    go_wp2
    go_ret
    exact ⟨by rw [HOK.out]; rfl, by have h := HB2.out; rwa [HGW.out] at h⟩
set_option maxHeartbeats 4000000 in
theorem rKey4 {s : Sr} {p : Option Addr} {c n : Nat} {W : World} (hn : n ≤ W.heap.size) (h : IsLabs n W (.slice p s.labs.length c) s.labs) (hok : okS s = 0) :
    Calls Try.prog 9 #[.agg #[.string s.metric, .slice p s.labs.length c]] W fun e w' => e = .returned (.string ⟨(keyS s).toArray⟩) ∧ Below W.heap.size W w' := by
  have hfit := okS_fit hok
  have HM := Lib.hid hfit.metric
  have HC := Lib.hid (fun (X : World) (hX : Below W.heap.size W X) => rCheckS (s := s) (p := p) (c := c) (W := X) (n := n) (Nat.le_trans hn hX.size) (h.mono (hX.mono hn) (Nat.le_refl _)) (by have := hfit.metric; unfold maxLen; omega))
  have HL := Lib.hid (fun (X : World) (hX : Below W.heap.size W X) => rKey3 (l := s.labs) (v := .slice p s.labs.length c) (W := X) (n := n) (Nat.le_trans hn hX.size) (h.mono (hX.mono hn) (Nat.le_refl _)) (okS_parts hok).2)
  rw [hok] at HC
  have HKS := Lib.hid (show (⟨(keyS s).toArray⟩ : ByteArray) = ⟨(encT s.metric).toArray⟩ ++ ⟨(encL s.labs).toArray⟩ from by unfold keyS; apply ByteArray.ext; simp)
  have HSZ := Lib.hid (show (encT s.metric).length + (encL s.labs).length ≤ 1000 from by
    have := keyS_len hfit
    unfold keyS at this
    rwa [List.length_append] at this)
  clear hfit h hn hok
  obtain ⟨m, l⟩ := s
  simp only at HM HC HL HKS HSZ ⊢
  obtain ⟨N, hN⟩ : ∃ z, l.length = z := ⟨_, rfl⟩
  rw [hN] at HC HL ⊢
  clear hN
  go_enter Try.func9, Try.ntmps9; (try simp only [List.append_eq, List.cons_append, List.nil_append])
  go_upto_region 1 with fail
  have k1 := Blk.new W [.string m, .slice p N c] 33
  have hr : Below W.heap.size W (W.alloc (.cells #[.string m, .slice p N c] 33)) := (Below.refl _ _).alloc (Nat.le_refl _) _
  obtain ⟨g, hg⟩ : ∃ z, W.heap.size = z := ⟨_, rfl⟩
  obtain ⟨Y, hY⟩ : ∃ z, W.alloc (.cells #[.string m, .slice p N c] 33) = z := ⟨_, rfl⟩
  rw [show W.alloc (.cells ([.string m, .slice p N c] : List Value).toArray 33) = Y from hY] at k1
  rw [hY] at hr ⊢
  have HB1 := Lib.hid hr
  rw [show (Value.pointer (some ⟨W.heap.size, 0, none⟩)) = .pointer (some ⟨g, 0, none⟩) by rw [hg]]
  rw [hg] at k1
  have K1 := Lib.hid k1
  have c0 := k1.cell 0 _ rfl; have c1' := k1.cell 1 _ rfl; have hgl := k1.lt
  clear hY hg hr k1
  go_wp2_with fail
  refine (HC.out Y HB1.out).mono ?_
  rintro e w1 ⟨rfl, hb1⟩
  have HB2 := Lib.hid (HB1.out.trans (hb1.mono HB1.out.size))
  have k2 := K1.out.keep hb1
  have K2 := Lib.hid k2
  have d0 := k2.cell 0 _ rfl; have hgl2 := k2.lt
  clear hb1 c0 c1' hgl k2 K1
  go_wp2_with fail
  refine (rText1 (base := w1.heap.size) (b := []) (Nat.le_refl _) (ownB_nil _ _) HM.out.1 (by have := HM.out; omega) (by simp)).mono ?_
  rintro e w2 ⟨v2, rfl, hown, hb2⟩
  have HB3 := Lib.hid (HB2.out.trans (hb2.mono HB2.out.size))
  rw [List.nil_append] at hown
  obtain ⟨a2, c2, rfl⟩ := ownB_slice hown
  have HO := Lib.hid hown
  have k3 := K2.out.keep hb2
  have d0 := k3.cell 0 _ rfl; have d1 := k3.cell 1 _ rfl; have hgl3 := k3.lt
  have K3 := Lib.hid k3
  clear hb2 hown k3 hgl2
  obtain ⟨l3, hl3⟩ : ∃ z, (encT m).length = z := ⟨_, rfl⟩
  rw [hl3] at HO ⊢
  clear hl3
  go_upto_region 4 with fail
  refine wp_region_held_drew (S := fun w => Below w2.heap.size w2 w) (by kernel_rfl) (Below.drew (Below.refl _ _)) (fun hHeld => ?_)
  have HS := Lib.hid (Below.drew (Below.refl w2.heap.size w2))
  clear hHeld
  have hSS := HS.out
  obtain ⟨X2, hX2⟩ : ∃ z, w2.drew = z := ⟨_, rfl⟩
  rw [hX2] at HS hSS ⊢
  clear hX2
  (refine held_take 0 14 ?_ rfl (by kernel_rfl) (by kernel_rfl) (by kernel_rfl) (by kernel_rfl) (fun _ _ _ h => h) (by kernel_rfl) ?_ (by assumption) ?_; rotate_left; (intro w hSw; clear hSw; go_simp); (try with_reducible rfl); simp only [List.set_cons_zero, List.set_cons_succ])
  (refine held_take 1 15 (.string ⟨(encT m).toArray⟩) rfl rfl (by kernel_rfl) (by kernel_rfl) (by kernel_rfl) (fun _ _ _ h => h) (by kernel_rfl) ?_ (by assumption) ?_; (intro w hSw; have hcv := ownB_convert (HO.out.keep hSw); clear hSw d0 d1; go_simp); simp only [List.set_cons_zero, List.set_cons_succ])
  (refine held_take 2 16 ?_ rfl (by kernel_rfl) (by kernel_rfl) (by kernel_rfl) (by kernel_rfl) (fun _ _ _ h => h) (by kernel_rfl) ?_ (by assumption) ?_; rotate_left; (intro w hSw; clear hSw; go_simp); (try with_reducible rfl); simp only [List.set_cons_zero, List.set_cons_succ])
  (refine held_take 3 17 (.slice p N c) rfl rfl (by kernel_rfl) (by kernel_rfl) (by kernel_rfl) (fun _ _ _ h => h) (by kernel_rfl) ?_ (by assumption) ?_; (intro w hSw; have f1 := (hSw.cell (p := ⟨g, 1, none⟩) hgl3).trans d1; clear hSw d0 d1; go_simp); simp only [List.set_cons_zero, List.set_cons_succ])
  refine wpAnyH_ready (rs := [4]) (by kernel_rfl) (by simp) (.cons rfl (fun K hK => ?_) .nil)
  rw [if_pos (by kernel_rfl)]
  go_simp
  refine (HL.out X2 (HB3.out.trans (HS.out.mono HB3.out.size))).mono ?_
  rintro e w9 ⟨rfl, hb9⟩
  have HS := Lib.hid (HS.out.trans (hb9.mono HS.out.size))
  clear hb9
  have hSS := HS.out
  refine hK.out _ _ HS.out (fun hHeld => ?_)
  clear hK K
  (try simp only [Act.put, List.setIfInBounds_toArray, List.set_cons_zero, List.set_cons_succ])
  have hsz := HSZ.out
  (refine held_take 5 19 (.string (⟨(encT m).toArray⟩ ++ ⟨(encL l).toArray⟩)) rfl rfl (by kernel_rfl) (by kernel_rfl) (by kernel_rfl) (fun _ _ _ h => h) (by kernel_rfl) ?_ (by assumption) ?_; (intro w hSw; clear hSw d0 d1; go_simp; omega); simp only [List.set_cons_zero, List.set_cons_succ])
  (refine held_take 6 2 ?_ rfl (by kernel_rfl) (by kernel_rfl) (by kernel_rfl) (by kernel_rfl) (fun _ _ _ h => h) (by kernel_rfl) ?_ (by assumption) ?_; rotate_left; (intro w hSw; clear hSw; go_simp); (try with_reducible rfl); simp only [List.set_cons_zero, List.set_cons_succ])
  refine wpAnyH_done (by kernel_rfl) ?_ _
  go_wp2
  go_ret
  exact ⟨by rw [HKS.out]; rfl, HB3.out.trans (HS.out.mono HB3.out.size)⟩
end Go.Proofs.Ytkheeiipkdeihaa
