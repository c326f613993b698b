/- The reference's functions of label sets: cmp, Check, Order, Compare, labels. -/
import Derived.Test.YtgmdlnobajmjfaaDoorSm2
import Derived.IntWalk
namespace Go.Proofs.YtgmdlnobajmjfaaDoor
open Go.RowKit
set_option linter.unusedSimpArgs false
set_option linter.unusedVariables false

theorem rCmp (a b : ByteArray) (W : World) : Calls Tryd.prog 72 #[.string a, .string b] W fun e w' => e = .returned (.int .i64 (cmpW a b)) ∧ w' = W := by
  unfold cmpW
  by_cases h1 : sless a b = true
  · rw [if_pos h1]
    have h1' : Op.bytesLess a.toList b.toList = true := h1
    clear h1
    go_enter Tryd.func72, Tryd.ntmps72; (try simp only [List.append_eq, List.cons_append, List.nil_append])
    go_wp2
    go_ret
    exact ⟨rfl, rfl⟩
  · have h1' : Op.bytesLess a.toList b.toList = false := by have h := h1; unfold sless at h; simpa using h
    rw [if_neg h1]
    by_cases h2 : sless b a = true
    · rw [if_pos h2]
      have h2' : (a.toList == b.toList) = false := by rw [toList_beq]; exact decide_eq_false (fun e => by subst e; rw [sless_irrefl] at h2; cases h2)
      go_enter Tryd.func72, Tryd.ntmps72; (try simp only [List.append_eq, List.cons_append, List.nil_append])
      go_wp2
      go_ret
      exact ⟨rfl, rfl⟩
    · have h2' : (a.toList == b.toList) = true := by
        rw [toList_beq]
        refine decide_eq_true ?_
        rcases sless_tri a b with h | h | h
        · exact absurd h h1
        · exact h
        · exact absurd h h2
      rw [if_neg h2]
      go_enter Tryd.func72, Tryd.ntmps72; (try simp only [List.append_eq, List.cons_append, List.nil_append])
      go_wp2
      go_ret
      exact ⟨rfl, rfl⟩
/-- It answers so, and only draws. -/
def Qt (v : Value) (W : World) (e : Ending) (w' : World) : Prop := e = .returned v ∧ ∃ n, w' = W.drewN n
theorem rName' (s : ByteArray) (W : World) (hs : s.size ≤ maxLen) : Calls Tryd.prog 52 #[.string s] W fun e w' => e = .returned (.bool (nameB s)) ∧ w' = W := (rName s W hs).mono fun _ _ ⟨h1, h2⟩ => ⟨h1, h2.symm⟩
theorem rise_at {l : List Lab} {j : Nat} (hj : j < l.length) : lastN ByteArray.empty (l.take (j + 1)) = l[j].name := lastN_step hj
set_option maxRecDepth 100000 in
set_option maxHeartbeats 8000000 in
theorem rCheck3 {l : List Lab} {v : Value} {n : Nat} {W : World} (hn : n ≤ W.heap.size) (h : IsLabs n W v l) :
    Calls Tryd.prog 28 #[v] W (Qt (.int .i64 (checkL l)) W) := by
  obtain ⟨p, cap, rfl, _, _, hl⟩ := h.open
  unfold maxLen at hl
  have HL := Lib.hid h; have HN := Lib.hid hn
  clear h hn
  obtain ⟨N, hN⟩ : ∃ z, l.length = z := ⟨_, rfl⟩
  rw [hN] at HL hl ⊢
  have HNL := Lib.hid hN
  clear hN
  have hN2 : (N : Int) ≤ 9223372036854775807 := by omega
  by_cases h8 : 8 < N
  · have h8i : (8 : Int) < (N : Int) := by omega
    have HE := Lib.hid (checkL_long (l := l) (by rw [HNL.out]; exact h8))
    go_enter Tryd.func28, Tryd.ntmps28; (try simp only [List.append_eq, List.cons_append, List.nil_append])
    go_wp2
    go_ret
    exact ⟨by rw [HE.out]; rfl, 0, rfl⟩
  have h8i : (N : Int) ≤ 8 := by omega
  have h8b : decide ((8 : Int) < (N : Int)) = false := decide_eq_false (by omega)
  have H8 := Lib.hid (show ¬ 8 < l.length by rw [HNL.out]; exact h8)
  clear h8
  go_enter Tryd.func28, Tryd.ntmps28; (try simp only [List.append_eq, List.cons_append, List.nil_append])
  go_wp2
  go_loopw [3] (fun j wr => ∃ k m : Nat, k ≤ N ∧ j = .int .i64 k ∧ rising ByteArray.empty (l.take k) = true ∧ wr = W.drewN m) (fun j _ => N - (intOf j).toNat)
  case atStart => exact ⟨0, 0, Nat.zero_le _, rfl, rfl, rfl⟩
  case round =>
    obtain ⟨k, m, hk, rfl, hr, hw⟩ := hrel
    have HR := Lib.hid hr; have HW := Lib.hid hw
    have hbw := below_drewN (Below.refl W.heap.size W) m
    rw [← hw] at hbw
    have HBW := Lib.hid hbw
    clear hr hw hbw
    by_cases hlt : k < N
    · have hki : (k : Int) < (N : Int) := by omega
      have hk0 : (0 : Int) ≤ (k : Int) := by omega
      have hkl : k < l.length := by have := HNL.out; omega
      obtain ⟨b1, o1, rfl, hb1, d0, d1, s0, s1⟩ := (HL.out.mono (HBW.out.mono HN.out) (Nat.le_refl _)).get hkl
      have HGOOD := Lib.hid (fun h1 h2 => rising_step HR.out hkl h1 h2)
      have HBAD := Lib.hid (fun hx => checkL_bad H8.out (rising_bad hkl hx))
      obtain ⟨nm, tx, hx⟩ : ∃ nm tx, l[k] = ⟨nm, tx⟩ := ⟨l[k].name, l[k].text, rfl⟩
      rw [hx] at d0 d1 s0 s1 HGOOD HBAD
      have HX := Lib.hid hx
      clear hx
      simp only at d0 d1 s0 s1 HGOOD HBAD
      have hb1w : b1 < wr.heap.size := by have := HN.out; have := HBW.out.size; omega
      have S0 := Lib.hid s0
      unfold maxLen at s1
      have hs1 : (tx.size : Int) ≤ 9223372036854775807 := by omega
      clear s0 s1 hb1
      obtain ⟨nb, hnb⟩ : ∃ z, nameB nm = z := ⟨_, rfl⟩
      have HNB := Lib.hid hnb
      have hnm : ∀ X, Calls Tryd.prog 52 #[.string nm] X fun e w' => e = .returned (.bool nb) ∧ w' = X := fun X => by rw [← hnb]; exact rName' nm X S0.out
      have HNM := Lib.hid hnm
      clear hnb hnm
      cases nb with
      | false =>
        go_wp2_with fail
        go_quiet ((go_at_call 52; exact Calls.quiet_of_same (HNM.out _)))
        go_wp2
        go_ret
        exact ⟨by rw [HBAD.out (.inl (labB_name HNB.out))]; rfl, m + nq, by rw [HW.out, World.drewN_drewN]⟩
      | true =>
        by_cases ht0 : tx.size < 1
        · have hte : tx.toList.isEmpty = true := by rw [ByteArray.toList_eq]; simp; exact Array.eq_empty_of_size_eq_zero (by have : tx.data.size = tx.size := rfl; omega)
          have htl : tx.toList = [] := by simpa using hte
          have HT := Lib.hid ht0
          clear ht0
          go_wp2_with fail
          go_quiet ((go_at_call 52; exact Calls.quiet_of_same (HNM.out _)))
          go_wp2
          go_ret
          exact ⟨by rw [HBAD.out (.inl (labB_text (.inl HT.out)))]; rfl, m + nq, by rw [HW.out, World.drewN_drewN]⟩
        have hte : tx.toList.isEmpty = false := by
          cases hb : tx.toList.isEmpty with
          | false => rfl
          | true =>
            rw [ByteArray.toList_eq] at hb
            simp at hb
            have : tx.data.size = tx.size := rfl
            rw [hb] at this
            simp at this
            omega
        by_cases ht1 : 64 < tx.size
        · have ht1i : decide ((64 : Int) < (tx.size : Int)) = true := decide_eq_true (by omega)
          have ht1j : (64 : Int) < (tx.size : Int) := by omega
          have HT := Lib.hid ht1
          clear ht0 ht1
          go_wp2_with fail
          go_quiet ((go_at_call 52; exact Calls.quiet_of_same (HNM.out _)))
          go_wp2
          go_ret
          exact ⟨by rw [HBAD.out (.inl (labB_text (.inr HT.out)))]; rfl, m + nq, by rw [HW.out, World.drewN_drewN]⟩
        have ht1i : decide ((64 : Int) < (tx.size : Int)) = false := decide_eq_false (by omega)
        have ht1j : (tx.size : Int) ≤ 64 := by omega
        have HLB := Lib.hid (labB_ok (x := ⟨nm, tx⟩) HNB.out (by show 1 ≤ tx.size; omega) (by show tx.size ≤ 64; omega))
        clear ht0 ht1
        cases k with
        | zero =>
          have HGD := Lib.hid (HGOOD.out HLB.out (sless_empty (nameB_size HNB.out).1))
          simp only [Nat.zero_mul, Nat.add_zero] at d0 d1
          have h00 : decide ((0 : Int) < ((0 : Nat) : Int)) = false := by decide
          have h01 : decide ((0 : Int) < (0 : Int)) = false := by decide
          have h02 : decide ((0 : Nat) < (0 : Nat)) = false := by decide
          go_wp2_with fail
          go_quiet ((go_at_call 52; exact Calls.quiet_of_same (HNM.out _)))
          go_wp2
          exact ⟨⟨1, m + nq, by omega, by go_num, HGD.out, by rw [HW.out, World.drewN_drewN]⟩, by simp [intOf]; omega⟩
        | succ j =>
          have hjl : j < l.length := by omega
          obtain ⟨b2, o2, hp2, hb2, e0, -, -, -⟩ := (HL.out.mono (HBW.out.mono HN.out) (Nat.le_refl _)).get hjl
          obtain ⟨rfl, rfl⟩ : b1 = b2 ∧ o1 = o2 := by simpa using hp2
          rw [rise_at hjl] at HGOOD HBAD
          obtain ⟨pn, hpn⟩ : ∃ z, l[j].name = z := ⟨_, rfl⟩
          rw [hpn] at e0 HGOOD HBAD
          have hjp : (0 : Int) < ((j + 1 : Nat) : Int) := by omega
          have hw1 : IntKind.i64.wrap (((j + 1 : Nat) : Int) - 1) = (j : Int) := by rw [IntWalk.i64_in _ (by omega)]; omega
          have hw2 : IntKind.i64.wrap (j : Int) = (j : Int) := IntWalk.i64_in _ (by omega)
          have hj0 : (0 : Int) ≤ (j : Int) := by omega
          have hjn : (j : Int) < (N : Int) := by omega
          have hjb : decide ((0 : Int) < ((j : Int) + 1)) = true := decide_eq_true (by omega)
          clear hp2 hpn hjl hb2
          by_cases hs : sless pn nm = true
          · have HGD := Lib.hid (HGOOD.out HLB.out hs)
            have hs1 : Op.bytesLess pn.toList nm.toList = true := hs
            have hs2 : Op.bytesLess nm.toList pn.toList = false := sless_asymm hs
            have hs3 : (pn.toList == nm.toList) = false := by rw [toList_beq]; exact decide_eq_false (fun e => by subst e; rw [sless_irrefl] at hs; cases hs)
            have hs4 : (nm.toList == pn.toList) = false := by rw [toList_beq]; exact decide_eq_false (fun e => by subst e; rw [sless_irrefl] at hs; cases hs)
            clear hs
            go_wp2_with fail
            go_quiet ((go_at_call 52; exact Calls.quiet_of_same (HNM.out _)))
            go_wp2
            exact ⟨⟨j + 2, m + nq, by omega, by go_num, HGD.out, by rw [HW.out, World.drewN_drewN]⟩, by simp [intOf]; omega⟩
          · have hs' : sless pn nm = false := by simpa using hs
            have HSN := Lib.hid hs'
            have hs1 : Op.bytesLess pn.toList nm.toList = false := hs'
            clear hs hs'
            go_wp2_with fail
            go_quiet ((go_at_call 52; exact Calls.quiet_of_same (HNM.out _)))
            go_wp2
            go_ret
            exact ⟨by rw [HBAD.out (.inr HSN.out)]; rfl, m + nq, by rw [HW.out, World.drewN_drewN]⟩
    · have hkN : k = N := by omega
      subst hkN
      have hki : ¬ ((k : Int) < (k : Int)) := by omega
      have HE := Lib.hid (checkL_ok H8.out (by have h := HR.out; rwa [List.take_of_length_le (by rw [HNL.out]; exact Nat.le_refl _)] at h))
      go_wp2
      go_ret
      exact ⟨by rw [HE.out]; rfl, m, HW.out⟩
set_option maxRecDepth 100000 in
set_option maxHeartbeats 8000000 in
theorem rOrder {la lb : List Lab} {va vb : Value} {n : Nat} {W : World} (hn : n ≤ W.heap.size) (ha : IsLabs n W va la) (hb : IsLabs n W vb lb) :
    Calls Tryd.prog 53 #[va, vb] W (Qt (.int .i64 (orderL la lb)) W) := by
  obtain ⟨p, cap, rfl, _, _, hla⟩ := ha.open
  obtain ⟨q, cbp, rfl, _, _, hlb⟩ := hb.open
  unfold maxLen at hla hlb
  have HA := Lib.hid ha; have HB := Lib.hid hb; have HN := Lib.hid hn
  clear ha hb hn
  obtain ⟨N, hN⟩ : ∃ z, la.length = z := ⟨_, rfl⟩
  obtain ⟨M, hM⟩ : ∃ z, lb.length = z := ⟨_, rfl⟩
  rw [hN] at hla HA ⊢
  rw [hM] at hlb HB ⊢
  have hla2 : (N : Int) ≤ 9223372036854775807 := by omega
  have hlb2 : (M : Int) ≤ 9223372036854775807 := by omega
  have HNL := Lib.hid hN; have HML := Lib.hid hM
  clear hN hM
  go_enter Tryd.func53, Tryd.ntmps53; (try simp only [List.append_eq, List.cons_append, List.nil_append])
  go_wp2
  go_loopw [5] (fun j wr => ∃ k m : Nat, k ≤ N ∧ k ≤ M ∧ j = .int .i64 k ∧ orderL la lb = orderL (la.drop k) (lb.drop k) ∧ wr = W.drewN m) (fun j _ => N - (intOf j).toNat)
  case atStart => exact ⟨0, 0, Nat.zero_le _, Nat.zero_le _, rfl, rfl, rfl⟩
  case round =>
    obtain ⟨k, m, hk, hkm, rfl, ho, hw⟩ := hrel
    have HO := Lib.hid ho; have HW := Lib.hid hw
    have hbw := below_drewN (Below.refl W.heap.size W) m
    rw [← hw] at hbw
    have HBW := Lib.hid hbw
    clear ho hw hbw
    by_cases hboth : k < N ∧ k < M
    · obtain ⟨h1, h2⟩ := hboth
      have hki : (k : Int) < (N : Int) := by omega
      have hkj : (k : Int) < (M : Int) := by omega
      have hk0 : (0 : Int) ≤ (k : Int) := by omega
      have hka : k < la.length := by have := HNL.out; omega
      have hkb : k < lb.length := by have := HML.out; omega
      obtain ⟨b1, o1, rfl, hb1, d0, d1, -, -⟩ := (HA.out.mono (HBW.out.mono HN.out) (Nat.le_refl _)).get hka
      obtain ⟨b2, o2, rfl, hb2, e0, e1, -, -⟩ := (HB.out.mono (HBW.out.mono HN.out) (Nat.le_refl _)).get hkb
      have HS := Lib.hid (order_step (List.getElem?_eq_getElem hka) (List.getElem?_eq_getElem hkb))
      obtain ⟨x1, x2, hx⟩ : ∃ nm tx, la[k] = ⟨nm, tx⟩ := ⟨la[k].name, la[k].text, rfl⟩
      obtain ⟨y1, y2, hy⟩ : ∃ nm tx, lb[k] = ⟨nm, tx⟩ := ⟨lb[k].name, lb[k].text, rfl⟩
      rw [hx] at d0 d1
      rw [hy] at e0 e1
      rw [hx, hy] at HS
      simp only at d0 d1 e0 e1
      have HCL := Lib.hid (show cmpLab ⟨x1, x2⟩ ⟨y1, y2⟩ = if cmpW x1 y1 = 0 then cmpW x2 y2 else cmpW x1 y1 from rfl)
      have hb1w : b1 < wr.heap.size := by have := HN.out; have := HBW.out.size; omega
      have hb2w : b2 < wr.heap.size := by have := HN.out; have := HBW.out.size; omega
      have hsz := HBW.out.size
      clear hx hy hka hkb hb1 hb2
      have HC1 := Lib.hid (fun X => rCmp x1 y1 X); have HC2 := Lib.hid (fun X => rCmp x2 y2 X)
      obtain ⟨c1, hc1⟩ : ∃ z, cmpW x1 y1 = z := ⟨_, rfl⟩
      obtain ⟨c2, hc2⟩ : ∃ z, cmpW x2 y2 = z := ⟨_, rfl⟩
      rw [hc1] at HC1 HCL
      rw [hc2] at HC2 HCL
      clear hc1 hc2
      go_wp2_with fail
      go_quiet ((go_at_call 72; exact Calls.quiet_of_same (HC1.out _)))
      by_cases hz1 : c1 = 0
      · subst hz1
        have HCL2 := Lib.hid (show cmpLab ⟨x1, x2⟩ ⟨y1, y2⟩ = c2 from by rw [HCL.out]; simp)
        have hbq : Below wr.heap.size wr (wr.drewN nq) := below_drewN (Below.refl _ _) _
        have d1' := (hbq.cell (p := ⟨b1, o1 + k * 2 + 1, none⟩) hb1w).trans d1
        have e1' := (hbq.cell (p := ⟨b2, o2 + k * 2 + 1, none⟩) hb2w).trans e1
        have hb1x := Nat.lt_of_lt_of_le hb1w hbq.size
        have hb2x := Nat.lt_of_lt_of_le hb2w hbq.size
        have HWQ := Lib.hid (show wr.drewN nq = W.drewN (m + nq) by rw [HW.out, World.drewN_drewN])
        obtain ⟨X, hX⟩ : ∃ z, wr.drewN nq = z := ⟨_, rfl⟩
        rw [hX] at d1' e1' hb1x hb2x HWQ ⊢
        clear hX hbq d0 d1 e0 e1 hb1w hb2w
        go_wp2_with fail
        go_quiet ((go_at_call 72; exact Calls.quiet_of_same (HC2.out _)))
        by_cases hz2 : c2 = 0
        · have hx : (c2 != 0) = false := by simp [hz2]
          have HZ := Lib.hid hz2
          clear hz2
          go_wp2
          exact ⟨⟨k + 1, _, by omega, by omega, by go_num, by rw [HO.out, HS.out, HCL2.out, if_pos HZ.out], by rw [HWQ.out, World.drewN_drewN]⟩, by simp [intOf]; omega⟩
        · have hx : (c2 != 0) = true := by simp [hz2]
          have HZ := Lib.hid hz2
          clear hz2
          go_wp2
          go_ret
          exact ⟨by rw [HO.out, HS.out, HCL2.out, if_neg HZ.out]; rfl, _, by rw [HWQ.out, World.drewN_drewN]⟩
      · have hx : (c1 == 0) = false := by simp [hz1]
        have hx2 : (c1 != 0) = true := by simp [hz1]
        have HZ := Lib.hid hz1
        have HCL2 := Lib.hid (show cmpLab ⟨x1, x2⟩ ⟨y1, y2⟩ = c1 from by rw [HCL.out, if_neg hz1])
        clear hz1
        go_wp2
        go_ret
        exact ⟨by rw [HO.out, HS.out, HCL2.out, if_neg HZ.out]; rfl, _, by rw [HW.out, World.drewN_drewN]⟩
    · have HE := Lib.hid (order_end (la := la) (lb := lb) (k := k) (by have := HNL.out; omega) (by have := HML.out; omega) (by have := HNL.out; have := HML.out; omega))
      have HLE := Lib.hid (show (la.length = N ∧ lb.length = M) from ⟨HNL.out, HML.out⟩)
      by_cases h1 : k < N
      · have hki : (k : Int) < (N : Int) := by omega
        have hkj : ¬ ((k : Int) < (M : Int)) := by omega
        have hnm : ¬ ((N : Int) < (M : Int)) := by omega
        have hnm2 : (M : Int) < (N : Int) := by omega
        go_wp2
        go_ret
        exact ⟨by rw [HO.out, HE.out, if_pos (by have := HNL.out; omega)]; rfl, m, HW.out⟩
      · have hki : ¬ ((k : Int) < (N : Int)) := by omega
        by_cases hnm : N < M
        · have hnm1 : (N : Int) < (M : Int) := by omega
          go_wp2
          go_ret
          exact ⟨by rw [HO.out, HE.out, if_neg (by have := HNL.out; omega), if_pos (by have := HML.out; omega)]; rfl, m, HW.out⟩
        · have hnm1 : ¬ ((N : Int) < (M : Int)) := by omega
          have hnm2 : ¬ ((M : Int) < (N : Int)) := by omega
          go_wp2
          go_ret
          exact ⟨by rw [HO.out, HE.out, if_neg (by have := HNL.out; omega), if_neg (by have := HML.out; omega)]; rfl, m, HW.out⟩
set_option maxHeartbeats 1000000 in
theorem rCompare {la lb : List Lab} {va vb : Value} {n : Nat} {W : World} (hn : n ≤ W.heap.size) (ha : IsLabs n W va la) (hb : IsLabs n W vb lb) :
    Calls Tryd.prog 30 #[va, vb] W (Qt (.int .i64 (compareL la lb)) W) := by
  have HA := Lib.hid ha; have HB := Lib.hid hb; have HN := Lib.hid hn
  have HC := Lib.hid (show compareL la lb = if checkL la = 0 ∧ checkL lb = 0 then orderL la lb else 0 from rfl)
  clear ha hb hn
  go_enter Tryd.func30, Tryd.ntmps30; (try simp only [List.append_eq, List.cons_append, List.nil_append])
  go_wp2_with fail
  refine (rCheck3 HN.out HA.out).mono ?_
  rintro e w1 ⟨rfl, m1, hw1⟩
  have hb1 := below_drewN (Below.refl W.heap.size W) m1
  rw [← hw1] at hb1
  have HB1 := Lib.hid hb1; have HW1 := Lib.hid hw1
  clear hb1 hw1
  obtain ⟨c1, hc1⟩ : ∃ z, checkL la = z := ⟨_, rfl⟩
  rw [hc1] at HC ⊢
  clear hc1
  by_cases h1 : c1 = 0
  · subst h1
    go_wp2_with fail
    refine (rCheck3 (Nat.le_trans HN.out HB1.out.size) (HB.out.mono (HB1.out.mono HN.out) (Nat.le_refl _))).mono ?_
    rintro e w2 ⟨rfl, m2, hw2⟩
    have hb2 := below_drewN HB1.out m2
    rw [← hw2] at hb2
    have HB2 := Lib.hid hb2; have HW2 := Lib.hid (show w2 = W.drewN (m1 + m2) by rw [hw2, HW1.out, World.drewN_drewN])
    clear hb2 hw2
    obtain ⟨c2, hc2⟩ : ∃ z, checkL lb = z := ⟨_, rfl⟩
    rw [hc2] at HC ⊢
    clear hc2
    by_cases h2 : c2 = 0
    · subst h2
      go_wp2_with fail
      refine (rOrder (Nat.le_trans HN.out HB2.out.size) (HA.out.mono (HB2.out.mono HN.out) (Nat.le_refl _)) (HB.out.mono (HB2.out.mono HN.out) (Nat.le_refl _))).mono ?_
      rintro e w3 ⟨rfl, m3, hw3⟩
      have HW3 := Lib.hid (show w3 = W.drewN (m1 + m2 + m3) by rw [hw3, HW2.out, World.drewN_drewN])
      clear hw3
      go_wp2
      go_ret
      exact ⟨by rw [HC.out, if_pos (by simp)]; rfl, _, HW3.out⟩
    · have hx : (c2 != 0) = true := by simp [h2]
      have HZ := Lib.hid h2
      clear h2
      go_wp2
      go_ret
      exact ⟨by rw [HC.out, if_neg (fun h => HZ.out h.2)]; rfl, _, HW2.out⟩
  · have hx : (c1 != 0) = true := by simp [h1]
    have HZ := Lib.hid h1
    clear h1
    go_wp2
    go_ret
    exact ⟨by rw [HC.out, if_neg (fun h => HZ.out h.1)]; rfl, _, HW1.out⟩
theorem rLabels {la lb : List Lab} {va vb : Value} {n : Nat} {W : World} (hn : n ≤ W.heap.size) (ha : IsLabs n W va la) (hb : IsLabs n W vb lb) :
    Calls Tryd.prog 35 #[va, vb] W (Qt (.bool (decide (la = lb))) W) := by
  have HC := Lib.hid (rOrder hn ha hb)
  clear hn ha hb
  go_enter Tryd.func35, Tryd.ntmps35; (try simp only [List.append_eq, List.cons_append, List.nil_append])
  go_wp2_with fail
  refine HC.out.mono ?_
  rintro e w1 ⟨rfl, m1, hw1⟩
  have HW1 := Lib.hid hw1
  clear hw1 HC
  have HE := Lib.hid (show (orderL la lb == 0) = decide (la = lb) from by
    rw [Bool.eq_iff_iff]; simp only [beq_iff_eq, decide_eq_true_eq]; exact orderL_zero)
  generalize orderL la lb = c at *
  go_wp2
  go_ret
  exact ⟨by rw [← HE.out]; rfl, m1, HW1.out⟩
end Go.Proofs.YtgmdlnobajmjfaaDoor
