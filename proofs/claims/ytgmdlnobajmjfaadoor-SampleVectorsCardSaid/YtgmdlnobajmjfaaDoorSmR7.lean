/- ref04.Lines. -/
import Derived.Test.YtgmdlnobajmjfaaDoorSmR6
namespace Go.Proofs.YtgmdlnobajmjfaaDoor
open Go.RowKit
set_option linter.unusedSimpArgs false
set_option linter.unusedVariables false

theorem rDigs (n : Int) (w : World) (hn : i64 n) : Calls Tryd.prog 44 #[.int .i64 n] w fun e w' => e = .returned (.string ⟨(Lib.itoa n).toArray⟩) ∧ Below w.heap.size w w' := by
  obtain ⟨h1, h2⟩ := hn
  by_cases h : n < 0
  · obtain ⟨m, rfl⟩ : ∃ m : Nat, n = -(m : Int) := ⟨n.natAbs, by omega⟩
    have HI : Lib.itoa (-(m : Int)) = 45 :: Lib.decDigits m := by unfold Lib.itoa; rw [if_pos h, show (-(m : Int)).natAbs = m by omega]
    rw [HI]
    exact rDigitsNeg m w (by omega) (by omega)
  · obtain ⟨m, rfl⟩ : ∃ m : Nat, n = (m : Int) := ⟨n.toNat, by omega⟩
    have HI : Lib.itoa (m : Int) = Lib.decDigits m := by unfold Lib.itoa; rw [if_neg h, show (m : Int).toNat = m by omega]
    rw [HI]
    exact rDigitsPos m w (by omega)
def LT (v : List Rs) (k : Nat) : ByteArray := ⟨(linesT (v.take k)).toArray⟩
theorem LT_over {v : List Rs} {k : Nat} {l : List Lab} {x : Int} (h : v[k]? = some ⟨l, x, true⟩) : LT v (k + 1) = LT v k ++ textA l ++ ⟨#[32]⟩ ++ ⟨#[111, 118, 101, 114, 10]⟩ := by
  unfold LT
  rw [linesT_step h]
  apply ByteArray.ext
  simp [lineT, valT, ByteArray.data_append]
theorem LT_num {v : List Rs} {k : Nat} {l : List Lab} {x : Int} (h : v[k]? = some ⟨l, x, false⟩) : LT v (k + 1) = LT v k ++ textA l ++ ⟨#[32]⟩ ++ ⟨(Lib.itoa x).toArray⟩ ++ ⟨#[10]⟩ := by
  unfold LT
  rw [linesT_step h]
  apply ByteArray.ext
  simp [lineT, valT, ByteArray.data_append]
set_option maxRecDepth 100000 in
set_option maxHeartbeats 8000000 in
theorem rLines {v : List Rs} {va : Value} {n : Nat} {W : World} (hn : n ≤ W.heap.size) (ha : IsRes n W va v) (hlen : v.length ≤ 200) :
    Calls Tryd.prog 18 #[va] W fun e w' => e = .returned (.string ⟨(linesT v).toArray⟩) ∧ Below W.heap.size W w' := by
  obtain ⟨p, cap, rfl, hc1, hc2⟩ := ha.open
  unfold maxLen at hc2
  have HA := Lib.hid ha; have HN := Lib.hid hn
  clear ha hn
  obtain ⟨N, hN⟩ : ∃ z, v.length = z := ⟨_, rfl⟩
  rw [hN] at HA hc1 hlen ⊢
  have HNL := Lib.hid hN
  clear hN
  have hN2 : (N : Int) ≤ 200 := by omega
  have e32 : (⟨#[32]⟩ : ByteArray).size = 1 := rfl
  have e10 : (⟨#[10]⟩ : ByteArray).size = 1 := rfl
  have e5 : (⟨#[111, 118, 101, 114, 10]⟩ : ByteArray).size = 5 := rfl
  go_enter Tryd.func18, Tryd.ntmps18; (try simp only [List.append_eq, List.cons_append, List.nil_append])
  go_wp2_with fail
  go_loopw [3, 4] (fun s j wr => ∃ k : Nat, k ≤ N ∧ j = .int .i64 k ∧ s = .string (LT v k) ∧ Below W.heap.size W wr) (fun _ j _ => N - (intOf j).toNat)
  case atStart => exact ⟨0, Nat.zero_le _, rfl, rfl, Below.refl _ _⟩
  case round =>
    obtain ⟨k, hk, rfl, rfl, hb⟩ := hrel
    have HBW := Lib.hid hb
    have hsz := hb.size
    clear hb
    by_cases hlt : k < N
    · have hki : (k : Int) < (N : Int) := by omega
      obtain ⟨r, hr⟩ : ∃ r, v[k]? = some r := ⟨_, List.getElem?_eq_getElem (by have := HNL.out; omega)⟩
      obtain ⟨b1, o1, q1, c1, rfl, hb1, d0, d1, d2, hl1, h64⟩ := (HA.out.mono (HBW.out.mono HN.out) (Nat.le_refl _)).get hr
      have hTz : (LT v k).size ≤ 459400 := by
        obtain ⟨rows, ha1, ha2, ha3⟩ := HA.out
        have h1 := linesT_len (v := v.take k) (fun x hx => by
          obtain ⟨j, hj, rfl⟩ := List.getElem_of_mem (List.mem_of_mem_take hx)
          obtain ⟨q9, c9, -, -, h9⟩ := ha3 j (rows[j]'(by have := HNL.out; omega)) v[j] (by simp) (by simp)
          exact h9)
        rw [List.length_take] at h1
        have h2 : min k v.length * 2297 ≤ 200 * 2297 := Nat.mul_le_mul (by omega) (Nat.le_refl _)
        unfold LT
        rw [mk_size]
        omega
      have H64 := Lib.hid h64
      have HL1 := Lib.hid hl1
      have HR := Lib.hid hr
      clear hr hl1 h64
      obtain ⟨l1, x1, y1⟩ := r
      simp only at d0 d1 d2 HL1 H64
      have hP := textA_len l1
      have hD := Lib.itoa_length_le x1 H64.out.1 H64.out.2
      have HSO := Lib.hid (fun h : y1 = true => LT_over (v := v) (k := k) (l := l1) (x := x1) (by rw [HR.out, h]))
      have HSN := Lib.hid (fun h : y1 = false => LT_num (v := v) (k := k) (l := l1) (x := x1) (by rw [HR.out, h]))
      have HTX := Lib.hid (rText (Nat.le_trans HN.out hsz) HL1.out)
      have HDG := Lib.hid (fun w => rDigs x1 w H64.out)
      obtain ⟨m1, hm1⟩ : ∃ z, l1.length = z := ⟨_, rfl⟩
      rw [hm1] at d0 HTX
      clear hm1 HL1
      obtain ⟨T, hT⟩ : ∃ z, LT v k = z := ⟨_, rfl⟩
      rw [hT] at HSO HSN hTz ⊢
      obtain ⟨P, hPP⟩ : ∃ z, textA l1 = z := ⟨_, rfl⟩
      rw [hPP] at HSO HSN hP HTX
      obtain ⟨D, hDD⟩ : ∃ z : ByteArray, ⟨(Lib.itoa x1).toArray⟩ = z := ⟨_, rfl⟩
      have hDz : D.size ≤ 21 := by rw [← hDD, mk_size]; exact hD
      rw [hDD] at HSN HDG
      clear hT hPP hDD hD
      have hw1 : b1 < wr.heap.size := by have := HN.out; omega
      have r1 : ∀ w, (binOp BinOp.add 9 (.string T) (.string P)).run Tryd.prog w = .ok (.string (T ++ P)) w := fun w => concat_run _ _ w (by omega)
      have r2 : ∀ w, (binOp BinOp.add 9 (.string (T ++ P)) (.string ⟨#[32]⟩)).run Tryd.prog w = .ok (.string (T ++ P ++ ⟨#[32]⟩)) w := fun w => concat_run _ _ w (by rw [ByteArray.size_append, e32]; omega)
      have r3 : ∀ w, (binOp BinOp.add 9 (.string (T ++ P ++ ⟨#[32]⟩)) (.string ⟨#[111, 118, 101, 114, 10]⟩)).run Tryd.prog w = .ok (.string (T ++ P ++ ⟨#[32]⟩ ++ ⟨#[111, 118, 101, 114, 10]⟩)) w := fun w => concat_run _ _ w (by rw [ByteArray.size_append, ByteArray.size_append, e32, e5]; omega)
      have r4 : ∀ w, (binOp BinOp.add 9 (.string (T ++ P ++ ⟨#[32]⟩)) (.string D)).run Tryd.prog w = .ok (.string (T ++ P ++ ⟨#[32]⟩ ++ D)) w := fun w => concat_run _ _ w (by rw [ByteArray.size_append, ByteArray.size_append, e32]; omega)
      have r5 : ∀ w, (binOp BinOp.add 9 (.string (T ++ P ++ ⟨#[32]⟩ ++ D)) (.string ⟨#[10]⟩)).run Tryd.prog w = .ok (.string (T ++ P ++ ⟨#[32]⟩ ++ D ++ ⟨#[10]⟩)) w := fun w => concat_run _ _ w (by rw [ByteArray.size_append, ByteArray.size_append, ByteArray.size_append, e32, e10]; omega)
      have n1 : ¬ 9223372036854775807 < T.size + P.size := by omega
      have n2 : ¬ 9223372036854775807 < T.size + P.size + 1 := by omega
      have n3 : ¬ 9223372036854775807 < T.size + P.size + 1 + 5 := by omega
      have n4 : ¬ 9223372036854775807 < T.size + P.size + 1 + D.size := by omega
      have n5 : ¬ 9223372036854775807 < T.size + P.size + 1 + D.size + 1 := by omega
      clear r1 r2 r3 r4 r5
      go_wp2_with fail
      refine HTX.out.mono ?_
      rintro e w2 ⟨rfl, hb2⟩
      have d1 := (hb2.cell (p := ⟨b1, o1 + k * 3 + 1, none⟩) hw1).trans d1
      have d2 := (hb2.cell (p := ⟨b1, o1 + k * 3 + 2, none⟩) hw1).trans d2
      have HB2 := Lib.hid (HBW.out.trans (hb2.mono hsz))
      have hw2 : b1 < w2.heap.size := Nat.lt_of_lt_of_le hw1 hb2.size
      clear hb2 d0 hw1
      cases y1 with
      | true =>
        go_wp2_with fail
        exact ⟨⟨k + 1, by omega, by go_num, by rw [HSO.out (by simp)], HB2.out⟩, by simp [intOf]; omega⟩
      | false =>
        go_wp2_with fail
        refine (HDG.out _).mono ?_
        rintro e w3 ⟨rfl, hb3⟩
        have HB3 := Lib.hid (HB2.out.trans (hb3.mono HB2.out.size))
        clear hb3 d1 d2 hw2
        go_wp2_with fail
        exact ⟨⟨k + 1, by omega, by go_num, by rw [HSN.out (by simp)], HB3.out⟩, by simp [intOf]; omega⟩
    · have hkN : k = N := by omega
      have hki : ¬ ((k : Int) < (N : Int)) := by omega
      have HF := Lib.hid (show LT v k = ⟨(linesT v).toArray⟩ from by unfold LT; rw [hkN, ← HNL.out, List.take_length])
      clear hkN
      go_wp2
      go_ret
      exact ⟨by rw [HF.out]; rfl, HBW.out⟩
end Go.Proofs.YtgmdlnobajmjfaaDoor
