/- label.Text of any set, sample.Lines. -/
import Derived.Test.YtgmdlnobajmjfaaDoorSm5
import Derived.Test.YtgmdlnobajmjfaaDoorLa8
import Derived.Test.YtgmdlnobajmjfaaDoorSmb
namespace Go.Proofs.YtgmdlnobajmjfaaDoor
open Go.RowKit
set_option linter.unusedSimpArgs false
set_option linter.unusedVariables false

theorem rising_mem : ∀ {l : List Lab} {last : ByteArray}, rising last l = true → ∀ x ∈ l, labB x = true
  | [], _, _, _, hx => by cases hx
  | y :: l, last, h, x, hx => by
    simp only [rising, Bool.and_eq_true] at h
    rcases List.mem_cons.1 hx with rfl | hx
    · exact h.1.1
    · exact rising_mem h.2 x hx
theorem checkL_mem {l : List Lab} (h : checkL l = 0) : l.length ≤ 8 ∧ ∀ x ∈ l, nameB x.name = true ∧ 1 ≤ x.text.size ∧ x.text.size ≤ 64 := by
  unfold checkL at h
  split at h
  · omega
  · split at h
    · rename_i h1 h2
      refine ⟨by omega, fun x hx => ?_⟩
      have := rising_mem h2 x hx
      unfold labB at this
      simp only [Bool.and_eq_true, decide_eq_true_eq] at this
      exact ⟨this.1.1, this.1.2, this.2⟩
    · omega
theorem join_len2 (sep : List UInt8) (b : Nat) : ∀ l : List (List UInt8), (∀ x ∈ l, x.length ≤ b) → (Lib.join l sep).length ≤ l.length * (b + sep.length)
  | [], _ => by simp [Lib.join_nil]
  | [x], h => by have := h x (by simp); rw [Lib.join_one]; simp; omega
  | x :: y :: r, h => by
    have ih := join_len2 sep b (y :: r) (fun z hz => h z (by simp [hz]))
    have h1 := h x (by simp)
    have e : (Lib.join (x :: y :: r) sep).length = x.length + sep.length + (Lib.join (y :: r) sep).length := by
      rw [Lib.join_cons, Lib.join_cons]; simp [Lib.joinTail]; omega
    rw [e, List.length_cons (a := x), Nat.succ_mul]; omega
theorem mk_size (x : List UInt8) : (ByteArray.mk x.toArray).size = x.length := by simp [ByteArray.size]
def textA (l : List Lab) : ByteArray := if checkL l = 0 then textB l else ⟨#[]⟩
theorem part_len {x : Lab} (h1 : x.name.size ≤ 24) (h2 : x.text.size ≤ 64) : (partT x).data.toList.length ≤ 283 := by
  unfold partT
  have := quoteL_length x.text.data.toList
  simp only [ByteArray.toList_data_append, List.length_append]
  have e1 : x.name.data.toList.length = x.name.size := by simp
  have e2 : x.text.data.toList.length = x.text.size := by simp
  simp
  simp at this
  omega
theorem parts_len {l : List Lab} (h : checkL l = 0) : (Lib.join (l.map fun x => (partT x).data.toList) [44]).length ≤ 2272 := by
  obtain ⟨h8, hm⟩ := checkL_mem h
  have := join_len2 [44] 283 (l.map fun x => (partT x).data.toList) (fun y hy => by
    obtain ⟨x, hx, rfl⟩ := List.mem_map.1 hy
    have h1 := hm x hx
    exact part_len (nameB_size h1.1).2 h1.2.2)
  rw [List.length_map] at this
  have h2 : l.length * (283 + [44].length) ≤ 8 * 284 := Nat.mul_le_mul h8 (by simp)
  omega
theorem textA_len (l : List Lab) : (textA l).size ≤ 2274 := by
  unfold textA
  split
  · rename_i h
    have := parts_len h
    unfold textB
    have e3 : (ByteArray.mk #[123]).size = 1 := rfl
    have e4 : (ByteArray.mk #[125]).size = 1 := rfl
    have e5 := mk_size (Lib.join (l.map fun x => (partT x).data.toList) [44])
    rw [ByteArray.size_append, ByteArray.size_append]
    omega
  · exact Nat.zero_le _
theorem lTextA {l : List Lab} {v : Value} {n : Nat} {w : World} (hn : n ≤ w.heap.size) (h : IsLabs n w v l) :
    Calls Tryd.prog 39 #[v] w fun e w' => e = .returned (.string (textA l)) ∧ Below w.heap.size w w' := by
  by_cases hck : checkL l = 0
  · have e : textA l = textB l := if_pos hck
    rw [e]
    exact lText l v n w hn h hck (fun x hx => ⟨((checkL_mem hck).2 x hx).2.2, (nameB_size ((checkL_mem hck).2 x hx).1).2⟩) (by have := parts_len hck; omega)
  · have HE := Lib.hid (show textA l = ⟨#[]⟩ from if_neg hck)
    have HC := Lib.hid (lCheck l v n w hn h)
    obtain ⟨c, hc⟩ : ∃ z, checkL l = z := ⟨_, rfl⟩
    rw [hc] at HC hck
    have hx : (c != 0) = true := by simp [hck]
    clear hn h hc hck
    go_enter Tryd.func39, Tryd.ntmps39; (try simp only [List.append_eq, List.cons_append, List.nil_append])
    go_wp2_with fail
    refine HC.out.mono ?_
    rintro e w1 ⟨rfl, hb⟩
    have HB := Lib.hid hb
    clear hb
    go_wp2
    go_ret
    exact ⟨by rw [HE.out]; rfl, HB.out⟩
def valT (r : Rs) : List UInt8 := if r.over then [111, 118, 101, 114] else Lib.itoa r.n
def lineT (r : Rs) : List UInt8 := (textA r.labs).data.toList ++ [32] ++ valT r ++ [10]
def linesT (v : List Rs) : List UInt8 := v.flatMap lineT
theorem linesT_step {v : List Rs} {k : Nat} {r : Rs} (h : v[k]? = some r) : linesT (v.take (k + 1)) = linesT (v.take k) ++ lineT r := by
  unfold linesT
  rw [List.take_add_one, h]
  simp
theorem valT_len {r : Rs} (h : i64 r.n) : (valT r).length ≤ 21 := by
  unfold valT
  split
  · simp
  · exact Lib.itoa_length_le r.n h.1 h.2
theorem linesT_len : ∀ {v : List Rs}, (∀ r ∈ v, i64 r.n) → (linesT v).length ≤ v.length * 2297
  | [], _ => by simp [linesT]
  | r :: v, h => by
    have h1 := linesT_len (v := v) (fun x hx => h x (by simp [hx]))
    have h2 := valT_len (h r (by simp))
    have h3 := textA_len r.labs
    unfold linesT at h1 ⊢
    rw [List.flatMap_cons, List.length_append, List.length_cons, Nat.succ_mul]
    have e1 : (textA r.labs).data.toList.length = (textA r.labs).size := by simp
    have : (lineT r).length ≤ 2297 := by
      unfold lineT
      simp only [List.length_append, List.length_singleton]
      omega
    omega
set_option maxRecDepth 100000 in
set_option maxHeartbeats 8000000 in
theorem sLines {v : List Rs} {va : Value} {n : Nat} {W : World} (hn : n ≤ W.heap.size) (ha : IsRes n W va v) (hlen : v.length ≤ 1000) (hT : TB W.heap.size W) :
    Calls Tryd.prog 17 #[va] W fun e w' => e = .returned (.string ⟨(linesT v).toArray⟩) ∧ Below W.heap.size W w' := by
  obtain ⟨p, cap, rfl, hc1, hc2⟩ := ha.open
  unfold maxLen at hc2
  have HA := Lib.hid ha; have HN := Lib.hid hn; have HT := Lib.hid hT
  clear ha hn hT
  obtain ⟨N, hN⟩ : ∃ z, v.length = z := ⟨_, rfl⟩
  rw [hN] at HA hc1 hlen ⊢
  have HNL := Lib.hid hN
  clear hN
  have hN2 : (N : Int) ≤ 1000 := by omega
  go_enter Tryd.func17, Tryd.ntmps17; (try simp only [List.append_eq, List.cons_append, List.nil_append])
  go_upto_region 2 with fail
  have hb0 := (Below.refl W.heap.size W).alloc (Nat.le_refl _) (.cells #[.pointer none, .slice none 0 0] 60)
  have hbl := Bld.fresh W
  obtain ⟨B, hB⟩ : ∃ z, W.heap.size = z := ⟨_, rfl⟩
  obtain ⟨X, hX⟩ : ∃ z, W.alloc (.cells #[.pointer none, .slice none 0 0] 60) = z := ⟨_, rfl⟩
  rw [hX] at hb0 hbl ⊢
  rw [hB] at hb0 hbl HN HT ⊢
  have HB0 := Lib.hid hb0; have HBL := Lib.hid hbl
  have HBE := Lib.hid hB
  clear hX hb0 hbl hB
  go_wp2_with fail
  go_loopw [8] (fun j wr => ∃ k : Nat, k ≤ N ∧ j = .int .i64 k ∧ Bld B B (linesT (v.take k)) wr ∧ Below B W wr) (fun j _ => N - (intOf j).toNat)
  case atStart => exact ⟨0, Nat.zero_le _, rfl, HBL.out, HB0.out⟩
  case round =>
    obtain ⟨k, hk, rfl, hbd, hb⟩ := hrel
    have HD := Lib.hid hbd; have HBW := Lib.hid hb
    clear hbd hb
    have hBw : B < wr.heap.size := HD.out.lt
    by_cases hlt : k < N
    · have hki : (k : Int) < (N : Int) := by omega
      obtain ⟨r, hr⟩ : ∃ r, v[k]? = some r := ⟨_, List.getElem?_eq_getElem (by have := HNL.out; omega)⟩
      obtain ⟨b1, o1, q1, c1, rfl, hb1, d0, d1, d2, hl1, h64⟩ := (HA.out.mono (HBW.out.mono HN.out) (Nat.le_refl _)).get hr
      have HST := Lib.hid (linesT_step hr)
      have HLN := Lib.hid (show (linesT (v.take k)).length ≤ 2297000 from by
        obtain ⟨rows, ha1, ha2, ha3⟩ := HA.out
        have h1 := linesT_len (v := v.take k) (fun x hx => by
          obtain ⟨j, hj, rfl⟩ := List.getElem_of_mem (List.mem_of_mem_take hx)
          obtain ⟨q9, c9, -, -, h9⟩ := ha3 j (rows[j]'(by omega)) v[j] (by simp) (by simp)
          exact h9)
        rw [List.length_take] at h1
        have h2 : min k v.length * 2297 ≤ 1000 * 2297 := Nat.mul_le_mul (by omega) (Nat.le_refl _)
        omega)
      have H64 := Lib.hid h64
      have HL1 := Lib.hid hl1
      clear hr hl1 h64
      obtain ⟨l1, x1, y1⟩ := r
      simp only at d0 d1 d2 HL1 H64
      have HTL := Lib.hid (textA_len l1)
      have HVL := Lib.hid (valT_len (r := ⟨l1, x1, y1⟩) H64.out)
      have HLE := Lib.hid (show lineT ⟨l1, x1, y1⟩ = (textA l1).data.toList ++ [32] ++ valT ⟨l1, x1, y1⟩ ++ [10] from rfl)
      obtain ⟨m1, hm1⟩ : ∃ z, l1.length = z := ⟨_, rfl⟩
      rw [hm1] at d0 HL1
      clear hm1
      have hb1w : b1 < wr.heap.size := by have := HN.out; omega
      go_upto_region 5 with (refine wpList_store_new rfl 39 _ _ rfl #[.slice q1 m1 c1, .int .i64 x1, .bool y1] _ _ rfl rfl (by kernel_rfl) rfl (by kernel_rfl) ?_)
      have ho1 := (Below.refl wr.heap.size wr).alloc (Nat.le_refl _) (.cells #[.slice q1 m1 c1, .int .i64 x1, .bool y1] 39)
      have hk1 := Blk.new wr [.slice q1 m1 c1, .int .i64 x1, .bool y1] 39
      obtain ⟨g1, hg1⟩ : ∃ z, wr.heap.size = z := ⟨_, rfl⟩
      obtain ⟨w1, hw1⟩ : ∃ z, wr.alloc (.cells #[.slice q1 m1 c1, .int .i64 x1, .bool y1] 39) = z := ⟨_, rfl⟩
      have HB1 := Lib.hid (HBW.out.trans (ho1.mono (Nat.le_of_lt hBw)))
      have HD := Lib.hid (HD.out.keep ho1)
      have HL1 := Lib.hid (HL1.out.mono (ho1.mono (by have := HN.out; omega)) (Nat.le_refl _))
      rw [show wr.alloc (.cells ([.slice q1 m1 c1, .int .i64 x1, .bool y1] : List Value).toArray 39) = w1 from hw1] at hk1
      rw [hw1] at HB1 HD HL1 ⊢
      rw [hg1] at hk1 ⊢
      have HG1 := Lib.hid (show B < g1 by omega)
      have HK1 := Lib.hid hk1
      clear hw1 hg1 ho1 hk1 d0 d1 d2 hb1w hb1 hBw
      have e0 := HK1.out.cell 0 _ rfl; have gl1 := HK1.out.lt
      have hBw := HD.out.lt
      go_wp2_with fail
      refine (lTextA (by have := HN.out; omega) HL1.out).mono ?_
      rintro e w2 ⟨rfl, hb2⟩
      have HB2 := Lib.hid (HB1.out.trans (hb2.mono (Nat.le_of_lt hBw)))
      have HD := Lib.hid (HD.out.keep hb2); have HK1 := Lib.hid (HK1.out.keep hb2)
      clear hb2 e0 gl1 hBw
      go_wp2_with fail
      refine (bWS B B _ (textA l1) w2 HD.out (by have := HLN.out; have := HTL.out; omega) (Nat.le_of_lt HD.out.lt)).mono ?_
      rintro e w3 ⟨rfl, hD, hb3, hkp⟩
      have HB3 := Lib.hid (HB2.out.trans hb3)
      have HD := Lib.hid hD; have HK1 := Lib.hid (HK1.out.kp hkp (by have := HG1.out; omega) (by decide))
      clear hD hb3 hkp
      go_wp2_with fail
      refine (bWB B B _ 32 32 rfl w3 HD.out (by have := HLN.out; have := HTL.out; simp; omega) (Nat.le_of_lt HD.out.lt)).mono ?_
      rintro e w4 ⟨rfl, hD, hb4, hkp⟩
      have HB4 := Lib.hid (HB3.out.trans hb4)
      have HD := Lib.hid hD; have HK1 := Lib.hid (HK1.out.kp hkp (by have := HG1.out; omega) (by decide))
      clear hD hb4 hkp
      have e1 := HK1.out.cell 1 _ rfl; have e2 := HK1.out.cell 2 _ rfl; have gl1 := HK1.out.lt
      cases y1 with
      | true =>
        go_wp2_with fail
        refine (bWS B B _ ⟨#[111, 118, 101, 114]⟩ w4 HD.out (by have := HLN.out; have := HTL.out; have e9 : (ByteArray.mk #[111, 118, 101, 114]).size = 4 := rfl; simp [e9]; omega) (Nat.le_of_lt HD.out.lt)).mono ?_
        rintro e w5 ⟨rfl, hD, hb5, hkp⟩
        have HB5 := Lib.hid (HB4.out.trans hb5)
        have HD := Lib.hid hD
        clear hD hb5 hkp e1 e2 gl1
        go_wp2_with fail
        refine (bWB B B _ 10 10 rfl w5 HD.out (by have := HLN.out; have := HTL.out; simp; omega) (Nat.le_of_lt HD.out.lt)).mono ?_
        rintro e w6 ⟨rfl, hD, hb6, hkp⟩
        have HB6 := Lib.hid (HB5.out.trans hb6)
        have HD := Lib.hid hD
        clear hD hb6 hkp
        go_wp2
        exact ⟨⟨k + 1, by omega, by go_num, by rw [HST.out, HLE.out]; have h := HD.out; simp only [List.append_assoc] at h ⊢; exact h, HB6.out⟩, by simp [intOf]; omega⟩
      | false =>
        go_wp2_with fail
        refine (bFmt x1 H64.out B w4 (HT.out.on HB4.out)).mono ?_
        rintro e w5 ⟨rfl, hb5⟩
        have HD := Lib.hid (HD.out.keep hb5)
        have HB5 := Lib.hid (HB4.out.trans (hb5.mono (by have := HD.out.lt; have := HK1.out.lt; have := HG1.out; omega)))
        clear hb5 e1 e2 gl1
        go_wp2_with fail
        refine (bWS B B _ ⟨(Lib.itoa x1).toArray⟩ w5 HD.out (by have := HLN.out; have := HTL.out; have h := HVL.out; simp [valT] at h; rw [mk_size]; simp; omega) (Nat.le_of_lt HD.out.lt)).mono ?_
        rintro e w6 ⟨rfl, hD, hb6, hkp⟩
        have HB6 := Lib.hid (HB5.out.trans hb6)
        have HD := Lib.hid hD
        clear hD hb6 hkp
        go_wp2_with fail
        refine (bWB B B _ 10 10 rfl w6 HD.out (by have := HLN.out; have := HTL.out; have h := HVL.out; simp [valT] at h; simp; omega) (Nat.le_of_lt HD.out.lt)).mono ?_
        rintro e w7 ⟨rfl, hD, hb7, hkp⟩
        have HB7 := Lib.hid (HB6.out.trans hb7)
        have HD := Lib.hid hD
        clear hD hb7 hkp
        go_wp2
        exact ⟨⟨k + 1, by omega, by go_num, by rw [HST.out, HLE.out]; have h := HD.out; simp only [List.append_assoc] at h ⊢; exact h, HB7.out⟩, by simp [intOf]; omega⟩
    · have hkN : k = N := by omega
      subst hkN
      have hki : ¬ ((k : Int) < (k : Int)) := by omega
      have HE := Lib.hid (show v.take k = v from List.take_of_length_le (by rw [HNL.out]; exact Nat.le_refl _))
      go_wp2_with fail
      refine (bStr B B _ wr HD.out (Nat.le_of_lt HD.out.lt)).mono ?_
      rintro e w2 ⟨rfl, hD, hb2, hkp⟩
      have HB2 := Lib.hid (HBW.out.trans hb2)
      clear hD hb2 hkp
      go_wp2
      go_ret
      exact ⟨by rw [HE.out]; rfl, by rw [HBE.out]; exact HB2.out⟩
end Go.Proofs.YtgmdlnobajmjfaaDoor
