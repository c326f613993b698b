/- slices.Equal at labels, sample.same, slices.EqualFunc, sample.Same, kit.Vector. Printed by wip/gen_sm4.py out of wip/sm4.tmpl. -/
import Derived.Test.YtfmolimnnheaoaaGreatK7
import Derived.Test.YtfmolimnnheaoaaGreatK19
import Derived.Test.YtfmolimnnheaoaaGreatK1
namespace Go.Proofs.YtfmolimnnheaoaaGreat
open Go.RowKit
set_option linter.unusedSimpArgs false
set_option linter.unusedVariables false

theorem valIn (a b : Int) (o p : Bool) (w : World) : (Op.equalIn 10000 93 (.agg #[.int .i64 a, .bool o]) (.agg #[.int .i64 b, .bool p])).run Tryz.prog w = .ok (decide (a = b ∧ o = p)) w := by
  by_cases h1 : a = b
  · by_cases h2 : o = p
    · subst h1 h2
      simp [go_sem]
    · have h2' : (o == p) = false := by simpa using h2
      rw [decide_eq_false (fun e => h2 e.2)]
      simp [go_sem, h1, h2', h2]
  · have h1' : (a == b) = false := by simpa using h1
    rw [decide_eq_false (fun e => h1 e.1)]
    simp [go_sem, h1', h1]
theorem valNe (a b : Int) (o p : Bool) (w : World) : (binOp BinOp.neq 93 (.agg #[.int .i64 a, .bool o]) (.agg #[.int .i64 b, .bool p])).run Tryz.prog w = .ok (.bool (!decide (a = b ∧ o = p))) w := by
  rw [run_neq_struct, valIn]; rfl
theorem valEq (a b : Int) (o p : Bool) (w : World) : (binOp BinOp.eql 93 (.agg #[.int .i64 a, .bool o]) (.agg #[.int .i64 b, .bool p])).run Tryz.prog w = .ok (.bool (decide (a = b ∧ o = p))) w := by
  rw [run_eql_struct, valIn]; rfl
theorem neq_step {e : Operand → Value} {oi : Oper} {x y : Operand} (a b : Int) (o p : Bool) (w : World) (ho : oi.op = .binOp .neq 93 x y 93 := by rfl) (hx : e x = .agg #[.int .i64 a, .bool o] := by rfl) (hy : e y = .agg #[.int .i64 b, .bool p] := by rfl) :
    (execOp e oi).run Tryz.prog w = .ok (.value (.bool (!decide (a = b ∧ o = p)))) w := by
  have h := valNe a b o p w
  unfold execOp
  rw [ho]
  simp [hx, hy, go_sem, h]
  by_cases h1 : a = b <;> by_cases h2 : o = p <;> simp [h1, h2]
theorem rs_eq {a b : Rs} : a = b ↔ a.labs = b.labs ∧ a.n = b.n ∧ a.over = b.over := by
  cases a; cases b; simp
def sameB (a b : Rs) : Bool := decide (a.labs = b.labs) && decide (a.n = b.n ∧ a.over = b.over)
theorem sameB_eq (a b : Rs) : sameB a b = decide (a = b) := by
  unfold sameB
  rw [Bool.eq_iff_iff]
  simp only [Bool.and_eq_true, decide_eq_true_eq]
  exact rs_eq.symm
theorem take_eq_stepR {a b : List Rs} {k : Nat} {x y : Rs} (h : a.take k = b.take k) (hx : a[k]? = some x) (hy : b[k]? = some y) (he : x = y) : a.take (k + 1) = b.take (k + 1) := by
  rw [List.take_add_one, List.take_add_one, hx, hy, h, he]
theorem ne_of_atR {a b : List Rs} {k : Nat} {x y : Rs} (hx : a[k]? = some x) (hy : b[k]? = some y) (he : x ≠ y) : a ≠ b := by
  rintro rfl
  rw [hx] at hy
  exact he (Option.some.inj hy)
set_option maxRecDepth 100000 in
set_option maxHeartbeats 16000000 in
theorem kVector {la lb : List Rs} {va vb : Value} {n : Nat} {W : World} (hn : n ≤ W.heap.size) (ha : IsRes n W va la) (hb : IsRes n W vb lb) :
    Calls Tryz.prog 46 #[va, vb] W fun e w' => e = .returned (.bool (decide (la = lb))) ∧ Below W.heap.size W w' := by
  obtain ⟨p, cap, rfl, hc1, hc2⟩ := ha.open
  obtain ⟨q, cbp, rfl, hd1, hd2⟩ := hb.open
  unfold maxLen at hc2 hd2
  have HA := Lib.hid ha; have HB := Lib.hid hb; have HN := Lib.hid hn
  clear ha hb hn
  obtain ⟨N, hN⟩ : ∃ z, la.length = z := ⟨_, rfl⟩
  obtain ⟨M, hM⟩ : ∃ z, lb.length = z := ⟨_, rfl⟩
  rw [hN] at HA hc1 ⊢
  rw [hM] at HB hd1 ⊢
  have HNL := Lib.hid hN; have HML := Lib.hid hM
  have hN2 : (N : Int) ≤ 9223372036854775807 := by omega
  have hM2 : (M : Int) ≤ 9223372036854775807 := by omega
  clear hN hM
  by_cases hl : N = M
  · subst hl
    have hll : ((N : Int) != (N : Int)) = false := by simp
    go_enter Tryz.func46, Tryz.ntmps46; (try simp only [List.append_eq, List.cons_append, List.nil_append])
    go_wp2
    go_loopw [5] (fun i wr => ∃ k : Nat, k ≤ N ∧ i = .int .i64 k ∧ la.take k = lb.take k ∧ Below W.heap.size W wr) (fun i _ => N - (intOf i).toNat)
    case atStart => exact ⟨0, Nat.zero_le _, rfl, by simp, Below.refl _ _⟩
    case round =>
      obtain ⟨k, hk, rfl, hr, hbl⟩ := hrel
      have HRT := Lib.hid hr; have HBW := Lib.hid hbl
      have hsz := hbl.size
      clear hr hbl
      by_cases hlt : k < N
      · have hki : (k : Int) < (N : Int) := by omega
        have hk0 : (0 : Int) ≤ (k : Int) := by omega
        obtain ⟨r, hr⟩ : ∃ r, la[k]? = some r := ⟨_, List.getElem?_eq_getElem (by have := HNL.out; omega)⟩
        obtain ⟨s, hs⟩ : ∃ r, lb[k]? = some r := ⟨_, List.getElem?_eq_getElem (by have := HML.out; omega)⟩
        obtain ⟨X, hX⟩ : ∃ z, z = wr := ⟨_, rfl⟩
        subst hX
        obtain ⟨b1, o1, q1, c1, rfl, hb1, d0, d1, d2, hl1, -⟩ := (HA.out.mono (HBW.out.mono HN.out) (Nat.le_trans HN.out hsz)).get hr
        obtain ⟨b2, o2, q2, c2, rfl, hb2, e0, e1, e2, hl2, -⟩ := (HB.out.mono (HBW.out.mono HN.out) (Nat.le_trans HN.out hsz)).get hs
        have HL1 := Lib.hid hl1; have HL2 := Lib.hid hl2
        have HRR := Lib.hid hr; have HSS := Lib.hid hs
        clear hr hs hl1 hl2
        obtain ⟨l1, x1, y1⟩ := r
        obtain ⟨l2, x2, y2⟩ := s
        simp only at d0 d1 d2 e0 e1 e2 HL1 HL2
        go_upto_region 6 with fail
        by_cases hll1 : l1 = l2
        · have HEQ := Lib.hid (decide_eq_true hll1)
          have HLL := Lib.hid hll1
          clear hll1
          by_cases hxy : x1 = x2 ∧ y1 = y2
          · have HE := Lib.hid (take_eq_stepR HRT.out HRR.out HSS.out (rs_eq.2 ⟨HLL.out, hxy⟩))
            have HXY := Lib.hid (decide_eq_true hxy)
            clear hxy
            refine wp_region_held_drew (S := fun w => Below X.heap.size X w) (by kernel_rfl) (Below.drew (Below.refl _ _)) (fun hHeld => ?_)
            have HS := Lib.hid (Below.drew (Below.refl X.heap.size X))
            try clear hHeld
            have hSS := HS.out
            obtain ⟨X2, hX2⟩ : ∃ z, X.drew = z := ⟨_, rfl⟩
            rw [hX2] at HS hSS ⊢
            clear hX2
            (refine htk 0 17 ?_ rfl ?_ ?_; rotate_left; (intro w hSw; clear hSw; go_simp); (try with_reducible rfl); simp only [lsz, lss])
            (refine htk 1 18 ?_ rfl ?_ ?_; rotate_left; (intro w hSw; clear hSw; go_simp); (try with_reducible rfl); simp only [lsz, lss])
            (refine htk 2 19 (.pointer (some ⟨b1, o1 + k * 3, none⟩)) rfl ?_ ?_; (intro w hSw; clear hSw; go_simp); simp only [lsz, lss])
            (refine htk 3 20 (.pointer (some ⟨b1, o1 + k * 3, none⟩)) rfl ?_ ?_; (intro w hSw; clear hSw; first | rfl | go_simp); simp only [lsz, lss])
            (refine htk 4 21 (.slice q1 l1.length c1) rfl ?_ ?_; (intro w hSw; have f_d0 := (hSw.cell (p := ⟨b1, o1 + k * 3, none⟩) hb1).trans d0; clear hSw; go_simp); simp only [lsz, lss])
            (refine htk 5 22 ?_ rfl ?_ ?_; rotate_left; (intro w hSw; clear hSw; go_simp); (try with_reducible rfl); simp only [lsz, lss])
            (refine htk 6 23 ?_ rfl ?_ ?_; rotate_left; (intro w hSw; clear hSw; go_simp); (try with_reducible rfl); simp only [lsz, lss])
            (refine htk 7 24 (.pointer (some ⟨b2, o2 + k * 3, none⟩)) rfl ?_ ?_; (intro w hSw; clear hSw; go_simp); simp only [lsz, lss])
            (refine htk 8 25 (.pointer (some ⟨b2, o2 + k * 3, none⟩)) rfl ?_ ?_; (intro w hSw; clear hSw; first | rfl | go_simp); simp only [lsz, lss])
            (refine htk 9 26 (.slice q2 l2.length c2) rfl ?_ ?_; (intro w hSw; have f_e0 := (hSw.cell (p := ⟨b2, o2 + k * 3, none⟩) hb2).trans e0; clear hSw; go_simp); simp only [lsz, lss])
            refine hrd 10 rfl (fun K hK => ?_)
            rw [if_pos (by kernel_rfl)]
            go_simp
            refine (kLabels l1 l2 _ _ X.heap.size _ HS.out.size (HL1.out.mono HS.out (Nat.le_refl _)) (HL2.out.mono HS.out (Nat.le_refl _))).mono ?_
            rintro e w9 ⟨rfl, hb9⟩
            rw [HEQ.out]
            have HS := Lib.hid (HS.out.trans (hb9.mono HS.out.size))
            clear hb9
            have hSS := HS.out
            refine hK.out _ _ HS.out (fun hHeld => ?_)
            clear hK K
            (try simp only [Act.put, lsa, lsz, lss])
            (refine htk 11 28 ?_ rfl ?_ ?_; rotate_left; (intro w hSw; clear hSw; go_simp); (try with_reducible rfl); simp only [lsz, lss])
            (refine htk 12 29 ?_ rfl ?_ ?_; rotate_left; (intro w hSw; clear hSw; go_simp); (try with_reducible rfl); simp only [lsz, lss])
            (refine htk 13 30 ?_ rfl ?_ ?_; rotate_left; (intro w hSw; clear hSw; go_simp); (try with_reducible rfl); simp only [lsz, lss])
            (refine htk 14 31 ?_ rfl ?_ ?_; rotate_left; (intro w hSw; clear hSw; go_simp); (try with_reducible rfl); simp only [lsz, lss])
            (refine htk 15 32 (.pointer (some ⟨b1, o1 + k * 3, none⟩)) rfl ?_ ?_; (intro w hSw; clear hSw; go_simp); simp only [lsz, lss])
            (refine htk 16 33 (.pointer (some ⟨b1, o1 + k * 3 + 1, none⟩)) rfl ?_ ?_; (intro w hSw; clear hSw; first | rfl | go_simp); simp only [lsz, lss])
            (refine htk 17 34 (.agg #[.int .i64 x1, .bool y1]) rfl ?_ ?_; (intro w hSw; have f_d1 := (hSw.cell (p := ⟨b1, o1 + k * 3 + 1, none⟩) hb1).trans d1; have f_d2 := (hSw.cell (p := ⟨b1, o1 + k * 3 + 2, none⟩) hb1).trans d2; clear hSw; go_simp); simp only [lsz, lss])
            (refine htk 18 35 ?_ rfl ?_ ?_; rotate_left; (intro w hSw; clear hSw; go_simp); (try with_reducible rfl); simp only [lsz, lss])
            (refine htk 19 36 ?_ rfl ?_ ?_; rotate_left; (intro w hSw; clear hSw; go_simp); (try with_reducible rfl); simp only [lsz, lss])
            (refine htk 20 37 (.pointer (some ⟨b2, o2 + k * 3, none⟩)) rfl ?_ ?_; (intro w hSw; clear hSw; go_simp); simp only [lsz, lss])
            (refine htk 21 38 (.pointer (some ⟨b2, o2 + k * 3 + 1, none⟩)) rfl ?_ ?_; (intro w hSw; clear hSw; first | rfl | go_simp); simp only [lsz, lss])
            (refine htk 22 39 (.agg #[.int .i64 x2, .bool y2]) rfl ?_ ?_; (intro w hSw; have f_e1 := (hSw.cell (p := ⟨b2, o2 + k * 3 + 1, none⟩) hb2).trans e1; have f_e2 := (hSw.cell (p := ⟨b2, o2 + k * 3 + 2, none⟩) hb2).trans e2; clear hSw; go_simp); simp only [lsz, lss])
            (refine htk 23 40 (.bool false) rfl ?_ ?_; (intro w hSw; clear hSw; exact (neq_step x1 x2 y1 y2 w).trans (by rw [HXY.out]; rfl)); simp only [lsz, lss])
            (refine htk 24 41 (.bool false) rfl ?_ ?_; (intro w hSw; clear hSw; first | rfl | go_simp); simp only [lsz, lss])
            refine wpAnyH_done (by kernel_rfl) ?_ _
            go_wp2
            exact ⟨⟨k + 1, by omega, by go_num, HE.out, HBW.out.trans (HS.out.mono HBW.out.size)⟩, by simp [intOf]; omega⟩
          · have HE := Lib.hid (ne_of_atR HRR.out HSS.out (fun e => hxy (rs_eq.1 e).2))
            have HXY := Lib.hid (decide_eq_false hxy)
            clear hxy
            refine wp_region_held_drew (S := fun w => Below X.heap.size X w) (by kernel_rfl) (Below.drew (Below.refl _ _)) (fun hHeld => ?_)
            have HS := Lib.hid (Below.drew (Below.refl X.heap.size X))
            try clear hHeld
            have hSS := HS.out
            obtain ⟨X2, hX2⟩ : ∃ z, X.drew = z := ⟨_, rfl⟩
            rw [hX2] at HS hSS ⊢
            clear hX2
            (refine htk 0 17 ?_ rfl ?_ ?_; rotate_left; (intro w hSw; clear hSw; go_simp); (try with_reducible rfl); simp only [lsz, lss])
            (refine htk 1 18 ?_ rfl ?_ ?_; rotate_left; (intro w hSw; clear hSw; go_simp); (try with_reducible rfl); simp only [lsz, lss])
            (refine htk 2 19 (.pointer (some ⟨b1, o1 + k * 3, none⟩)) rfl ?_ ?_; (intro w hSw; clear hSw; go_simp); simp only [lsz, lss])
            (refine htk 3 20 (.pointer (some ⟨b1, o1 + k * 3, none⟩)) rfl ?_ ?_; (intro w hSw; clear hSw; first | rfl | go_simp); simp only [lsz, lss])
            (refine htk 4 21 (.slice q1 l1.length c1) rfl ?_ ?_; (intro w hSw; have f_d0 := (hSw.cell (p := ⟨b1, o1 + k * 3, none⟩) hb1).trans d0; clear hSw; go_simp); simp only [lsz, lss])
            (refine htk 5 22 ?_ rfl ?_ ?_; rotate_left; (intro w hSw; clear hSw; go_simp); (try with_reducible rfl); simp only [lsz, lss])
            (refine htk 6 23 ?_ rfl ?_ ?_; rotate_left; (intro w hSw; clear hSw; go_simp); (try with_reducible rfl); simp only [lsz, lss])
            (refine htk 7 24 (.pointer (some ⟨b2, o2 + k * 3, none⟩)) rfl ?_ ?_; (intro w hSw; clear hSw; go_simp); simp only [lsz, lss])
            (refine htk 8 25 (.pointer (some ⟨b2, o2 + k * 3, none⟩)) rfl ?_ ?_; (intro w hSw; clear hSw; first | rfl | go_simp); simp only [lsz, lss])
            (refine htk 9 26 (.slice q2 l2.length c2) rfl ?_ ?_; (intro w hSw; have f_e0 := (hSw.cell (p := ⟨b2, o2 + k * 3, none⟩) hb2).trans e0; clear hSw; go_simp); simp only [lsz, lss])
            refine hrd 10 rfl (fun K hK => ?_)
            rw [if_pos (by kernel_rfl)]
            go_simp
            refine (kLabels l1 l2 _ _ X.heap.size _ HS.out.size (HL1.out.mono HS.out (Nat.le_refl _)) (HL2.out.mono HS.out (Nat.le_refl _))).mono ?_
            rintro e w9 ⟨rfl, hb9⟩
            rw [HEQ.out]
            have HS := Lib.hid (HS.out.trans (hb9.mono HS.out.size))
            clear hb9
            have hSS := HS.out
            refine hK.out _ _ HS.out (fun hHeld => ?_)
            clear hK K
            (try simp only [Act.put, lsa, lsz, lss])
            (refine htk 11 28 ?_ rfl ?_ ?_; rotate_left; (intro w hSw; clear hSw; go_simp); (try with_reducible rfl); simp only [lsz, lss])
            (refine htk 12 29 ?_ rfl ?_ ?_; rotate_left; (intro w hSw; clear hSw; go_simp); (try with_reducible rfl); simp only [lsz, lss])
            (refine htk 13 30 ?_ rfl ?_ ?_; rotate_left; (intro w hSw; clear hSw; go_simp); (try with_reducible rfl); simp only [lsz, lss])
            (refine htk 14 31 ?_ rfl ?_ ?_; rotate_left; (intro w hSw; clear hSw; go_simp); (try with_reducible rfl); simp only [lsz, lss])
            (refine htk 15 32 (.pointer (some ⟨b1, o1 + k * 3, none⟩)) rfl ?_ ?_; (intro w hSw; clear hSw; go_simp); simp only [lsz, lss])
            (refine htk 16 33 (.pointer (some ⟨b1, o1 + k * 3 + 1, none⟩)) rfl ?_ ?_; (intro w hSw; clear hSw; first | rfl | go_simp); simp only [lsz, lss])
            (refine htk 17 34 (.agg #[.int .i64 x1, .bool y1]) rfl ?_ ?_; (intro w hSw; have f_d1 := (hSw.cell (p := ⟨b1, o1 + k * 3 + 1, none⟩) hb1).trans d1; have f_d2 := (hSw.cell (p := ⟨b1, o1 + k * 3 + 2, none⟩) hb1).trans d2; clear hSw; go_simp); simp only [lsz, lss])
            (refine htk 18 35 ?_ rfl ?_ ?_; rotate_left; (intro w hSw; clear hSw; go_simp); (try with_reducible rfl); simp only [lsz, lss])
            (refine htk 19 36 ?_ rfl ?_ ?_; rotate_left; (intro w hSw; clear hSw; go_simp); (try with_reducible rfl); simp only [lsz, lss])
            (refine htk 20 37 (.pointer (some ⟨b2, o2 + k * 3, none⟩)) rfl ?_ ?_; (intro w hSw; clear hSw; go_simp); simp only [lsz, lss])
            (refine htk 21 38 (.pointer (some ⟨b2, o2 + k * 3 + 1, none⟩)) rfl ?_ ?_; (intro w hSw; clear hSw; first | rfl | go_simp); simp only [lsz, lss])
            (refine htk 22 39 (.agg #[.int .i64 x2, .bool y2]) rfl ?_ ?_; (intro w hSw; have f_e1 := (hSw.cell (p := ⟨b2, o2 + k * 3 + 1, none⟩) hb2).trans e1; have f_e2 := (hSw.cell (p := ⟨b2, o2 + k * 3 + 2, none⟩) hb2).trans e2; clear hSw; go_simp); simp only [lsz, lss])
            (refine htk 23 40 (.bool true) rfl ?_ ?_; (intro w hSw; clear hSw; exact (neq_step x1 x2 y1 y2 w).trans (by rw [HXY.out]; rfl)); simp only [lsz, lss])
            (refine htk 24 41 (.bool true) rfl ?_ ?_; (intro w hSw; clear hSw; first | rfl | go_simp); simp only [lsz, lss])
            refine wpAnyH_done (by kernel_rfl) ?_ _
            go_wp2
            go_ret
            exact ⟨ret_bool (decide_eq_false HE.out).symm, HBW.out.trans (HS.out.mono HBW.out.size)⟩
        · have HEQ := Lib.hid (decide_eq_false hll1)
          have HXY := Lib.hid (ne_of_atR HRR.out HSS.out (fun e => hll1 (rs_eq.1 e).1))
          clear hll1
          refine wp_region_held_drew (S := fun w => Below X.heap.size X w) (by kernel_rfl) (Below.drew (Below.refl _ _)) (fun hHeld => ?_)
          have HS := Lib.hid (Below.drew (Below.refl X.heap.size X))
          try clear hHeld
          have hSS := HS.out
          obtain ⟨X2, hX2⟩ : ∃ z, X.drew = z := ⟨_, rfl⟩
          rw [hX2] at HS hSS ⊢
          clear hX2
          (refine htk 0 17 ?_ rfl ?_ ?_; rotate_left; (intro w hSw; clear hSw; go_simp); (try with_reducible rfl); simp only [lsz, lss])
          (refine htk 1 18 ?_ rfl ?_ ?_; rotate_left; (intro w hSw; clear hSw; go_simp); (try with_reducible rfl); simp only [lsz, lss])
          (refine htk 2 19 (.pointer (some ⟨b1, o1 + k * 3, none⟩)) rfl ?_ ?_; (intro w hSw; clear hSw; go_simp); simp only [lsz, lss])
          (refine htk 3 20 (.pointer (some ⟨b1, o1 + k * 3, none⟩)) rfl ?_ ?_; (intro w hSw; clear hSw; first | rfl | go_simp); simp only [lsz, lss])
          (refine htk 4 21 (.slice q1 l1.length c1) rfl ?_ ?_; (intro w hSw; have f_d0 := (hSw.cell (p := ⟨b1, o1 + k * 3, none⟩) hb1).trans d0; clear hSw; go_simp); simp only [lsz, lss])
          (refine htk 5 22 ?_ rfl ?_ ?_; rotate_left; (intro w hSw; clear hSw; go_simp); (try with_reducible rfl); simp only [lsz, lss])
          (refine htk 6 23 ?_ rfl ?_ ?_; rotate_left; (intro w hSw; clear hSw; go_simp); (try with_reducible rfl); simp only [lsz, lss])
          (refine htk 7 24 (.pointer (some ⟨b2, o2 + k * 3, none⟩)) rfl ?_ ?_; (intro w hSw; clear hSw; go_simp); simp only [lsz, lss])
          (refine htk 8 25 (.pointer (some ⟨b2, o2 + k * 3, none⟩)) rfl ?_ ?_; (intro w hSw; clear hSw; first | rfl | go_simp); simp only [lsz, lss])
          (refine htk 9 26 (.slice q2 l2.length c2) rfl ?_ ?_; (intro w hSw; have f_e0 := (hSw.cell (p := ⟨b2, o2 + k * 3, none⟩) hb2).trans e0; clear hSw; go_simp); simp only [lsz, lss])
          refine hrd 10 rfl (fun K hK => ?_)
          rw [if_pos (by kernel_rfl)]
          go_simp
          refine (kLabels l1 l2 _ _ X.heap.size _ HS.out.size (HL1.out.mono HS.out (Nat.le_refl _)) (HL2.out.mono HS.out (Nat.le_refl _))).mono ?_
          rintro e w9 ⟨rfl, hb9⟩
          rw [HEQ.out]
          have HS := Lib.hid (HS.out.trans (hb9.mono HS.out.size))
          clear hb9
          have hSS := HS.out
          refine hK.out _ _ HS.out (fun hHeld => ?_)
          clear hK K
          (try simp only [Act.put, lsa, lsz, lss])
          (refine htk 11 28 ?_ rfl ?_ ?_; rotate_left; (intro w hSw; clear hSw; go_simp); (try with_reducible rfl); simp only [lsz, lss])
          (refine htk 12 29 ?_ rfl ?_ ?_; rotate_left; (intro w hSw; clear hSw; go_simp); (try with_reducible rfl); simp only [lsz, lss])
          (refine held_skip 13 30 rfl (by kernel_rfl) (by kernel_rfl) (by kernel_rfl) (by kernel_rfl) (fun _ _ _ h => h) (by kernel_rfl) (by assumption) ?_; simp only [lsz, lss])
          (refine held_skip 14 31 rfl (by kernel_rfl) (by kernel_rfl) (by kernel_rfl) (by kernel_rfl) (fun _ _ _ h => h) (by kernel_rfl) (by assumption) ?_; simp only [lsz, lss])
          (refine held_skip 15 32 rfl (by kernel_rfl) (by kernel_rfl) (by kernel_rfl) (by kernel_rfl) (fun _ _ _ h => h) (by kernel_rfl) (by assumption) ?_; simp only [lsz, lss])
          (refine held_skip 16 33 rfl (by kernel_rfl) (by kernel_rfl) (by kernel_rfl) (by kernel_rfl) (fun _ _ _ h => h) (by kernel_rfl) (by assumption) ?_; simp only [lsz, lss])
          (refine held_skip 17 34 rfl (by kernel_rfl) (by kernel_rfl) (by kernel_rfl) (by kernel_rfl) (fun _ _ _ h => h) (by kernel_rfl) (by assumption) ?_; simp only [lsz, lss])
          (refine held_skip 18 35 rfl (by kernel_rfl) (by kernel_rfl) (by kernel_rfl) (by kernel_rfl) (fun _ _ _ h => h) (by kernel_rfl) (by assumption) ?_; simp only [lsz, lss])
          (refine held_skip 19 36 rfl (by kernel_rfl) (by kernel_rfl) (by kernel_rfl) (by kernel_rfl) (fun _ _ _ h => h) (by kernel_rfl) (by assumption) ?_; simp only [lsz, lss])
          (refine held_skip 20 37 rfl (by kernel_rfl) (by kernel_rfl) (by kernel_rfl) (by kernel_rfl) (fun _ _ _ h => h) (by kernel_rfl) (by assumption) ?_; simp only [lsz, lss])
          (refine held_skip 21 38 rfl (by kernel_rfl) (by kernel_rfl) (by kernel_rfl) (by kernel_rfl) (fun _ _ _ h => h) (by kernel_rfl) (by assumption) ?_; simp only [lsz, lss])
          (refine held_skip 22 39 rfl (by kernel_rfl) (by kernel_rfl) (by kernel_rfl) (by kernel_rfl) (fun _ _ _ h => h) (by kernel_rfl) (by assumption) ?_; simp only [lsz, lss])
          (refine held_skip 23 40 rfl (by kernel_rfl) (by kernel_rfl) (by kernel_rfl) (by kernel_rfl) (fun _ _ _ h => h) (by kernel_rfl) (by assumption) ?_; simp only [lsz, lss])
          (refine htk 24 41 ?_ rfl ?_ ?_; rotate_left; (intro w hSw; clear hSw; go_simp); (try with_reducible rfl); simp only [lsz, lss])
          refine wpAnyH_done (by kernel_rfl) ?_ _
          go_wp2
          go_ret
          exact ⟨ret_bool (decide_eq_false HXY.out).symm, HBW.out.trans (HS.out.mono HBW.out.size)⟩
      · have hki : ¬ ((k : Int) < (N : Int)) := by omega
        have hkN : k = N := by omega
        have HE := Lib.hid (show la = lb from by
          have h := HRT.out
          rw [hkN, List.take_of_length_le (by rw [HNL.out]; omega), List.take_of_length_le (by rw [HML.out]; omega)] at h
          exact h)
        clear hkN
        go_wp2
        go_ret
        exact ⟨ret_bool (decide_eq_true HE.out).symm, HBW.out⟩
  · have hll : ((N : Int) != (M : Int)) = true := by simp; omega
    have HE := Lib.hid (show la ≠ lb from fun e => hl (by rw [← HNL.out, ← HML.out, e]))
    clear hl
    go_enter Tryz.func46, Tryz.ntmps46; (try simp only [List.append_eq, List.cons_append, List.nil_append])
    go_wp2
    go_ret
    exact ⟨ret_bool (decide_eq_false HE.out).symm, Below.refl _ _⟩
end Go.Proofs.YtfmolimnnheaoaaGreat

/- The reference's value check, CheckVector, Same. Printed by wip/gen_smr2.py out of wip/smr2.tmpl. -/
namespace Go.Proofs.YtfmolimnnheaoaaGreat
open Go.RowKit
set_option linter.unusedSimpArgs false
set_option linter.unusedVariables false

theorem rVal (x : Int) (o : Bool) (W : World) : Calls Tryz.prog 76 #[.agg #[.int .i64 x, .bool o]] W fun e w' => e = .returned (.int .i64 (if (!(o && decide (x ≠ 0))) = true then 0 else 2)) ∧ Below W.heap.size W w' := by
  cases o with
  | false =>
    go_enter Tryz.func76, Tryz.ntmps76; (try simp only [List.append_eq, List.cons_append, List.nil_append])
    go_wp2
    go_ret
    exact ⟨rfl, (Below.refl _ _).alloc (Nat.le_refl _) _⟩
  | true =>
    by_cases h : x = 0
    · subst h
      go_enter Tryz.func76, Tryz.ntmps76; (try simp only [List.append_eq, List.cons_append, List.nil_append])
      go_wp2
      go_ret
      exact ⟨rfl, (Below.refl _ _).alloc (Nat.le_refl _) _⟩
    · have hx : (x != 0) = true := by simp [h]
      have HE := Lib.hid (show (if (!(true && decide (x ≠ 0))) = true then (0 : Int) else 2) = 2 from by simp [h])
      clear h
      rw [HE.out]
      go_enter Tryz.func76, Tryz.ntmps76; (try simp only [List.append_eq, List.cons_append, List.nil_append])
      go_wp2
      go_ret
      exact ⟨rfl, (Below.refl _ _).alloc (Nat.le_refl _) _⟩
theorem Qt.below {v : Value} {W w' : World} {e : Ending} (h : Qt v W e w') : e = .returned v ∧ Below W.heap.size W w' := by
  obtain ⟨h1, n, rfl⟩ := h
  exact ⟨h1, below_drewN (Below.refl _ _) _⟩
theorem right_lab {r : Rs} (h : checkL r.labs ≠ 0) : rightR r = false := by unfold rightR; rw [decide_eq_false h]; rfl
theorem right_val {l : List Lab} {x : Int} {o : Bool} (h : (!(o && decide (x ≠ 0))) = false) : rightR ⟨l, x, o⟩ = false := by
  unfold rightR valB
  rw [h]; simp
theorem right_ok {l : List Lab} {x : Int} {o : Bool} (h1 : checkL l = 0) (h : (!(o && decide (x ≠ 0))) = true) : rightR ⟨l, x, o⟩ = true := by
  unfold rightR valB
  rw [h, decide_eq_true h1]; rfl
set_option maxRecDepth 100000 in
set_option maxHeartbeats 16000000 in
theorem rCheckV {l : List Rs} {v : Value} {n : Nat} {W : World} (hn : n ≤ W.heap.size) (hv : IsRes n W v l) :
    Calls Tryz.prog 45 #[v] W fun e w' => e = .returned (.int .i64 (checkV l)) ∧ Below W.heap.size W w' := by
  obtain ⟨pv, cv, rfl, hcv1, hcv2⟩ := hv.open
  unfold maxLen at hcv2
  have HV := Lib.hid hv; have HN := Lib.hid hn
  clear hv hn
  obtain ⟨N, hN⟩ : ∃ z, l.length = z := ⟨_, rfl⟩
  rw [hN] at HV hcv1 ⊢
  have HNL := Lib.hid hN
  clear hN
  have hlen : (N : Int) ≤ 9223372036854775807 := by omega
  by_cases h4 : 4096 < N
  · have h4i : (4096 : Int) < (N : Int) := by omega
    have HC := Lib.hid (show checkV l = 3 from by unfold checkV; rw [if_pos (by rw [HNL.out]; exact h4)])
    go_enter Tryz.func45, Tryz.ntmps45; (try simp only [List.append_eq, List.cons_append, List.nil_append])
    go_wp2
    go_ret
    exact ⟨by rw [HC.out]; rfl, Below.refl _ _⟩
  have h4j : (N : Int) ≤ 4096 := by omega
  have h4b : decide ((4096 : Int) < (N : Int)) = false := decide_eq_false (by omega)
  have H4 := Lib.hid (show ¬ 4096 < l.length from by rw [HNL.out]; exact h4)
  clear h4
  go_enter Tryz.func45, Tryz.ntmps45; (try simp only [List.append_eq, List.cons_append, List.nil_append])
  go_wp2
  go_loopw [3] (fun j wr => ∃ k : Nat, k ≤ N ∧ j = .int .i64 k ∧ upto (okAt l) k = true ∧ Below W.heap.size W wr) (fun j _ => N - (intOf j).toNat)
  case atStart => exact ⟨0, Nat.zero_le _, rfl, rfl, Below.refl _ _⟩
  case round =>
    obtain ⟨k, hk, rfl, hu, hb⟩ := hrel
    have HU := Lib.hid hu; have HBX := Lib.hid hb
    clear hu hb
    by_cases hlt : k < N
    · have hki : (k : Int) < (N : Int) := by omega
      have hk0 : (0 : Int) ≤ (k : Int) := by omega
      obtain ⟨r, hr⟩ : ∃ r, l[k]? = some r := ⟨_, List.getElem?_eq_getElem (by have := HNL.out; omega)⟩
      obtain ⟨X, hX⟩ : ∃ z, z = wr := ⟨_, rfl⟩
      subst hX
      have hvn := HV.out.mono (HBX.out.mono HN.out) (Nat.le_trans HN.out HBX.out.size)
      obtain ⟨b1, o2, q1, c1, rfl, hb1, d0, d1, d2, hl1, -⟩ := hvn.get hr
      have HVX := Lib.hid hvn
      have HR := Lib.hid hr
      have HL1 := Lib.hid hl1
      clear hvn hr hl1
      obtain ⟨l1, x1, o1⟩ := r
      simp only at d0 d1 d2 HL1
      obtain ⟨cl, hcl⟩ : ∃ z, checkL l1 = z := ⟨_, rfl⟩
      have HCL := Lib.hid hcl
      go_upto_region 6 with fail
      by_cases h0 : cl = 0
      case neg =>
        have HBAD := Lib.hid (ok_bad H4.out (by rw [HNL.out]; exact hlt) (ok_wrong HR.out (right_lab (r := ⟨l1, x1, o1⟩) (by show checkL l1 ≠ 0; rw [hcl]; exact h0))))
        have hx : (cl != 0) = true := by simp [h0]
        clear hcl h0
        refine wp_region_held_drew (S := fun w => Below X.heap.size X w) (by kernel_rfl) (Below.drew (Below.refl _ _)) (fun hHeld => ?_)
        have HS := Lib.hid (Below.drew (Below.refl X.heap.size X))
        try clear hHeld
        have hSS := HS.out
        obtain ⟨X2, hX2⟩ : ∃ z, X.drew = z := ⟨_, rfl⟩
        rw [hX2] at HS hSS ⊢
        clear hX2
        (refine htk 0 13 ?_ rfl ?_ ?_; rotate_left; (intro w hSw; clear hSw; go_simp); (try with_reducible rfl); simp only [lsz, lss])
        (refine htk 1 14 ?_ rfl ?_ ?_; rotate_left; (intro w hSw; clear hSw; go_simp); (try with_reducible rfl); simp only [lsz, lss])
        (refine htk 2 15 (.pointer (some ⟨b1, o2 + k * 3, none⟩)) rfl ?_ ?_; (intro w hSw; clear hSw; go_simp); simp only [lsz, lss])
        (refine htk 3 16 (.pointer (some ⟨b1, o2 + k * 3, none⟩)) rfl ?_ ?_; (intro w hSw; clear hSw; first | rfl | go_simp); simp only [lsz, lss])
        (refine htk 4 17 (.slice q1 l1.length c1) rfl ?_ ?_; (intro w hSw; have f_d0 := (hSw.cell (p := ⟨b1, o2 + k * 3, none⟩) hb1).trans d0; clear hSw; go_simp); simp only [lsz, lss])
        refine hrd 5 rfl (fun K hK => ?_)
        rw [if_pos (by kernel_rfl)]
        go_simp
        refine (rCheck3 HS.out.size (HL1.out.mono HS.out (Nat.le_refl _))).mono ?_
        rintro e w9 hq9
        obtain ⟨rfl, hb9⟩ := hq9.below
        clear hq9
        rw [HCL.out]
        have HS := Lib.hid (HS.out.trans (hb9.mono HS.out.size))
        clear hb9
        have hSS := HS.out
        refine hK.out _ _ HS.out (fun hHeld => ?_)
        clear hK K
        (try simp only [Act.put, lsa, lsz, lss])
        (refine htk 6 19 ?_ rfl ?_ ?_; rotate_left; (intro w hSw; clear hSw; go_simp); (try with_reducible rfl); simp only [lsz, lss])
        (refine htk 7 20 ?_ rfl ?_ ?_; rotate_left; (intro w hSw; clear hSw; go_simp); (try with_reducible rfl); simp only [lsz, lss])
        (refine held_skip 8 21 rfl (by kernel_rfl) (by kernel_rfl) (by kernel_rfl) (by kernel_rfl) (fun _ _ _ h => h) (by kernel_rfl) (by assumption) ?_; simp only [lsz, lss])
        (refine held_skip 9 22 rfl (by kernel_rfl) (by kernel_rfl) (by kernel_rfl) (by kernel_rfl) (fun _ _ _ h => h) (by kernel_rfl) (by assumption) ?_; simp only [lsz, lss])
        (refine held_skip 10 23 rfl (by kernel_rfl) (by kernel_rfl) (by kernel_rfl) (by kernel_rfl) (fun _ _ _ h => h) (by kernel_rfl) (by assumption) ?_; simp only [lsz, lss])
        (refine held_skip 11 24 rfl (by kernel_rfl) (by kernel_rfl) (by kernel_rfl) (by kernel_rfl) (fun _ _ _ h => h) (by kernel_rfl) (by assumption) ?_; simp only [lsz, lss])
        (refine held_skip 12 25 rfl (by kernel_rfl) (by kernel_rfl) (by kernel_rfl) (by kernel_rfl) (fun _ _ _ h => h) (by kernel_rfl) (by assumption) ?_; simp only [lsz, lss])
        (refine held_skip 13 26 rfl (by kernel_rfl) (by kernel_rfl) (by kernel_rfl) (by kernel_rfl) (fun _ _ _ h => h) (by kernel_rfl) (by assumption) ?_; simp only [lsz, lss])
        (refine held_skip 14 27 rfl (by kernel_rfl) (by kernel_rfl) (by kernel_rfl) (by kernel_rfl) (fun _ _ _ h => h) (by kernel_rfl) (by assumption) ?_; simp only [lsz, lss])
        (refine htk 15 28 ?_ rfl ?_ ?_; rotate_left; (intro w hSw; clear hSw; go_simp); (try with_reducible rfl); simp only [lsz, lss])
        (refine htk 16 29 ?_ rfl ?_ ?_; rotate_left; (intro w hSw; clear hSw; go_simp); (try with_reducible rfl); simp only [lsz, lss])
        (refine held_skip 17 30 rfl (by kernel_rfl) (by kernel_rfl) (by kernel_rfl) (by kernel_rfl) (fun _ _ _ h => h) (by kernel_rfl) (by assumption) ?_; simp only [lsz, lss])
        (refine held_skip 18 31 rfl (by kernel_rfl) (by kernel_rfl) (by kernel_rfl) (by kernel_rfl) (fun _ _ _ h => h) (by kernel_rfl) (by assumption) ?_; simp only [lsz, lss])
        (refine held_skip 19 32 rfl (by kernel_rfl) (by kernel_rfl) (by kernel_rfl) (by kernel_rfl) (fun _ _ _ h => h) (by kernel_rfl) (by assumption) ?_; simp only [lsz, lss])
        (refine held_skip 20 33 rfl (by kernel_rfl) (by kernel_rfl) (by kernel_rfl) (by kernel_rfl) (fun _ _ _ h => h) (by kernel_rfl) (by assumption) ?_; simp only [lsz, lss])
        (refine held_skip 21 34 rfl (by kernel_rfl) (by kernel_rfl) (by kernel_rfl) (by kernel_rfl) (fun _ _ _ h => h) (by kernel_rfl) (by assumption) ?_; simp only [lsz, lss])
        (refine held_skip 22 35 rfl (by kernel_rfl) (by kernel_rfl) (by kernel_rfl) (by kernel_rfl) (fun _ _ _ h => h) (by kernel_rfl) (by assumption) ?_; simp only [lsz, lss])
        (refine held_skip 23 36 rfl (by kernel_rfl) (by kernel_rfl) (by kernel_rfl) (by kernel_rfl) (fun _ _ _ h => h) (by kernel_rfl) (by assumption) ?_; simp only [lsz, lss])
        (refine held_skip 24 37 rfl (by kernel_rfl) (by kernel_rfl) (by kernel_rfl) (by kernel_rfl) (fun _ _ _ h => h) (by kernel_rfl) (by assumption) ?_; simp only [lsz, lss])
        (refine held_skip 25 38 rfl (by kernel_rfl) (by kernel_rfl) (by kernel_rfl) (by kernel_rfl) (fun _ _ _ h => h) (by kernel_rfl) (by assumption) ?_; simp only [lsz, lss])
        (refine held_skip 26 39 rfl (by kernel_rfl) (by kernel_rfl) (by kernel_rfl) (by kernel_rfl) (fun _ _ _ h => h) (by kernel_rfl) (by assumption) ?_; simp only [lsz, lss])
        (refine held_skip 27 40 rfl (by kernel_rfl) (by kernel_rfl) (by kernel_rfl) (by kernel_rfl) (fun _ _ _ h => h) (by kernel_rfl) (by assumption) ?_; simp only [lsz, lss])
        (refine held_skip 28 41 rfl (by kernel_rfl) (by kernel_rfl) (by kernel_rfl) (by kernel_rfl) (fun _ _ _ h => h) (by kernel_rfl) (by assumption) ?_; simp only [lsz, lss])
        (refine held_skip 29 42 rfl (by kernel_rfl) (by kernel_rfl) (by kernel_rfl) (by kernel_rfl) (fun _ _ _ h => h) (by kernel_rfl) (by assumption) ?_; simp only [lsz, lss])
        (refine held_skip 30 43 rfl (by kernel_rfl) (by kernel_rfl) (by kernel_rfl) (by kernel_rfl) (fun _ _ _ h => h) (by kernel_rfl) (by assumption) ?_; simp only [lsz, lss])
        (refine held_skip 31 44 rfl (by kernel_rfl) (by kernel_rfl) (by kernel_rfl) (by kernel_rfl) (fun _ _ _ h => h) (by kernel_rfl) (by assumption) ?_; simp only [lsz, lss])
        (refine held_skip 32 45 rfl (by kernel_rfl) (by kernel_rfl) (by kernel_rfl) (by kernel_rfl) (fun _ _ _ h => h) (by kernel_rfl) (by assumption) ?_; simp only [lsz, lss])
        (refine held_skip 33 46 rfl (by kernel_rfl) (by kernel_rfl) (by kernel_rfl) (by kernel_rfl) (fun _ _ _ h => h) (by kernel_rfl) (by assumption) ?_; simp only [lsz, lss])
        (refine htk 34 47 ?_ rfl ?_ ?_; rotate_left; (intro w hSw; clear hSw; go_simp); (try with_reducible rfl); simp only [lsz, lss])
        refine wpAnyH_done (by kernel_rfl) ?_ _
        go_wp2
        go_ret
        exact ⟨by rw [HBAD.out]; rfl, HBX.out.trans (HS.out.mono HBX.out.size)⟩
      subst h0
      obtain ⟨vb, hvb⟩ : ∃ z, (!(o1 && decide (x1 ≠ 0))) = z := ⟨_, rfl⟩
      have HVB := Lib.hid hvb
      cases vb with
      | false =>
        have HBAD := Lib.hid (ok_bad H4.out (by rw [HNL.out]; exact hlt) (ok_wrong HR.out (right_val hvb)))
        clear hcl hvb
        refine wp_region_held_drew (S := fun w => Below X.heap.size X w) (by kernel_rfl) (Below.drew (Below.refl _ _)) (fun hHeld => ?_)
        have HS := Lib.hid (Below.drew (Below.refl X.heap.size X))
        try clear hHeld
        have hSS := HS.out
        obtain ⟨X2, hX2⟩ : ∃ z, X.drew = z := ⟨_, rfl⟩
        rw [hX2] at HS hSS ⊢
        clear hX2
        (refine htk 0 13 ?_ rfl ?_ ?_; rotate_left; (intro w hSw; clear hSw; go_simp); (try with_reducible rfl); simp only [lsz, lss])
        (refine htk 1 14 ?_ rfl ?_ ?_; rotate_left; (intro w hSw; clear hSw; go_simp); (try with_reducible rfl); simp only [lsz, lss])
        (refine htk 2 15 (.pointer (some ⟨b1, o2 + k * 3, none⟩)) rfl ?_ ?_; (intro w hSw; clear hSw; go_simp); simp only [lsz, lss])
        (refine htk 3 16 (.pointer (some ⟨b1, o2 + k * 3, none⟩)) rfl ?_ ?_; (intro w hSw; clear hSw; first | rfl | go_simp); simp only [lsz, lss])
        (refine htk 4 17 (.slice q1 l1.length c1) rfl ?_ ?_; (intro w hSw; have f_d0 := (hSw.cell (p := ⟨b1, o2 + k * 3, none⟩) hb1).trans d0; clear hSw; go_simp); simp only [lsz, lss])
        refine hrd 5 rfl (fun K hK => ?_)
        rw [if_pos (by kernel_rfl)]
        go_simp
        refine (rCheck3 HS.out.size (HL1.out.mono HS.out (Nat.le_refl _))).mono ?_
        rintro e w9 hq9
        obtain ⟨rfl, hb9⟩ := hq9.below
        clear hq9
        rw [HCL.out]
        have HS := Lib.hid (HS.out.trans (hb9.mono HS.out.size))
        clear hb9
        have hSS := HS.out
        refine hK.out _ _ HS.out (fun hHeld => ?_)
        clear hK K
        (try simp only [Act.put, lsa, lsz, lss])
        (refine htk 6 19 (.bool false) rfl ?_ ?_; (intro w hSw; clear hSw; first | rfl | go_simp); simp only [lsz, lss])
        (refine htk 7 20 (.bool false) rfl ?_ ?_; (intro w hSw; clear hSw; first | rfl | go_simp); simp only [lsz, lss])
        (refine htk 8 21 ?_ rfl ?_ ?_; rotate_left; (intro w hSw; clear hSw; go_simp); (try with_reducible rfl); simp only [lsz, lss])
        (refine htk 9 22 ?_ rfl ?_ ?_; rotate_left; (intro w hSw; clear hSw; go_simp); (try with_reducible rfl); simp only [lsz, lss])
        (refine htk 10 23 (.pointer (some ⟨b1, o2 + k * 3, none⟩)) rfl ?_ ?_; (intro w hSw; clear hSw; go_simp); simp only [lsz, lss])
        (refine htk 11 24 (.pointer (some ⟨b1, o2 + k * 3 + 1, none⟩)) rfl ?_ ?_; (intro w hSw; clear hSw; first | rfl | go_simp); simp only [lsz, lss])
        (refine htk 12 25 (.agg #[.int .i64 x1, .bool o1]) rfl ?_ ?_; (intro w hSw; have f_d1 := (hSw.cell (p := ⟨b1, o2 + k * 3 + 1, none⟩) hb1).trans d1; have f_d2 := (hSw.cell (p := ⟨b1, o2 + k * 3 + 2, none⟩) hb1).trans d2; clear hSw; go_simp); simp only [lsz, lss])
        refine hrd 13 rfl (fun K hK => ?_)
        rw [if_pos (by kernel_rfl)]
        go_simp
        refine (rVal x1 o1 _).mono ?_
        rintro e w9 ⟨rfl, hb9⟩
        rw [HVB.out]
        simp only [Bool.false_eq_true, if_false, if_true]
        have HS := Lib.hid (HS.out.trans (hb9.mono HS.out.size))
        clear hb9
        have hSS := HS.out
        refine hK.out _ _ HS.out (fun hHeld => ?_)
        clear hK K
        (try simp only [Act.put, lsa, lsz, lss])
        (refine htk 14 27 ?_ rfl ?_ ?_; rotate_left; (intro w hSw; clear hSw; go_simp); (try with_reducible rfl); simp only [lsz, lss])
        (refine htk 15 28 ?_ rfl ?_ ?_; rotate_left; (intro w hSw; clear hSw; go_simp); (try with_reducible rfl); simp only [lsz, lss])
        (refine htk 16 29 ?_ rfl ?_ ?_; rotate_left; (intro w hSw; clear hSw; go_simp); (try with_reducible rfl); simp only [lsz, lss])
        (refine held_skip 17 30 rfl (by kernel_rfl) (by kernel_rfl) (by kernel_rfl) (by kernel_rfl) (fun _ _ _ h => h) (by kernel_rfl) (by assumption) ?_; simp only [lsz, lss])
        (refine held_skip 18 31 rfl (by kernel_rfl) (by kernel_rfl) (by kernel_rfl) (by kernel_rfl) (fun _ _ _ h => h) (by kernel_rfl) (by assumption) ?_; simp only [lsz, lss])
        (refine held_skip 19 32 rfl (by kernel_rfl) (by kernel_rfl) (by kernel_rfl) (by kernel_rfl) (fun _ _ _ h => h) (by kernel_rfl) (by assumption) ?_; simp only [lsz, lss])
        (refine held_skip 20 33 rfl (by kernel_rfl) (by kernel_rfl) (by kernel_rfl) (by kernel_rfl) (fun _ _ _ h => h) (by kernel_rfl) (by assumption) ?_; simp only [lsz, lss])
        (refine held_skip 21 34 rfl (by kernel_rfl) (by kernel_rfl) (by kernel_rfl) (by kernel_rfl) (fun _ _ _ h => h) (by kernel_rfl) (by assumption) ?_; simp only [lsz, lss])
        (refine held_skip 22 35 rfl (by kernel_rfl) (by kernel_rfl) (by kernel_rfl) (by kernel_rfl) (fun _ _ _ h => h) (by kernel_rfl) (by assumption) ?_; simp only [lsz, lss])
        (refine held_skip 23 36 rfl (by kernel_rfl) (by kernel_rfl) (by kernel_rfl) (by kernel_rfl) (fun _ _ _ h => h) (by kernel_rfl) (by assumption) ?_; simp only [lsz, lss])
        (refine held_skip 24 37 rfl (by kernel_rfl) (by kernel_rfl) (by kernel_rfl) (by kernel_rfl) (fun _ _ _ h => h) (by kernel_rfl) (by assumption) ?_; simp only [lsz, lss])
        (refine held_skip 25 38 rfl (by kernel_rfl) (by kernel_rfl) (by kernel_rfl) (by kernel_rfl) (fun _ _ _ h => h) (by kernel_rfl) (by assumption) ?_; simp only [lsz, lss])
        (refine held_skip 26 39 rfl (by kernel_rfl) (by kernel_rfl) (by kernel_rfl) (by kernel_rfl) (fun _ _ _ h => h) (by kernel_rfl) (by assumption) ?_; simp only [lsz, lss])
        (refine held_skip 27 40 rfl (by kernel_rfl) (by kernel_rfl) (by kernel_rfl) (by kernel_rfl) (fun _ _ _ h => h) (by kernel_rfl) (by assumption) ?_; simp only [lsz, lss])
        (refine held_skip 28 41 rfl (by kernel_rfl) (by kernel_rfl) (by kernel_rfl) (by kernel_rfl) (fun _ _ _ h => h) (by kernel_rfl) (by assumption) ?_; simp only [lsz, lss])
        (refine held_skip 29 42 rfl (by kernel_rfl) (by kernel_rfl) (by kernel_rfl) (by kernel_rfl) (fun _ _ _ h => h) (by kernel_rfl) (by assumption) ?_; simp only [lsz, lss])
        (refine held_skip 30 43 rfl (by kernel_rfl) (by kernel_rfl) (by kernel_rfl) (by kernel_rfl) (fun _ _ _ h => h) (by kernel_rfl) (by assumption) ?_; simp only [lsz, lss])
        (refine held_skip 31 44 rfl (by kernel_rfl) (by kernel_rfl) (by kernel_rfl) (by kernel_rfl) (fun _ _ _ h => h) (by kernel_rfl) (by assumption) ?_; simp only [lsz, lss])
        (refine held_skip 32 45 rfl (by kernel_rfl) (by kernel_rfl) (by kernel_rfl) (by kernel_rfl) (fun _ _ _ h => h) (by kernel_rfl) (by assumption) ?_; simp only [lsz, lss])
        (refine held_skip 33 46 rfl (by kernel_rfl) (by kernel_rfl) (by kernel_rfl) (by kernel_rfl) (fun _ _ _ h => h) (by kernel_rfl) (by assumption) ?_; simp only [lsz, lss])
        (refine htk 34 47 ?_ rfl ?_ ?_; rotate_left; (intro w hSw; clear hSw; go_simp); (try with_reducible rfl); simp only [lsz, lss])
        refine wpAnyH_done (by kernel_rfl) ?_ _
        go_wp2
        go_ret
        exact ⟨by rw [HBAD.out]; rfl, HBX.out.trans (HS.out.mono HBX.out.size)⟩
      | true =>
        have hrb := right_ok hcl hvb
        clear hcl hvb
        rcases Nat.eq_zero_or_pos k with rfl | hkp
        ·
          have HGOOD := Lib.hid (upto_step HU.out (ok_zero HR.out hrb))
          clear hrb
          simp only [Nat.zero_mul, Nat.add_zero] at d0 d1 d2
          refine wp_region_held_drew (S := fun w => Below X.heap.size X w) (by kernel_rfl) (Below.drew (Below.refl _ _)) (fun hHeld => ?_)
          have HS := Lib.hid (Below.drew (Below.refl X.heap.size X))
          try clear hHeld
          have hSS := HS.out
          obtain ⟨X2, hX2⟩ : ∃ z, X.drew = z := ⟨_, rfl⟩
          rw [hX2] at HS hSS ⊢
          clear hX2
          (refine htk 0 13 ?_ rfl ?_ ?_; rotate_left; (intro w hSw; clear hSw; go_simp); (try with_reducible rfl); simp only [lsz, lss])
          (refine htk 1 14 ?_ rfl ?_ ?_; rotate_left; (intro w hSw; clear hSw; go_simp); (try with_reducible rfl); simp only [lsz, lss])
          (refine htk 2 15 (.pointer (some ⟨b1, o2, none⟩)) rfl ?_ ?_; (intro w hSw; clear hSw; go_simp); simp only [lsz, lss])
          (refine htk 3 16 (.pointer (some ⟨b1, o2, none⟩)) rfl ?_ ?_; (intro w hSw; clear hSw; first | rfl | go_simp); simp only [lsz, lss])
          (refine htk 4 17 (.slice q1 l1.length c1) rfl ?_ ?_; (intro w hSw; have f_d0 := (hSw.cell (p := ⟨b1, o2, none⟩) hb1).trans d0; clear hSw; go_simp); simp only [lsz, lss])
          refine hrd 5 rfl (fun K hK => ?_)
          rw [if_pos (by kernel_rfl)]
          go_simp
          refine (rCheck3 HS.out.size (HL1.out.mono HS.out (Nat.le_refl _))).mono ?_
          rintro e w9 hq9
          obtain ⟨rfl, hb9⟩ := hq9.below
          clear hq9
          rw [HCL.out]
          have HS := Lib.hid (HS.out.trans (hb9.mono HS.out.size))
          clear hb9
          have hSS := HS.out
          refine hK.out _ _ HS.out (fun hHeld => ?_)
          clear hK K
          (try simp only [Act.put, lsa, lsz, lss])
          (refine htk 6 19 (.bool false) rfl ?_ ?_; (intro w hSw; clear hSw; first | rfl | go_simp); simp only [lsz, lss])
          (refine htk 7 20 (.bool false) rfl ?_ ?_; (intro w hSw; clear hSw; first | rfl | go_simp); simp only [lsz, lss])
          (refine htk 8 21 ?_ rfl ?_ ?_; rotate_left; (intro w hSw; clear hSw; go_simp); (try with_reducible rfl); simp only [lsz, lss])
          (refine htk 9 22 ?_ rfl ?_ ?_; rotate_left; (intro w hSw; clear hSw; go_simp); (try with_reducible rfl); simp only [lsz, lss])
          (refine htk 10 23 (.pointer (some ⟨b1, o2, none⟩)) rfl ?_ ?_; (intro w hSw; clear hSw; go_simp); simp only [lsz, lss])
          (refine htk 11 24 (.pointer (some ⟨b1, o2 + 1, none⟩)) rfl ?_ ?_; (intro w hSw; clear hSw; first | rfl | go_simp); simp only [lsz, lss])
          (refine htk 12 25 (.agg #[.int .i64 x1, .bool o1]) rfl ?_ ?_; (intro w hSw; have f_d1 := (hSw.cell (p := ⟨b1, o2 + 1, none⟩) hb1).trans d1; have f_d2 := (hSw.cell (p := ⟨b1, o2 + 2, none⟩) hb1).trans d2; clear hSw; go_simp); simp only [lsz, lss])
          refine hrd 13 rfl (fun K hK => ?_)
          rw [if_pos (by kernel_rfl)]
          go_simp
          refine (rVal x1 o1 _).mono ?_
          rintro e w9 ⟨rfl, hb9⟩
          rw [HVB.out]
          simp only [Bool.false_eq_true, if_false, if_true]
          have HS := Lib.hid (HS.out.trans (hb9.mono HS.out.size))
          clear hb9
          have hSS := HS.out
          refine hK.out _ _ HS.out (fun hHeld => ?_)
          clear hK K
          (try simp only [Act.put, lsa, lsz, lss])
          (refine htk 14 27 (.bool false) rfl ?_ ?_; (intro w hSw; clear hSw; first | rfl | go_simp); simp only [lsz, lss])
          (refine htk 15 28 (.bool false) rfl ?_ ?_; (intro w hSw; clear hSw; first | rfl | go_simp); simp only [lsz, lss])
          (refine htk 16 29 (.bool false) rfl ?_ ?_; (intro w hSw; clear hSw; first | rfl | go_simp); simp only [lsz, lss])
          (refine htk 17 30 ?_ rfl ?_ ?_; rotate_left; (intro w hSw; clear hSw; go_simp); (try with_reducible rfl); simp only [lsz, lss])
          (refine htk 18 31 (.bool false) rfl ?_ ?_; (intro w hSw; clear hSw; first | rfl | go_simp); simp only [lsz, lss])
          (refine htk 19 32 (.bool false) rfl ?_ ?_; (intro w hSw; clear hSw; first | rfl | go_simp); simp only [lsz, lss])
          (refine held_skip 20 33 rfl (by kernel_rfl) (by kernel_rfl) (by kernel_rfl) (by kernel_rfl) (fun _ _ _ h => h) (by kernel_rfl) (by assumption) ?_; simp only [lsz, lss])
          (refine held_skip 21 34 rfl (by kernel_rfl) (by kernel_rfl) (by kernel_rfl) (by kernel_rfl) (fun _ _ _ h => h) (by kernel_rfl) (by assumption) ?_; simp only [lsz, lss])
          (refine held_skip 22 35 rfl (by kernel_rfl) (by kernel_rfl) (by kernel_rfl) (by kernel_rfl) (fun _ _ _ h => h) (by kernel_rfl) (by assumption) ?_; simp only [lsz, lss])
          (refine held_skip 23 36 rfl (by kernel_rfl) (by kernel_rfl) (by kernel_rfl) (by kernel_rfl) (fun _ _ _ h => h) (by kernel_rfl) (by assumption) ?_; simp only [lsz, lss])
          (refine held_skip 24 37 rfl (by kernel_rfl) (by kernel_rfl) (by kernel_rfl) (by kernel_rfl) (fun _ _ _ h => h) (by kernel_rfl) (by assumption) ?_; simp only [lsz, lss])
          (refine held_skip 25 38 rfl (by kernel_rfl) (by kernel_rfl) (by kernel_rfl) (by kernel_rfl) (fun _ _ _ h => h) (by kernel_rfl) (by assumption) ?_; simp only [lsz, lss])
          (refine held_skip 26 39 rfl (by kernel_rfl) (by kernel_rfl) (by kernel_rfl) (by kernel_rfl) (fun _ _ _ h => h) (by kernel_rfl) (by assumption) ?_; simp only [lsz, lss])
          (refine held_skip 27 40 rfl (by kernel_rfl) (by kernel_rfl) (by kernel_rfl) (by kernel_rfl) (fun _ _ _ h => h) (by kernel_rfl) (by assumption) ?_; simp only [lsz, lss])
          (refine held_skip 28 41 rfl (by kernel_rfl) (by kernel_rfl) (by kernel_rfl) (by kernel_rfl) (fun _ _ _ h => h) (by kernel_rfl) (by assumption) ?_; simp only [lsz, lss])
          (refine held_skip 29 42 rfl (by kernel_rfl) (by kernel_rfl) (by kernel_rfl) (by kernel_rfl) (fun _ _ _ h => h) (by kernel_rfl) (by assumption) ?_; simp only [lsz, lss])
          (refine held_skip 30 43 rfl (by kernel_rfl) (by kernel_rfl) (by kernel_rfl) (by kernel_rfl) (fun _ _ _ h => h) (by kernel_rfl) (by assumption) ?_; simp only [lsz, lss])
          (refine held_skip 31 44 rfl (by kernel_rfl) (by kernel_rfl) (by kernel_rfl) (by kernel_rfl) (fun _ _ _ h => h) (by kernel_rfl) (by assumption) ?_; simp only [lsz, lss])
          (refine held_skip 32 45 rfl (by kernel_rfl) (by kernel_rfl) (by kernel_rfl) (by kernel_rfl) (fun _ _ _ h => h) (by kernel_rfl) (by assumption) ?_; simp only [lsz, lss])
          (refine htk 33 46 (.bool false) rfl ?_ ?_; (intro w hSw; clear hSw; first | rfl | go_simp); simp only [lsz, lss])
          (refine htk 34 47 (.bool false) rfl ?_ ?_; (intro w hSw; clear hSw; first | rfl | go_simp); simp only [lsz, lss])
          refine wpAnyH_done (by kernel_rfl) ?_ _
          go_wp2
          exact ⟨⟨1, by omega, by go_num, HGOOD.out, HBX.out.trans (HS.out.mono HBX.out.size)⟩, by simp [intOf]; omega⟩
        · obtain ⟨j, hj⟩ : ∃ j, k = j + 1 := ⟨k - 1, by omega⟩
          obtain ⟨r2, hr2⟩ : ∃ r, l[j]? = some r := ⟨_, List.getElem?_eq_getElem (by have := HNL.out; omega)⟩
          have hok := ok_succ hr2 (hj ▸ HR.out) hrb
          rw [← hj] at hok
          obtain ⟨b3, o3, q2, c2, hp3, hb3, e0, -, -, hl2, -⟩ := HVX.out.get hr2
          obtain ⟨rfl, rfl⟩ : b1 = b3 ∧ o2 = o3 := by simpa using hp3
          clear hp3 hrb hr2
          obtain ⟨l2, x2, o9⟩ := r2
          simp only at e0 hl2 hok
          have HL2 := Lib.hid hl2
          have HOK := Lib.hid hok
          have hw1 : IntKind.i64.wrap ((k : Int) - 1) = (j : Int) := by rw [IntWalk.i64_in _ (by omega)]; omega
          have hw2 : IntKind.i64.wrap (j : Int) = (j : Int) := IntWalk.i64_in _ (by omega)
          have hj0 : (0 : Int) ≤ (j : Int) := by omega
          have hjn : (j : Int) < (N : Int) := by omega
          have hjp : (0 : Int) < (k : Int) := by omega
          have hjk : (j : Int) = (k : Int) - 1 := by omega
          have HJK := Lib.hid hjk
          clear hl2 hok hj hjk
          refine wp_region_held_drew (S := fun w => Below X.heap.size X w) (by kernel_rfl) (Below.drew (Below.refl _ _)) (fun hHeld => ?_)
          have HS := Lib.hid (Below.drew (Below.refl X.heap.size X))
          try clear hHeld
          have hSS := HS.out
          obtain ⟨X2, hX2⟩ : ∃ z, X.drew = z := ⟨_, rfl⟩
          rw [hX2] at HS hSS ⊢
          clear hX2
          (refine htk 0 13 ?_ rfl ?_ ?_; rotate_left; (intro w hSw; clear hSw; go_simp); (try with_reducible rfl); simp only [lsz, lss])
          (refine htk 1 14 ?_ rfl ?_ ?_; rotate_left; (intro w hSw; clear hSw; go_simp); (try with_reducible rfl); simp only [lsz, lss])
          (refine htk 2 15 (.pointer (some ⟨b1, o2 + k * 3, none⟩)) rfl ?_ ?_; (intro w hSw; clear hSw; go_simp); simp only [lsz, lss])
          (refine htk 3 16 (.pointer (some ⟨b1, o2 + k * 3, none⟩)) rfl ?_ ?_; (intro w hSw; clear hSw; first | rfl | go_simp); simp only [lsz, lss])
          (refine htk 4 17 (.slice q1 l1.length c1) rfl ?_ ?_; (intro w hSw; have f_d0 := (hSw.cell (p := ⟨b1, o2 + k * 3, none⟩) hb1).trans d0; clear hSw; go_simp); simp only [lsz, lss])
          refine hrd 5 rfl (fun K hK => ?_)
          rw [if_pos (by kernel_rfl)]
          go_simp
          refine (rCheck3 HS.out.size (HL1.out.mono HS.out (Nat.le_refl _))).mono ?_
          rintro e w9 hq9
          obtain ⟨rfl, hb9⟩ := hq9.below
          clear hq9
          rw [HCL.out]
          have HS := Lib.hid (HS.out.trans (hb9.mono HS.out.size))
          clear hb9
          have hSS := HS.out
          refine hK.out _ _ HS.out (fun hHeld => ?_)
          clear hK K
          (try simp only [Act.put, lsa, lsz, lss])
          (refine htk 6 19 (.bool false) rfl ?_ ?_; (intro w hSw; clear hSw; first | rfl | go_simp); simp only [lsz, lss])
          (refine htk 7 20 (.bool false) rfl ?_ ?_; (intro w hSw; clear hSw; first | rfl | go_simp); simp only [lsz, lss])
          (refine htk 8 21 ?_ rfl ?_ ?_; rotate_left; (intro w hSw; clear hSw; go_simp); (try with_reducible rfl); simp only [lsz, lss])
          (refine htk 9 22 ?_ rfl ?_ ?_; rotate_left; (intro w hSw; clear hSw; go_simp); (try with_reducible rfl); simp only [lsz, lss])
          (refine htk 10 23 (.pointer (some ⟨b1, o2 + k * 3, none⟩)) rfl ?_ ?_; (intro w hSw; clear hSw; go_simp); simp only [lsz, lss])
          (refine htk 11 24 (.pointer (some ⟨b1, o2 + k * 3 + 1, none⟩)) rfl ?_ ?_; (intro w hSw; clear hSw; first | rfl | go_simp); simp only [lsz, lss])
          (refine htk 12 25 (.agg #[.int .i64 x1, .bool o1]) rfl ?_ ?_; (intro w hSw; have f_d1 := (hSw.cell (p := ⟨b1, o2 + k * 3 + 1, none⟩) hb1).trans d1; have f_d2 := (hSw.cell (p := ⟨b1, o2 + k * 3 + 2, none⟩) hb1).trans d2; clear hSw; go_simp); simp only [lsz, lss])
          refine hrd 13 rfl (fun K hK => ?_)
          rw [if_pos (by kernel_rfl)]
          go_simp
          refine (rVal x1 o1 _).mono ?_
          rintro e w9 ⟨rfl, hb9⟩
          rw [HVB.out]
          simp only [Bool.false_eq_true, if_false, if_true]
          have HS := Lib.hid (HS.out.trans (hb9.mono HS.out.size))
          clear hb9
          have hSS := HS.out
          refine hK.out _ _ HS.out (fun hHeld => ?_)
          clear hK K
          (try simp only [Act.put, lsa, lsz, lss])
          (refine htk 14 27 (.bool false) rfl ?_ ?_; (intro w hSw; clear hSw; first | rfl | go_simp); simp only [lsz, lss])
          (refine htk 15 28 (.bool false) rfl ?_ ?_; (intro w hSw; clear hSw; first | rfl | go_simp); simp only [lsz, lss])
          (refine htk 16 29 (.bool false) rfl ?_ ?_; (intro w hSw; clear hSw; first | rfl | go_simp); simp only [lsz, lss])
          (refine htk 17 30 ?_ rfl ?_ ?_; rotate_left; (intro w hSw; clear hSw; go_simp); (try with_reducible rfl); simp only [lsz, lss])
          (refine htk 18 31 ?_ rfl ?_ ?_; rotate_left; (intro w hSw; clear hSw; go_simp); (try with_reducible rfl); simp only [lsz, lss])
          (refine htk 19 32 ?_ rfl ?_ ?_; rotate_left; (intro w hSw; clear hSw; go_simp); (try with_reducible rfl); simp only [lsz, lss])
          (refine htk 20 33 ?_ rfl ?_ ?_; rotate_left; (intro w hSw; clear hSw; go_simp); (try with_reducible rfl); simp only [lsz, lss])
          (refine htk 21 34 ?_ rfl ?_ ?_; rotate_left; (intro w hSw; clear hSw; go_simp); (try with_reducible rfl); simp only [lsz, lss])
          (refine htk 22 35 (.int .i64 (j : Int)) rfl ?_ ?_; (intro w hSw; clear hSw; go_simp; (try rw [hw2])); simp only [lsz, lss])
          (refine htk 23 36 (.pointer (some ⟨b1, o2 + j * 3, none⟩)) rfl ?_ ?_; (intro w hSw; clear hSw; go_simp); simp only [lsz, lss])
          (refine htk 24 37 (.pointer (some ⟨b1, o2 + j * 3, none⟩)) rfl ?_ ?_; (intro w hSw; clear hSw; first | rfl | go_simp); simp only [lsz, lss])
          (refine htk 25 38 (.slice q2 l2.length c2) rfl ?_ ?_; (intro w hSw; have f_e0 := (hSw.cell (p := ⟨b1, o2 + j * 3, none⟩) hb1).trans e0; clear hSw; go_simp); simp only [lsz, lss])
          (refine htk 26 39 ?_ rfl ?_ ?_; rotate_left; (intro w hSw; clear hSw; go_simp); (try with_reducible rfl); simp only [lsz, lss])
          (refine htk 27 40 ?_ rfl ?_ ?_; rotate_left; (intro w hSw; clear hSw; go_simp); (try with_reducible rfl); simp only [lsz, lss])
          (refine htk 28 41 (.pointer (some ⟨b1, o2 + k * 3, none⟩)) rfl ?_ ?_; (intro w hSw; clear hSw; go_simp); simp only [lsz, lss])
          (refine htk 29 42 (.pointer (some ⟨b1, o2 + k * 3, none⟩)) rfl ?_ ?_; (intro w hSw; clear hSw; first | rfl | go_simp); simp only [lsz, lss])
          (refine htk 30 43 (.slice q1 l1.length c1) rfl ?_ ?_; (intro w hSw; have f_d0 := (hSw.cell (p := ⟨b1, o2 + k * 3, none⟩) hb1).trans d0; clear hSw; go_simp); simp only [lsz, lss])
          refine hrd 31 rfl (fun K hK => ?_)
          rw [if_pos (by kernel_rfl)]
          go_simp
          refine (rCompare HS.out.size (HL2.out.mono HS.out (Nat.le_refl _)) (HL1.out.mono HS.out (Nat.le_refl _))).mono ?_
          rintro e w9 hq9
          obtain ⟨rfl, hb9⟩ := hq9.below
          clear hq9
          have HS := Lib.hid (HS.out.trans (hb9.mono HS.out.size))
          clear hb9
          have hSS := HS.out
          refine hK.out _ _ HS.out (fun hHeld => ?_)
          clear hK K
          (try simp only [Act.put, lsa, lsz, lss])
          (refine htk 32 45 ?_ rfl ?_ ?_; rotate_left; (intro w hSw; clear hSw; go_simp); (try with_reducible rfl); simp only [lsz, lss])
          (refine htk 33 46 ?_ rfl ?_ ?_; rotate_left; (intro w hSw; clear hSw; go_simp); (try with_reducible rfl); simp only [lsz, lss])
          (refine htk 34 47 ?_ rfl ?_ ?_; rotate_left; (intro w hSw; clear hSw; go_simp); (try with_reducible rfl); simp only [lsz, lss])
          refine wpAnyH_done (by kernel_rfl) ?_ _
          obtain ⟨cc, hcc⟩ : ∃ z, compareL l2 l1 = z := ⟨_, rfl⟩
          rw [hcc] at HOK
          simp only [hcc]
          clear hcc
          by_cases hlo : cc < 0
          · have hge : ¬ (0 ≤ cc) := by omega
            have HGOOD := Lib.hid (upto_step HU.out (by rw [HOK.out]; simpa using hlo))
            have hge2 : decide (0 ≤ cc) = false := decide_eq_false hge
            go_wp2
            exact ⟨⟨k + 1, by omega, by go_num, HGOOD.out, HBX.out.trans (HS.out.mono HBX.out.size)⟩, by simp [intOf]; omega⟩
          · have hge : 0 ≤ cc := by omega
            have HBAD := Lib.hid (ok_bad H4.out (by rw [HNL.out]; exact hlt) (by rw [HOK.out]; simpa using hlo))
            have hge2 : decide (0 ≤ cc) = true := decide_eq_true hge
            go_wp2
            go_ret
            exact ⟨by rw [HBAD.out]; rfl, HBX.out.trans (HS.out.mono HBX.out.size)⟩
    · have hkN : k = N := by omega
      subst hkN
      have hki : ¬ ((k : Int) < (k : Int)) := by omega
      have HC := Lib.hid (ok_all H4.out (by rw [HNL.out]; exact HU.out))
      go_wp2
      go_ret
      exact ⟨by rw [HC.out]; rfl, HBX.out⟩
end Go.Proofs.YtfmolimnnheaoaaGreat
