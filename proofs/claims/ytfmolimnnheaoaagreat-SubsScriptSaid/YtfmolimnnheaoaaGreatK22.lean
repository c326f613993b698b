/- The kit's Pick, LightVector, Told, Subs, Ints; law26.small; New of both boards. (For SubsScript.) -/
import Derived.Test.YtfmolimnnheaoaaGreatK8
import Derived.Test.YtfmolimnnheaoaaGreatK17
import Derived.Test.YtfmolimnnheaoaaGreatK20
import Derived.Test.YtfmolimnnheaoaaGreatK21
import Derived.Test.YtfmolimnnheaoaaGreatK1
namespace Go.Proofs.YtfmolimnnheaoaaGreat
open Go.RowKit
set_option linter.unusedSimpArgs false
set_option linter.unusedVariables false

def AnsB (e : Ending) : Prop := ∃ r : Bool, e = .returned (.bool r)
set_option maxRecDepth 100000 in
set_option maxHeartbeats 4000000 in
theorem kLightLabels {n : Nat} {v : Value} {l : List Lab} {W : World} (hn : n ≤ W.heap.size) (hl : IsLabs n W v l) :
    Calls Tryz.prog 63 #[v] W fun e w' => AnsB e ∧ w' = W := by
  obtain ⟨p, cap, rfl, h1, h2, -⟩ := hl.open
  have Hl := Lib.hid hl
  unfold maxLen at h2
  obtain ⟨N, hN⟩ : ∃ z, l.length = z := ⟨_, rfl⟩
  rw [hN] at Hl h1 ⊢
  have HNL := Lib.hid hN
  have hlen : (N : Int) ≤ 9223372036854775807 := by omega
  clear hl hN
  go_enter Tryz.func63, Tryz.ntmps63; (try simp only [List.append_eq, List.cons_append, List.nil_append])
  go_wp2
  go_loopw [3] (fun j wr => ∃ k : Nat, k ≤ N ∧ k ≤ 31 ∧ j = .int .i64 k ∧ wr = W) (fun j _ => 32 - (intOf j).toNat)
  case atStart => exact ⟨0, Nat.zero_le _, by omega, rfl, rfl⟩
  case round =>
    obtain ⟨k, hk, hk31, rfl, hw⟩ := hrel
    subst hw
    by_cases hlt : k < N ∧ k ≤ 30
    · obtain ⟨h5, h6⟩ := hlt
      have hki : (k : Int) < (N : Int) := by omega
      have hkj : (k : Int) ≤ 30 := by omega
      obtain ⟨b1, o1, rfl, hb1, d0, d1, -, -⟩ := Hl.out.get (k := k) (by have := HNL.out; omega)
      have hw1 : b1 < wr.heap.size := by omega
      go_wp2
      all_goals first
        | exact ⟨⟨k + 1, by omega, by omega, by go_num, rfl⟩, by simp [intOf]; omega⟩
        | exact ⟨⟨k + 1, by omega, by omega, by go_num, trivial⟩, by simp [intOf]; omega⟩
        | (go_ret; exact ⟨⟨_, rfl⟩, rfl⟩)
    · by_cases h5 : k < N
      · have hki : (k : Int) < (N : Int) := by omega
        have hkj : ¬ (k : Int) ≤ 30 := by omega
        go_wp2
        go_ret
        exact ⟨⟨_, rfl⟩, rfl⟩
      · have hki : ¬ (k : Int) < (N : Int) := by omega
        go_wp2
        go_ret
        exact ⟨⟨_, rfl⟩, rfl⟩
def AnsV (v : List Rs) (m : Nat) (e : Ending) : Prop := ∃ r : Bool, e = .returned (.bool r) ∧ (r = true → v.length ≤ m)
set_option maxRecDepth 100000 in
set_option maxHeartbeats 4000000 in
theorem kLightVector {v : List Rs} {va : Value} {n m : Nat} {W : World} (hn : n ≤ W.heap.size) (ha : IsRes n W va v) (hm : m ≤ 1000) :
    Calls Tryz.prog 31 #[va, .int .i64 m] W fun e w' => AnsV v m e ∧ Below W.heap.size W w' := by
  obtain ⟨p, cap, rfl, hc1, hc2⟩ := ha.open
  unfold maxLen at hc2
  have HA := Lib.hid ha; have HN := Lib.hid hn
  clear ha hn
  obtain ⟨N, hN⟩ : ∃ z, v.length = z := ⟨_, rfl⟩
  rw [hN] at HA hc1 ⊢
  have HNL := Lib.hid hN
  clear hN
  have hN2 : (N : Int) ≤ 9223372036854775807 := by omega
  have hm2 : (m : Int) ≤ 1000 := by omega
  go_enter Tryz.func31, Tryz.ntmps31; (try simp only [List.append_eq, List.cons_append, List.nil_append])
  go_wp2
  go_loopw [5] (fun j wr => ∃ k : Nat, k ≤ N ∧ k ≤ m + 1 ∧ j = .int .i64 k ∧ Below W.heap.size W wr) (fun j _ => m + 2 - (intOf j).toNat)
  case atStart => exact ⟨0, Nat.zero_le _, by omega, rfl, Below.refl _ _⟩
  case round =>
    obtain ⟨k, hk, hk31, rfl, hb⟩ := hrel
    have HB := Lib.hid hb
    have hsz := hb.size
    clear hb
    by_cases hlt : k < N ∧ k ≤ m
    · obtain ⟨h5, h6⟩ := hlt
      have hki : (k : Int) < (N : Int) := by omega
      have hkj : (k : Int) ≤ (m : Int) := by omega
      obtain ⟨r, hr⟩ : ∃ r, v[k]? = some r := ⟨_, List.getElem?_eq_getElem (by have := HNL.out; omega)⟩
      obtain ⟨b1, o1, q1, c1, rfl, hb1, d0, d1, d2, hl1, -⟩ := (HA.out.mono (HB.out.mono HN.out) (Nat.le_refl _)).get hr
      have HL1 := Lib.hid hl1
      clear hr hl1 d1 d2
      obtain ⟨l1, x1, y1⟩ := r
      simp only at d0 HL1
      obtain ⟨m1, hm1⟩ : ∃ z, l1.length = z := ⟨_, rfl⟩
      rw [hm1] at d0 HL1
      clear hm1
      have hw1 : b1 < wr.heap.size := by have := HN.out; omega
      have HC := Lib.hid (kLightLabels (Nat.le_trans HN.out hsz) HL1.out)
      go_wp2_with fail
      refine HC.out.mono ?_
      rintro e w2 ⟨⟨b, rfl⟩, rfl⟩
      cases b with
      | true =>
        go_wp2
        exact ⟨⟨k + 1, by omega, by omega, by go_num, HB.out⟩, by simp [intOf]; omega⟩
      | false =>
        go_wp2
        go_ret
        exact ⟨⟨_, rfl, fun h => by simp at h⟩, HB.out⟩
    · by_cases h5 : k < N
      · have hki : (k : Int) < (N : Int) := by omega
        have hkj : ¬ (k : Int) ≤ (m : Int) := by omega
        have hnm : ¬ (N : Int) ≤ (m : Int) := by omega
        go_wp2
        go_ret
        exact ⟨⟨_, rfl, fun h => by simp at h⟩, HB.out⟩
      · have hki : ¬ (k : Int) < (N : Int) := by omega
        have HV := Lib.hid (show decide ((N : Int) ≤ (m : Int)) = true → v.length ≤ m from fun h => by have := of_decide_eq_true h; have := HNL.out; omega)
        clear hlt h5
        go_wp2
        go_ret
        exact ⟨⟨_, rfl, fun h => HV.out (by simpa using h)⟩, HB.out⟩
def pick (a m : Int) : Int := if a.tmod m < 0 then a.tmod m + m else a.tmod m
theorem kPick (a m : Int) (w : World) (ha : i64 a) (hm : 1 ≤ m ∧ m ≤ 9223372036854775807) :
    Calls Tryz.prog 8 #[.int .i64 a, .int .i64 m] w fun e w' => e = .returned (.int .i64 (pick a m)) ∧ w = w' := by
  obtain ⟨a1, a2⟩ := ha
  obtain ⟨m1, m2⟩ := hm
  go_enter Tryz.func8, Tryz.ntmps8; (try simp only [List.append_eq, List.cons_append, List.nil_append])
  have h1 : a.tmod m < m := Int.tmod_lt_of_pos a (by omega)
  have h2 : -m < a.tmod m := by have := Int.lt_tmod_of_pos a (show 0 < m by omega); omega
  go_wp2
  all_goals go_ret
  all_goals refine ⟨ret_int ?_, rfl⟩
  · unfold pick; rw [if_pos (by assumption)]
  · unfold pick; rw [if_neg (by omega)]
theorem pick_bd (a m : Int) (hm : 1 ≤ m) : 0 ≤ pick a m ∧ pick a m < m := by
  have h1 : a.tmod m < m := Int.tmod_lt_of_pos a (by omega)
  have h2 : -m < a.tmod m := by have := Int.lt_tmod_of_pos a (show 0 < m by omega); omega
  unfold pick
  split <;> omega
def AnsS (m : Nat) (e : Ending) : Prop := ∃ r : Bool, e = .returned (.bool r) ∧ (r = true → m ≤ 60)
set_option maxRecDepth 100000 in
set_option maxHeartbeats 4000000 in
theorem gSmall {n : Nat} {v : Value} {l : List CallR} {W : World} (hl : Arr n W v 7 (l.map CallR.cells)) (hr : ∀ c ∈ l, ∃ rs, IsRes n W c.res rs) (hn : n ≤ W.heap.size) :
    Calls Tryz.prog 7 #[v] W fun e w' => AnsS l.length e ∧ Below W.heap.size W w' := by
  obtain ⟨p, cap, rfl, h1, h2, -⟩ := id hl
  have hll : (l.map CallR.cells).length = l.length := List.length_map _
  rw [hll] at h1 hl ⊢
  have Hl := Lib.hid hl; have Hr := Lib.hid hr
  unfold maxLen at h2
  have hlen : (l.length : Int) ≤ 9223372036854775807 := by omega
  have Hn := Lib.hid hn
  clear hl hr hll
  obtain ⟨N, hN⟩ : ∃ z, l.length = z := ⟨_, rfl⟩
  rw [hN] at h1 Hl hlen ⊢
  have HN := Lib.hid hN
  clear hN
  go_enter Tryz.func7, Tryz.ntmps7; (try simp only [List.append_eq, List.cons_append, List.nil_append])
  go_wp2
  go_loopw [3] (fun j wr => ∃ k : Nat, k ≤ N ∧ k ≤ 61 ∧ j = .int .i64 k ∧ Below W.heap.size W wr) (fun j _ => 62 - (intOf j).toNat)
  case atStart => exact ⟨0, Nat.zero_le _, by omega, rfl, Below.refl _ _⟩
  case round =>
    obtain ⟨k, hk, hk31, rfl, hb⟩ := hrel
    have HB := Lib.hid hb
    have hsz := hb.size
    clear hb
    by_cases hlt : k < N ∧ k ≤ 60
    · obtain ⟨h5, h6⟩ := hlt
      have hki : (k : Int) < (N : Int) := by omega
      have hkj : (k : Int) ≤ 60 := by omega
      obtain ⟨c, hc⟩ : ∃ r, l[k]? = some r := ⟨_, List.getElem?_eq_getElem (by rw [HN.out]; exact h5)⟩
      obtain ⟨rs, hrs⟩ := Hr.out c (List.mem_of_getElem? hc)
      obtain ⟨b1, o1, rfl, hb1, hcell⟩ := Arr.at (Arr.mono Hl.out (HB.out.mono Hn.out) (Nat.le_refl _)) k c.cells (by rw [List.getElem?_map, hc]; rfl)
      have d0 : wr.cell? ⟨b1, o1 + k * 7 + 5, none⟩ = some c.res := hcell 5 _ rfl
      have d1 : wr.cell? ⟨b1, o1 + k * 7 + 4 + 1, none⟩ = some c.res := hcell 5 _ rfl
      have hw1 : b1 < wr.heap.size := by have := Hn.out; omega
      have HC := Lib.hid (kLightVector (m := 30) (Nat.le_trans Hn.out hsz) (hrs.mono (HB.out.mono Hn.out) (Nat.le_refl _)) (by decide))
      clear hcell hc hrs
      go_wp2_with fail
      refine HC.out.mono ?_
      rintro e w2 ⟨⟨b, rfl, -⟩, hb2⟩
      have HB2 := Lib.hid (HB.out.trans (hb2.mono hsz))
      clear hb2
      cases b with
      | true =>
        go_wp2
        exact ⟨⟨k + 1, by omega, by omega, by go_num, HB2.out⟩, by simp [intOf]; omega⟩
      | false =>
        go_wp2
        go_ret
        exact ⟨⟨_, rfl, fun h => by simp at h⟩, HB2.out⟩
    · by_cases h5 : k < N
      · have hki : (k : Int) < (N : Int) := by omega
        have hkj : ¬ (k : Int) ≤ 60 := by omega
        have h6 : ¬ (N : Int) ≤ 60 := by omega
        go_wp2
        go_ret
        exact ⟨⟨_, rfl, fun h => by simp at h⟩, HB.out⟩
      · have hki : ¬ (k : Int) < (N : Int) := by omega
        have HV := Lib.hid (show decide ((N : Int) ≤ 60) = true → N ≤ 60 from fun h => by have := of_decide_eq_true h; omega)
        clear hlt h5
        go_wp2
        go_ret
        exact ⟨⟨_, rfl, fun h => HV.out (by simpa using h)⟩, HB.out⟩
set_option maxRecDepth 100000 in
set_option maxHeartbeats 8000000 in
/-- Of lists that tell the same. -/
theorem kToldG {n base : Nat} {v u : Value} {L M : List TV} {W : World} (hl : IsTd n base W v L) (hm : IsTd n base W u M) (he : L.map Prod.fst = M.map Prod.fst) (hn : n ≤ W.heap.size) :
    Calls Tryz.prog 27 #[v, u] W fun e w' => e = .returned (.bool true) ∧ Below W.heap.size W w' := by
  obtain ⟨p, c1, rfl, hcap1, hcap2⟩ := hl.open
  obtain ⟨p2, c2, rfl, hcap3, hcap4⟩ := hm.open
  have hlen : L.length ≤ 9223372036854775807 := by unfold maxLen at hcap2; omega
  have hne : M.length = L.length := by have := congrArg List.length he; simpa using this.symm
  rw [hne] at hm ⊢
  have Hl := Lib.hid hl; have Hm := Lib.hid hm; have Hn := Lib.hid hn; have He := Lib.hid he; have Hne := Lib.hid hne
  obtain ⟨N, hN⟩ : ∃ z, L.length = z := ⟨_, rfl⟩
  rw [hN] at hlen Hl Hm Hne ⊢
  have HN := Lib.hid hN
  have hNN : ((N : Int) != (N : Int)) = false := by simp
  clear hl hm hn he hne hN hcap1 hcap2 hcap3 hcap4
  go_enter Tryz.func27, Tryz.ntmps27; (try simp only [List.append_eq, List.cons_append, List.nil_append])
  go_wp2
  go_loopw [5] (fun j wr => ∃ k : Nat, k ≤ N ∧ j = .int .i64 k ∧ Below W.heap.size W wr) (fun j _ => N - (intOf j).toNat)
  case atStart => exact ⟨0, Nat.zero_le _, rfl, Below.refl _ _⟩
  case round =>
    obtain ⟨k, hk, rfl, hb⟩ := hrel
    have HB := Lib.hid hb
    clear hb
    by_cases hlt : k < N
    · have hki : (k : Int) < (N : Int) := by omega
      obtain ⟨x, hx⟩ : ∃ x, L[k]? = some x := ⟨_, List.getElem?_eq_getElem (by rw [HN.out]; exact hlt)⟩
      obtain ⟨y, hy⟩ : ∃ y, M[k]? = some y := ⟨_, List.getElem?_eq_getElem (by rw [Hne.out]; exact hlt)⟩
      obtain ⟨b1, o1, rfl, hb1, d0, d1, r1⟩ := ((Hl.out.keep HB.out Hn.out).more (Nat.le_trans Hn.out HB.out.size)).get hx
      obtain ⟨b2, o2, rfl, hb2, e0, e1, r2⟩ := ((Hm.out.keep HB.out Hn.out).more (Nat.le_trans Hn.out HB.out.size)).get hy
      have hxy : x.1 = y.1 := by
        have h1 : (L.map Prod.fst)[k]? = some x.1 := by rw [List.getElem?_map, hx]; rfl
        rw [He.out, List.getElem?_map, hy] at h1
        exact (Option.some.inj h1).symm
      obtain ⟨⟨tm, res⟩, v1⟩ := x
      obtain ⟨⟨tm2, res2⟩, v2⟩ := y
      simp only [Tl.mk.injEq] at hxy
      obtain ⟨rfl, rfl⟩ := hxy
      simp only at d0 d1 e0 e1 r1 r2
      have H1r := Lib.hid r1; have H2r := Lib.hid r2
      have hxx : (tm != tm) = false := by simp
      clear hx hy r1 r2
      obtain ⟨X, hX⟩ : ∃ z, z = wr := ⟨_, rfl⟩
      subst hX
      go_upto_region 6 with fail
      refine wp_region_held_drew (S := fun w => Below X.heap.size X w) (by kernel_rfl) (Below.drew (Below.refl _ _)) (fun hHeld => ?_)
      have HS := Lib.hid (Below.drew (Below.refl X.heap.size X))
      try clear hHeld
      have hSS := HS.out
      obtain ⟨X2, hX2⟩ : ∃ z, X.drew = z := ⟨_, rfl⟩
      rw [hX2] at HS hSS ⊢
      clear hX2
      (refine htk 0 17 (.slice (some ⟨b1, o1, none⟩) N c1) rfl ?_ ?_; (intro w hSw; clear hSw; first | rfl | go_simp); simp only [lsz, lss])
      (refine htk 1 18 (.int .i64 (k : Int)) rfl ?_ ?_; (intro w hSw; clear hSw; first | rfl | go_simp); simp only [lsz, lss])
      (refine htk 2 19 (.pointer (some ⟨b1, o1 + k * 2, none⟩)) rfl ?_ ?_; (intro w hSw; clear hSw; go_simp); simp only [lsz, lss])
      (refine htk 3 20 (.pointer (some ⟨b1, o1 + k * 2, none⟩)) rfl ?_ ?_; (intro w hSw; clear hSw; first | rfl | go_simp); simp only [lsz, lss])
      (refine htk 4 21 (.int .i64 tm) rfl ?_ ?_; (intro w hSw; have f0 := (hSw.cell (p := ⟨b1, _, none⟩) hb1).trans d0; clear hSw; go_simp); simp only [lsz, lss])
      (refine htk 5 22 (.slice (some ⟨b2, o2, none⟩) N c2) rfl ?_ ?_; (intro w hSw; clear hSw; first | rfl | go_simp); simp only [lsz, lss])
      (refine htk 6 23 (.int .i64 (k : Int)) rfl ?_ ?_; (intro w hSw; clear hSw; first | rfl | go_simp); simp only [lsz, lss])
      (refine htk 7 24 (.pointer (some ⟨b2, o2 + k * 2, none⟩)) rfl ?_ ?_; (intro w hSw; clear hSw; go_simp); simp only [lsz, lss])
      (refine htk 8 25 (.pointer (some ⟨b2, o2 + k * 2, none⟩)) rfl ?_ ?_; (intro w hSw; clear hSw; first | rfl | go_simp); simp only [lsz, lss])
      (refine htk 9 26 (.int .i64 tm) rfl ?_ ?_; (intro w hSw; have f0 := (hSw.cell (p := ⟨b2, _, none⟩) hb2).trans e0; clear hSw; go_simp); simp only [lsz, lss])
      (refine htk 10 27 (.bool false) rfl ?_ ?_; (intro w hSw; clear hSw; first | (go_simp; done) | simp [go_sem]); simp only [lsz, lss])
      (refine htk 11 28 (.bool false) rfl ?_ ?_; (intro w hSw; clear hSw; first | rfl | go_simp); simp only [lsz, lss])
      (refine htk 12 29 (.slice (some ⟨b1, o1, none⟩) N c1) rfl ?_ ?_; (intro w hSw; clear hSw; first | rfl | go_simp); simp only [lsz, lss])
      (refine htk 13 30 (.int .i64 (k : Int)) rfl ?_ ?_; (intro w hSw; clear hSw; first | rfl | go_simp); simp only [lsz, lss])
      (refine htk 14 31 (.pointer (some ⟨b1, o1 + k * 2, none⟩)) rfl ?_ ?_; (intro w hSw; clear hSw; go_simp); simp only [lsz, lss])
      (refine htk 15 32 (.pointer (some ⟨b1, o1 + k * 2 + 1, none⟩)) rfl ?_ ?_; (intro w hSw; clear hSw; first | rfl | go_simp); simp only [lsz, lss])
      (refine htk 16 33 (v1) rfl ?_ ?_; (intro w hSw; have f0 := (hSw.cell (p := ⟨b1, _, none⟩) hb1).trans d1; clear hSw; go_simp); simp only [lsz, lss])
      (refine htk 17 34 (.slice (some ⟨b2, o2, none⟩) N c2) rfl ?_ ?_; (intro w hSw; clear hSw; first | rfl | go_simp); simp only [lsz, lss])
      (refine htk 18 35 (.int .i64 (k : Int)) rfl ?_ ?_; (intro w hSw; clear hSw; first | rfl | go_simp); simp only [lsz, lss])
      (refine htk 19 36 (.pointer (some ⟨b2, o2 + k * 2, none⟩)) rfl ?_ ?_; (intro w hSw; clear hSw; go_simp); simp only [lsz, lss])
      (refine htk 20 37 (.pointer (some ⟨b2, o2 + k * 2 + 1, none⟩)) rfl ?_ ?_; (intro w hSw; clear hSw; first | rfl | go_simp); simp only [lsz, lss])
      (refine htk 21 38 (v2) rfl ?_ ?_; (intro w hSw; have f0 := (hSw.cell (p := ⟨b2, _, none⟩) hb2).trans e1; clear hSw; go_simp); simp only [lsz, lss])
      refine hrd 22 rfl (fun K hK => ?_)
      rw [if_pos (by kernel_rfl)]
      go_simp
      refine (kVector (Nat.le_refl _) (H1r.out.keep HS.out).isRes (H2r.out.keep HS.out).isRes).mono ?_
      rintro e w9 ⟨rfl, hb9⟩
      rw [decide_eq_true rfl]
      have HS := Lib.hid (HS.out.trans (hb9.mono HS.out.size))
      clear hb9
      have hSS := HS.out
      refine hK.out _ _ HS.out (fun hHeld => ?_)
      clear hK K
      (try simp only [Act.put, lsa, lsz, lss])
      (refine htk 23 40 (.bool false) rfl ?_ ?_; (intro w hSw; clear hSw; first | rfl | go_simp); simp only [lsz, lss])
      (refine htk 24 41 (.bool false) rfl ?_ ?_; (intro w hSw; clear hSw; first | rfl | go_simp); simp only [lsz, lss])
      refine wpAnyH_done (by kernel_rfl) ?_ _
      go_wp2
      exact ⟨⟨k + 1, by omega, by go_num, HB.out.trans (HS.out.mono HB.out.size)⟩, by simp [intOf]; omega⟩
    · have hk' : k = N := by omega
      subst hk'
      have hki : ¬ ((k : Int) < (k : Int)) := by omega
      go_wp2
      go_ret
      exact ⟨rfl, HB.out⟩
set_option maxRecDepth 100000 in
set_option maxHeartbeats 4000000 in
theorem kIntsG {n : Nat} {v u : Value} {l : List Int} {W : World} (hl : IsInts n W v l) (hm : IsInts n W u l) (hn : n ≤ W.heap.size) (hlen : l.length ≤ 100000) :
    Calls Tryz.prog 59 #[v, u] W fun e w' => e = .returned (.bool true) ∧ Below W.heap.size W w' := by
  obtain ⟨p, c1, rfl, -, -, -⟩ := hl.open
  obtain ⟨p2, c2, rfl, -, -, -⟩ := hm.open
  have Hl := Lib.hid hl; have Hm := Lib.hid hm; have Hn := Lib.hid hn
  obtain ⟨N, hN⟩ : ∃ z, l.length = z := ⟨_, rfl⟩
  rw [hN] at hlen Hl Hm ⊢
  have HN := Lib.hid hN
  have hNN : ((N : Int) != (N : Int)) = false := by simp
  clear hl hm hn hN
  go_enter Tryz.func59, Tryz.ntmps59; (try simp only [List.append_eq, List.cons_append, List.nil_append])
  go_wp2
  go_loopw [5] (fun j wr => ∃ k : Nat, k ≤ N ∧ j = .int .i64 k ∧ Below W.heap.size W wr) (fun j _ => N - (intOf j).toNat)
  case atStart => exact ⟨0, Nat.zero_le _, rfl, Below.refl _ _⟩
  case round =>
    obtain ⟨k, hk, rfl, hb⟩ := hrel
    have HB := Lib.hid hb
    clear hb
    by_cases hlt : k < N
    · have hki : (k : Int) < (N : Int) := by omega
      have hkl : k < l.length := by rw [HN.out]; exact hlt
      obtain ⟨b1, o1, rfl, hb1, d0⟩ := (Hl.out.mono (HB.out.mono Hn.out) (Nat.le_trans Hn.out HB.out.size)).get hkl
      obtain ⟨b2, o2, rfl, hb2, e0⟩ := (Hm.out.mono (HB.out.mono Hn.out) (Nat.le_trans Hn.out HB.out.size)).get hkl
      obtain ⟨z, hz⟩ : ∃ z, l[k] = z := ⟨_, rfl⟩
      rw [hz] at d0 e0
      clear hz
      have hxx : (z != z) = false := by simp
      go_wp2_with fail
      go_quiet (fail)
      go_wp2
      exact ⟨⟨k + 1, by omega, by go_num, below_drewN HB.out _⟩, by simp [intOf]; omega⟩
    · have hk' : k = N := by omega
      subst hk'
      have hki : ¬ ((k : Int) < (k : Int)) := by omega
      go_wp2
      go_ret
      exact ⟨rfl, HB.out⟩
theorem subEq (a b c d : Int) (w : World) : (binOp BinOp.neq 73 (.agg #[.int .i64 a, .int .i64 b, .int .i64 c, .int .i64 d]) (.agg #[.int .i64 a, .int .i64 b, .int .i64 c, .int .i64 d])).run Tryz.prog w = .ok (.bool false) w := by
  rw [run_neq_struct]
  simp [go_sem]
theorem subne_step {e : Operand → Value} {oi : Oper} {x y : Operand} (a b c d : Int) (w : World) (ho : oi.op = .binOp .neq 73 x y 73 := by rfl) (hx : e x = .agg #[.int .i64 a, .int .i64 b, .int .i64 c, .int .i64 d] := by rfl) (hy : e y = .agg #[.int .i64 a, .int .i64 b, .int .i64 c, .int .i64 d] := by rfl) :
    (execOp e oi).run Tryz.prog w = .ok (.value (.bool false)) w := by
  have h := subEq a b c d w
  unfold execOp
  rw [ho]
  simp [hx, hy, go_sem, h]
set_option maxRecDepth 100000 in
set_option maxHeartbeats 4000000 in
theorem kSubs {lo lo2 : Nat} {v u : Value} {l : List Su} {W : World} (hl : OwnSu lo W v l) (hm : OwnSu lo2 W u l) (hlen : l.length ≤ 100000) :
    Calls Tryz.prog 56 #[v, u] W fun e w' => e = .returned (.bool true) ∧ Below W.heap.size W w' := by
  obtain ⟨p, c1, rfl⟩ := ownsRow_slice hl
  obtain ⟨p2, c2, rfl⟩ := ownsRow_slice hm
  have Hl := Lib.hid hl; have Hm := Lib.hid hm
  obtain ⟨N, hN⟩ : ∃ z, l.length = z := ⟨_, rfl⟩
  rw [hN] at hlen ⊢
  have HN := Lib.hid hN
  have hNN : ((N : Int) != (N : Int)) = false := by simp
  clear hl hm hN
  go_enter Tryz.func56, Tryz.ntmps56; (try simp only [List.append_eq, List.cons_append, List.nil_append])
  go_wp2
  go_loopw [5] (fun j wr => ∃ k : Nat, k ≤ N ∧ j = .int .i64 k ∧ Below W.heap.size W wr) (fun j _ => N - (intOf j).toNat)
  case atStart => exact ⟨0, Nat.zero_le _, rfl, Below.refl _ _⟩
  case round =>
    obtain ⟨k, hk, rfl, hb⟩ := hrel
    have HB := Lib.hid hb
    clear hb
    by_cases hlt : k < N
    · have hki : (k : Int) < (N : Int) := by omega
      obtain ⟨s, hs⟩ : ∃ s, l[k]? = some s := ⟨_, List.getElem?_eq_getElem (by rw [HN.out]; exact hlt)⟩
      obtain ⟨b1, o1, hq1, -, hb1, -, -, f1, -⟩ := own_row (ownsRow_keep Hl.out HB.out) (List.length_map _) (subV_len l) (k := k) (row := subV s) (by rw [List.getElem?_map, hs]; rfl)
      obtain ⟨b2, o2, hq2, -, hb2, -, -, f2, -⟩ := own_row (ownsRow_keep Hm.out HB.out) (List.length_map _) (subV_len l) (k := k) (row := subV s) (by rw [List.getElem?_map, hs]; rfl)
      subst hq1 hq2
      have d0 := f1 0 _ rfl; have d1 := f1 1 _ rfl; have d2 := f1 2 _ rfl; have d3 := f1 3 _ rfl
      have e0 := f2 0 _ rfl; have e1 := f2 1 _ rfl; have e2 := f2 2 _ rfl; have e3 := f2 3 _ rfl
      obtain ⟨x0, x1, x2, x3⟩ := s
      simp only [Nat.add_zero] at d0 d1 d2 d3 e0 e1 e2 e3
      have heq := subEq x0 x1 x2 x3
      clear hs f1 f2
      go_wp2_with fail
      go_quiet (fail)
      go_wp2
      exact ⟨⟨k + 1, by omega, by go_num, below_drewN HB.out _⟩, by simp [intOf]; omega⟩
    · have hk' : k = N := by omega
      subst hk'
      have hki : ¬ ((k : Int) < (k : Int)) := by omega
      go_wp2
      go_ret
      exact ⟨rfl, HB.out⟩
theorem gNew {room : Int} {base : Nat} (hr : 1 ≤ room ∧ room ≤ 4096) (W : World) (hb : base ≤ W.heap.size) : Calls Tryz.prog 5 #[.int .i64 room] W fun e w' => ∃ g F, e = .returned (.tuple #[.pointer (some ⟨g, 0, none⟩), .int .i64 0]) ∧ StA base g 0 F w' ⟨room, [], [], 0⟩ ∧ (∀ k, F k → W.heap.size ≤ k) ∧ Below W.heap.size W w' := by
  refine (bNew hr W).mono ?_
  rintro e w' ⟨g, hq, hs, rfl, h, hbe⟩
  have hi : GInv (⟨room, [], [], 0⟩ : GB) := ⟨hr, List.Pairwise.nil, List.Pairwise.nil, fun x hx => (by cases hx), fun x hx => (by cases hx), Nat.zero_le _, Int.le_refl _⟩
  have hl := h.low
  refine ⟨g, _, rfl, ⟨hq, hs, 0, 0, [], [], ⟨⟨h.blk, h.mq, h.ms, Fam.nil, Fam.nil, ⟨by omega, by omega, by omega, hl.2.2.2.1⟩⟩, rfl, rfl, hi, ⟨Nat.le_refl _, Nat.le_refl _, Int.le_refl _, by decide⟩, fun x hx => (by cases hx), Nat.le_trans hb hbe.size⟩, rfl⟩, fun k hk => ?_, hbe⟩
  rcases hk with rfl | rfl | rfl | ⟨e, he, -⟩ | ⟨e, he, -⟩
  · exact hl.1
  · exact hl.2.1
  · exact hl.2.2.1
  · cases he
  · cases he
theorem rNewBad {room : Int} (hr : ¬ (1 ≤ room ∧ room ≤ 4096)) (W : World) : Calls Tryz.prog 6 #[.int .i64 room] W fun e w' => e = .returned (.tuple #[.pointer none, .int .i64 2]) ∧ w' = W := by
  by_cases h1 : room < 1
  · go_enter Tryz.func6, Tryz.ntmps6; (try simp only [List.append_eq, List.cons_append, List.nil_append])
    go_wp2
    go_ret2
    exact ⟨rfl, rfl⟩
  · have h2 : 4096 < room := by omega
    go_enter Tryz.func6, Tryz.ntmps6; (try simp only [List.append_eq, List.cons_append, List.nil_append])
    go_wp2
    go_ret2
    exact ⟨rfl, rfl⟩
theorem rNew {room : Int} {base : Nat} (hr : 1 ≤ room ∧ room ≤ 4096) (W : World) (hb : base ≤ W.heap.size) : Calls Tryz.prog 6 #[.int .i64 room] W fun e w' => ∃ g F, e = .returned (.tuple #[.pointer (some ⟨g, 0, none⟩), .int .i64 0]) ∧ StB base g F w' ⟨room, [], [], 0⟩ ∧ (∀ k, F k → W.heap.size ≤ k) ∧ Below W.heap.size W w' := by
  have hi : GInv (⟨room, [], [], 0⟩ : GB) := ⟨hr, List.Pairwise.nil, List.Pairwise.nil, fun x hx => (by cases hx), fun x hx => (by cases hx), Nat.zero_le _, Int.le_refl _⟩
  have Hi := Lib.hid hi
  obtain ⟨h1, h2⟩ := hr
  have h1' : ¬ room < 1 := by omega
  have h2' : ¬ 4096 < room := by omega
  clear hi
  go_enter Tryz.func6, Tryz.ntmps6; (try simp only [List.append_eq, List.cons_append, List.nil_append])
  go_wp2
  go_ret2
  have hbe := (Below.refl W.heap.size W).alloc (Nat.le_refl _) (.cells #[.int .i64 room, .slice none 0 0, .slice none 0 0, .int .i64 0] 59)
  refine ⟨W.heap.size, rfl, FootR W.heap.size (.slice none 0 0) (.slice none 0 0) [], StJ.st (b := ⟨room, [], [], 0⟩) (Q := []) ⟨⟨Blk.new W [.int .i64 room, .slice none 0 0, .slice none 0 0, .int .i64 0] _, hb, World.ownsRow_nil _ _ _ _, OwnSu.nil, Fam.nil⟩, rfl, Hi.out, (show (0 : Int) ≤ 10000 by decide), Nat.zero_le _, Nat.le_trans hb hbe.size⟩, fun k hk => ?_, hbe⟩
  rcases hk with rfl | hk | hk | ⟨e, he, -⟩
  · exact Nat.le_refl _
  · cases hk
  · cases hk
  · cases he
end Go.Proofs.YtfmolimnnheaoaaGreat

/- same of law26: a board and the document's board answer the same. Printed by wip/gen_hs2.py. (For SubsScript.) -/
namespace Go.Proofs.YtfmolimnnheaoaaGreat
open Go.RowKit
set_option linter.unusedSimpArgs false
set_option linter.unusedVariables false

set_option maxRecDepth 100000 in
set_option maxHeartbeats 8000000 in
theorem gSame {base gA gB i : Nat} {FA FB : Nat → Prop} {b : GB} {id : Int} {W : World} (hA : StA base gA i FA W b) (hB : StB base gB FB W b) (hid : i64 id) :
    Calls Tryz.prog 28 #[.pointer (some ⟨gA, 0, none⟩), .pointer (some ⟨gB, 0, none⟩), .int .i64 id] W fun e w' => e = .returned (.bool true) ∧ Below W.heap.size W w' := by
  obtain ⟨hq, hs, nq, ns, Q, S, hA, rfl⟩ := hA
  obtain ⟨qv, sv, Q2, hB, rfl⟩ := hB
  have HA := Lib.hid hA; have HD := Lib.hid hB
  have HI := Lib.hid hid
  have HS := Lib.hid (show (ofG b id).length ≤ 100000 from by
    have h1 := hB.inv.few
    have h2 : (ofG b id).length ≤ b.s.length := List.length_filter_le _ _
    omega)
  have HQ := Lib.hid (show (b.q.map Qy.id).length ≤ 100000 from by
    have h1 := hB.few
    rw [List.length_map, hB.q, List.length_map]; omega)
  clear hA hB
  have HB0 := Lib.hid (Below.refl W.heap.size W)
  obtain ⟨zs, zsh⟩ : ∃ z, settledG b id = z := ⟨_, rfl⟩
  have zse : (zs == zs) = true := by simp
  have Hzs := Lib.hid zsh
  clear zsh
  obtain ⟨zf, zfh⟩ : ∃ z, floorG b id = z := ⟨_, rfl⟩
  have zfe : (zf == zf) = true := by simp
  have Hzf := Lib.hid zfh
  clear zfh
  obtain ⟨zl, zlh⟩ : ∃ z, lastG b id = z := ⟨_, rfl⟩
  have zle : (zl == zl) = true := by simp
  have Hzl := Lib.hid zlh
  clear zlh
  obtain ⟨zr, zrh⟩ : ∃ z, roomG b id = z := ⟨_, rfl⟩
  have zre : (zr == zr) = true := by simp
  have Hzr := Lib.hid zrh
  clear zrh
  have HC0 := Lib.hid (gSettledAt (HA.out.keep HB0.out) HI.out)
  go_enter Tryz.func28, Tryz.ntmps28; (try simp only [List.append_eq, List.cons_append, List.nil_append])
  go_wp2_with fail
  refine HC0.out.mono ?_
  rintro e w1 ⟨rfl, hbx⟩
  try rw [Hzs.out]
  have HB1 := Lib.hid (HB0.out.trans (hbx.mono HB0.out.size))
  clear hbx HC0
  have HC1 := Lib.hid (rSettled (id := id) (HD.out.keep HB1.out))
  go_wp2_with fail
  refine HC1.out.mono ?_
  rintro e w2 ⟨rfl, hbx⟩
  try rw [Hzs.out]
  have HB2 := Lib.hid (HB1.out.trans (hbx.mono HB1.out.size))
  clear hbx HC1
  have HC2 := Lib.hid (gFloor (HA.out.keep HB2.out) HI.out)
  go_wp2_with fail
  refine HC2.out.mono ?_
  rintro e w3 ⟨rfl, hbx⟩
  try rw [Hzf.out]
  have HB3 := Lib.hid (HB2.out.trans (hbx.mono HB2.out.size))
  clear hbx HC2
  have HC3 := Lib.hid (rFloor (id := id) (HD.out.keep HB3.out))
  go_wp2_with fail
  refine HC3.out.mono ?_
  rintro e w4 ⟨rfl, hbx⟩
  try rw [Hzf.out]
  have HB4 := Lib.hid (HB3.out.trans (hbx.mono HB3.out.size))
  clear hbx HC3
  have HC4 := Lib.hid (gLast (HA.out.keep HB4.out) HI.out)
  go_wp2_with fail
  refine HC4.out.mono ?_
  rintro e w5 ⟨rfl, hbx⟩
  try rw [Hzl.out]
  have HB5 := Lib.hid (HB4.out.trans (hbx.mono HB4.out.size))
  clear hbx HC4
  have HC5 := Lib.hid (rLast (id := id) (HD.out.keep HB5.out))
  go_wp2_with fail
  refine HC5.out.mono ?_
  rintro e w6 ⟨rfl, hbx⟩
  try rw [Hzl.out]
  have HB6 := Lib.hid (HB5.out.trans (hbx.mono HB5.out.size))
  clear hbx HC5
  have HC6 := Lib.hid (gRoom (HA.out.keep HB6.out) HI.out)
  go_wp2_with fail
  refine HC6.out.mono ?_
  rintro e w7 ⟨rfl, hbx⟩
  try rw [Hzr.out]
  have HB7 := Lib.hid (HB6.out.trans (hbx.mono HB6.out.size))
  clear hbx HC6
  have HC7 := Lib.hid (rRoom (id := id) (HD.out.keep HB7.out))
  go_wp2_with fail
  refine HC7.out.mono ?_
  rintro e w8 ⟨rfl, hbx⟩
  try rw [Hzr.out]
  have HB8 := Lib.hid (HB7.out.trans (hbx.mono HB7.out.size))
  clear hbx HC7
  have HC8 := Lib.hid (gKept (HA.out.keep HB8.out) HI.out)
  go_wp2_with fail
  refine HC8.out.mono ?_
  rintro e w9 ⟨v1, L1, rfl, ho, he, hbx⟩
  have HO1 := Lib.hid ho; have HE1 := Lib.hid he
  clear ho he
  have HB9 := Lib.hid (HB8.out.trans (hbx.mono HB8.out.size))
  clear hbx HC8
  have HC9 := Lib.hid (rKept (id := id) (HD.out.keep HB9.out))
  go_wp2_with fail
  refine HC9.out.mono ?_
  rintro e w10 ⟨v2, L2, rfl, ho, he, hbx⟩
  have HO2 := Lib.hid ho; have HE2 := Lib.hid he; have HX := Lib.hid hbx
  clear ho he
  have HB10 := Lib.hid (HB9.out.trans (hbx.mono HB9.out.size))
  clear hbx HC9
  have HC10 := Lib.hid (kToldG ((HO1.out.keep HX.out).isTd (Nat.le_refl _)) (HO2.out.isTd (Nat.le_refl _)) (HE1.out.trans HE2.out.symm) (Nat.le_refl _))
  go_wp2_with fail
  refine HC10.out.mono ?_
  rintro e w11 ⟨rfl, hbx⟩
  have HB11 := Lib.hid (HB10.out.trans (hbx.mono HB10.out.size))
  clear hbx HC10
  have HC11 := Lib.hid (gSubs (HA.out.keep HB11.out) HI.out)
  go_wp2_with fail
  refine HC11.out.mono ?_
  rintro e w12 ⟨v3, rfl, ho, hbx⟩
  have HO3 := Lib.hid ho
  clear ho
  have HB12 := Lib.hid (HB11.out.trans (hbx.mono HB11.out.size))
  clear hbx HC11
  have HC12 := Lib.hid (rSubs (id := id) (HD.out.keep HB12.out))
  go_wp2_with fail
  refine HC12.out.mono ?_
  rintro e w13 ⟨v4, rfl, ho, hbx⟩
  have HO4 := Lib.hid ho; have HX4 := Lib.hid hbx
  clear ho
  have HB13 := Lib.hid (HB12.out.trans (hbx.mono HB12.out.size))
  clear hbx HC12
  have HC13 := Lib.hid (kSubs (ownsRow_keep HO3.out HX4.out) HO4.out HS.out)
  go_wp2_with fail
  refine HC13.out.mono ?_
  rintro e w14 ⟨rfl, hbx⟩
  have HB14 := Lib.hid (HB13.out.trans (hbx.mono HB13.out.size))
  clear hbx HC13
  have HC14 := Lib.hid (gQueries (HA.out.keep HB14.out))
  go_wp2_with fail
  refine HC14.out.mono ?_
  rintro e w15 ⟨v5, rfl, ho, hbx⟩
  have HO5 := Lib.hid ho
  clear ho
  have HB15 := Lib.hid (HB14.out.trans (hbx.mono HB14.out.size))
  clear hbx HC14
  have HC15 := Lib.hid (rQueries (HD.out.keep HB15.out))
  go_wp2_with fail
  refine HC15.out.mono ?_
  rintro e w16 ⟨v6, rfl, ho, hbx⟩
  have HO6 := Lib.hid ho; have HX6 := Lib.hid hbx
  clear ho
  have HB16 := Lib.hid (HB15.out.trans (hbx.mono HB15.out.size))
  clear hbx HC15
  have HC16 := Lib.hid (kIntsG ((HO5.out.keep HX6.out).ints (Nat.le_refl _)) (HO6.out.ints (Nat.le_refl _)) (Nat.le_refl _) HQ.out)
  go_wp2_with fail
  refine HC16.out.mono ?_
  rintro e w17 ⟨rfl, hbx⟩
  have HB17 := Lib.hid (HB16.out.trans (hbx.mono HB16.out.size))
  clear hbx HC16
  go_wp2
  go_ret
  exact ⟨rfl, HB17.out⟩
end Go.Proofs.YtfmolimnnheaoaaGreat

/- Two boards at once: what each call keeps of the other. (For SubsScript.) -/
namespace Go.Proofs.YtfmolimnnheaoaaGreat
open Go.RowKit
set_option linter.unusedSimpArgs false
set_option linter.unusedVariables false

/-- What a call turns is quiet, and none of these. -/
def Keeps (base : Nat) (K : Nat → Prop) (W W' : World) : Prop := ∃ M, OffM M W W' ∧ Quiet base W M ∧ ∀ k, K k → ¬ M k
section
variable {base : Nat} {K K' KA KB : Nat → Prop} {W W' : World}
theorem Keeps.below (h : Keeps base K W W') (hb : base ≤ W.heap.size) : Below base W W' := by
  obtain ⟨M, ho, hq, -⟩ := h
  refine ho.below (fun k hk => ?_) hb
  by_cases hlt : k < W.heap.size
  · exact (hq k hk hlt).1
  · omega
theorem Keeps.blk {g t : Nat} {cs : List Value} (h : Keeps base K W W') (hg : Blk W g t cs) (hk : K g) : Blk W' g t cs := by
  obtain ⟨M, ho, -, hM⟩ := h
  exact (ho.block g hg.lt (hM g hk)).trans hg
theorem Keeps.isTd {n : Nat} {v : Value} {L : List TV} (h : Keeps base K W W') (ht : IsTd n base W v L) (hn : n ≤ W.heap.size) (hk : ∀ k, v.ownBlock = some k → K k) : IsTd n base W' v L := by
  obtain ⟨M, ho, hq, hM⟩ := h
  exact ht.off hn ho hq fun k e => hM k (hk k e)
theorem Keeps.res {v : Value} {l : List Rs} (h : Keeps base K W W') (hr : ResAt base W v l) : ResAt base W' v l := by
  obtain ⟨M, ho, hq, -⟩ := h
  exact hr.off ho hq
theorem Keeps.size (h : Keeps base K W W') : W.heap.size ≤ W'.heap.size := by
  obtain ⟨M, ho, -, -⟩ := h
  exact ho.size
end
/-- Both boards. -/
def Duo (base gA gB i : Nat) (W : World) (b c : GB) (KA KB : Nat → Prop) : Prop := ∃ FA FB, StA base gA i FA W b ∧ StB base gB FB W c ∧ (∀ k, FA k → ¬ FB k) ∧ (∀ k, KA k → k < W.heap.size ∧ ¬ FA k) ∧ ∀ k, KB k → k < W.heap.size ∧ ¬ FB k
section
variable {base gA gB i i' : Nat} {W W' w' : World} {b b' c c' : GB} {KA KB KA' KB' FA FB : Nat → Prop}
theorem Duo.stepA (hA : StA base gA i FA W b) (hB : StB base gB FB W c) (hd : ∀ k, FA k → ¬ FB k) (ka : ∀ k, KA k → k < W.heap.size ∧ ¬ FA k) (kb : ∀ k, KB k → k < W.heap.size ∧ ¬ FB k) (p : PostA base gA i' FA W b' w')
    (hj : ∀ k, KB' k → KB k ∨ W.heap.size ≤ k ∧ k < w'.heap.size) : Duo base gA gB i' w' b' c KA KB' ∧ Keeps base KA W w' := by
  obtain ⟨FA', hA', ht⟩ := p
  refine ⟨⟨FA', FB, hA', hB.off ht.off hA.quiet fun k hk h => hd k h hk, fun k hk h => ?_, fun k hk => ⟨Nat.lt_of_lt_of_le (ka k hk).1 ht.off.size, fun h => ?_⟩, fun k hk => ?_⟩, FA, ht.off, hA.quiet, fun k hk => (ka k hk).2⟩
  · rcases ht.new k hk with h1 | h1
    · exact hd k h1 h
    · have := hB.lt h; omega
  · rcases ht.new k h with h1 | h1
    · exact (ka k hk).2 h1
    · have := (ka k hk).1; omega
  · rcases hj k hk with h1 | ⟨h1, h2⟩
    · exact ⟨Nat.lt_of_lt_of_le (kb k h1).1 ht.off.size, (kb k h1).2⟩
    · exact ⟨h2, fun h => by have := hB.lt h; omega⟩
theorem Duo.stepB (hA : StA base gA i FA W b) (hB : StB base gB FB W c) (hd : ∀ k, FA k → ¬ FB k) (ka : ∀ k, KA k → k < W.heap.size ∧ ¬ FA k) (kb : ∀ k, KB k → k < W.heap.size ∧ ¬ FB k) (p : PostB base gB FB W c' w') :
    Duo base gA gB i w' b c' KA KB ∧ Keeps base KB W w' := by
  obtain ⟨FB', hB', ht⟩ := p
  refine ⟨⟨FA, FB', hA.off ht.off hB.quiet fun k hk h => hd k hk h, hB', fun k hk h => ?_, fun k hk => ⟨Nat.lt_of_lt_of_le (ka k hk).1 ht.off.size, (ka k hk).2⟩, fun k hk => ⟨Nat.lt_of_lt_of_le (kb k hk).1 ht.off.size, fun h => ?_⟩⟩, FB, ht.off, hB.quiet, fun k hk => (kb k hk).2⟩
  · rcases ht.new k h with h1 | h1
    · exact hd k hk h1
    · have := hA.lt hk; omega
  · rcases ht.new k h with h1 | h1
    · exact (kb k hk).2 h1
    · have := (kb k hk).1; omega
theorem Duo.keep (h : Duo base gA gB i W b c KA KB) (hb : Below W.heap.size W W') : Duo base gA gB i W' b c KA KB := by
  obtain ⟨FA, FB, hA, hB, hd, ka, kb⟩ := h
  exact ⟨FA, FB, hA.keep hb, hB.keep hb, hd, fun k hk => ⟨Nat.lt_of_lt_of_le (ka k hk).1 hb.size, (ka k hk).2⟩, fun k hk => ⟨Nat.lt_of_lt_of_le (kb k hk).1 hb.size, (kb k hk).2⟩⟩
theorem Duo.more (h : Duo base gA gB i W b c KA KB) (hi : i ≤ i') (h9 : i' ≤ 10000) : Duo base gA gB i' W b c KA KB := by
  obtain ⟨FA, FB, hA, hB, hd, ka, kb⟩ := h
  exact ⟨FA, FB, hA.more hi h9, hB, hd, ka, kb⟩
/-- Other blocks are kept: none of what is theirs, or new ones. -/
theorem Duo.hold (h : Duo base gA gB i W b c KA KB) (hb : Below W.heap.size W W') (ha : ∀ k, KA' k → KA k ∨ W.heap.size ≤ k ∧ k < W'.heap.size) (hc : ∀ k, KB' k → KB k ∨ W.heap.size ≤ k ∧ k < W'.heap.size) : Duo base gA gB i W' b c KA' KB' := by
  obtain ⟨FA, FB, hA, hB, hd, ka, kb⟩ := h
  refine ⟨FA, FB, hA.keep hb, hB.keep hb, hd, fun k hk => ?_, fun k hk => ?_⟩
  · rcases ha k hk with h1 | ⟨h1, h2⟩
    · exact ⟨Nat.lt_of_lt_of_le (ka k h1).1 hb.size, (ka k h1).2⟩
    · exact ⟨h2, fun h => by have := hA.lt h; omega⟩
  · rcases hc k hk with h1 | ⟨h1, h2⟩
    · exact ⟨Nat.lt_of_lt_of_le (kb k h1).1 hb.size, (kb k h1).2⟩
    · exact ⟨h2, fun h => by have := hB.lt h; omega⟩
theorem Duo.numA (h : Duo base gA gB i W b c KA KB) : b.id ≤ i ∧ b.q.length ≤ i := by
  obtain ⟨FA, FB, ⟨hq, hs, nq, ns, Q, S, hA, rfl⟩, -⟩ := h
  have h1 := World.ownsMap.size_le hA.m.mq
  rw [sizeE] at h1
  have h2 := hA.num
  have h3 : b.q.length = Q.length := by rw [hA.q, List.length_map]
  rw [List.length_map] at h1
  omega
theorem Duo.runA {f : Nat} {args : Array Value} {R : Ending → Prop} (h : Duo base gA gB i W b c KA KB)
    (hc : ∀ hq hs nq ns Q S, StI base gA i W b hq hs nq ns Q S → Calls Tryz.prog f args W fun e w' => R e ∧ PostA base gA i' (FootA gA hq hs Q S) W b' w') :
    Calls Tryz.prog f args W fun e w' => R e ∧ Duo base gA gB i' w' b' c KA KB ∧ Keeps base KA W w' := by
  obtain ⟨FA, FB, ⟨hq, hs, nq, ns, Q, S, hA, rfl⟩, hB, hd, ka, kb⟩ := h
  refine (hc _ _ _ _ _ _ hA).mono ?_
  rintro e w' ⟨he, hp⟩
  exact ⟨he, Duo.stepA hA.st hB hd ka kb hp fun k hk => .inl hk⟩
theorem Duo.runB {f : Nat} {args : Array Value} {R : Ending → Prop} (h : Duo base gA gB i W b c KA KB)
    (hc : ∀ qv sv Q, StJ base gB W c qv sv Q → Calls Tryz.prog f args W fun e w' => R e ∧ PostB base gB (FootR gB qv sv Q) W c' w') :
    Calls Tryz.prog f args W fun e w' => R e ∧ Duo base gA gB i w' b c' KA KB ∧ Keeps base KB W w' := by
  obtain ⟨FA, FB, hA, ⟨qv, sv, Q, hB, rfl⟩, hd, ka, kb⟩ := h
  refine (hc _ _ _ hB).mono ?_
  rintro e w' ⟨he, hp⟩
  exact ⟨he, Duo.stepB hA hB.st hd ka kb hp⟩
theorem Duo.pollA {n m : Int} (h : Duo base gA gB i W b c KA KB) (hn : i64 n) (hm : i64 m) :
    Calls Tryz.prog 19 #[.pointer (some ⟨gA, 0, none⟩), .int .i64 n, .int .i64 m] W fun e w' => ∃ v L, e = .returned (.tuple #[v, .int .i64 (pollG b n m).2.2]) ∧ OwnTd W.heap.size base w' v L ∧ L.map Prod.fst = (pollG b n m).2.1 ∧ Duo base gA gB i w' (pollG b n m).1 c KA (fun k => KB k ∨ v.ownBlock = some k) ∧ Keeps base KA W w' := by
  obtain ⟨FA, FB, ⟨hq, hs, nq, ns, Q, S, hA, rfl⟩, hB, hd, ka, kb⟩ := h
  refine (gPoll hA hn hm).mono ?_
  rintro e w' ⟨v, L, he, ho, hl, hp⟩
  exact ⟨v, L, he, ho, hl, Duo.stepA hA.st hB hd ka kb hp fun k hk => hk.imp id fun h => ho.foot_lt h⟩
theorem Duo.pollB {n m : Int} (h : Duo base gA gB i W b c KA KB) (hm : i64 m) :
    Calls Tryz.prog 20 #[.pointer (some ⟨gB, 0, none⟩), .int .i64 n, .int .i64 m] W fun e w' => ∃ v L, e = .returned (.tuple #[v, .int .i64 (pollG c n m).2.2]) ∧ OwnTd W.heap.size base w' v L ∧ L.map Prod.fst = (pollG c n m).2.1 ∧ Duo base gA gB i w' b (pollG c n m).1 KA KB ∧ Keeps base KB W w' := by
  obtain ⟨FA, FB, hA, ⟨qv, sv, Q, hB, rfl⟩, hd, ka, kb⟩ := h
  refine (rPoll hB hm).mono ?_
  rintro e w' ⟨v, L, he, ho, hl, hp⟩
  exact ⟨v, L, he, ho, hl, Duo.stepB hA hB.st hd ka kb hp⟩
theorem Duo.sameB {id : Int} (h : Duo base gA gB i W b b KA KB) (hid : i64 id) :
    Calls Tryz.prog 28 #[.pointer (some ⟨gA, 0, none⟩), .pointer (some ⟨gB, 0, none⟩), .int .i64 id] W fun e w' => e = .returned (.bool true) ∧ Below W.heap.size W w' := by
  obtain ⟨FA, FB, hA, hB, -⟩ := h
  exact gSame hA hB hid
theorem Duo.ofNew {room : Int} {W1 W2 : World} (hA : StA base gA 0 FA W1 ⟨room, [], [], 0⟩) (hB : StB base gB FB W2 ⟨room, [], [], 0⟩) (hb : Below W1.heap.size W1 W2) (hn : ∀ k, FB k → W1.heap.size ≤ k) :
    Duo base gA gB 0 W2 ⟨room, [], [], 0⟩ ⟨room, [], [], 0⟩ (fun _ => False) (fun _ => False) :=
  ⟨FA, FB, hA.keep hb, hB, fun k hk h => (by have := hA.lt hk; have := hn k h; omega), fun _ h => h.elim, fun _ h => h.elim⟩
end
end Go.Proofs.YtfmolimnnheaoaaGreat
