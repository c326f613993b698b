/- sample.Find. -/
import Derived.Test.YtgmdlnobajmjfaaDoorSm4
import Derived.WalkMore
namespace Go.Proofs.YtgmdlnobajmjfaaDoor
open Go.RowKit
set_option linter.unusedSimpArgs false
set_option linter.unusedVariables false

set_option maxHeartbeats 1000000 in
theorem fClosure {r : Rs} {l : List Lab} {vl : Value} {p : Option Addr} {c n : Nat} {W : World} (hn : n ≤ W.heap.size) (h1 : IsLabs n W (.slice p r.labs.length c) r.labs) (h2 : IsLabs n W vl l) :
    Calls Tryd.prog 33 #[.agg #[.slice p r.labs.length c, .int .i64 r.n, .bool r.over], vl] W fun e w' => e = .returned (.int .i64 (compareL r.labs l)) ∧ Below W.heap.size W w' := by
  have H1 := Lib.hid h1; have H2 := Lib.hid h2; have HN := Lib.hid hn
  clear h1 h2 hn
  obtain ⟨l1, x1, y1⟩ := r
  simp only at H1 ⊢
  obtain ⟨m1, hm1⟩ : ∃ z, l1.length = z := ⟨_, rfl⟩
  rw [hm1] at H1 ⊢
  clear hm1
  go_enter Tryd.func33, Tryd.ntmps33; (try simp only [List.append_eq, List.cons_append, List.nil_append])
  go_upto_region 1 with fail
  have hb0 := (Below.refl W.heap.size W).alloc (Nat.le_refl _) (.cells #[.slice p m1 c, .int .i64 x1, .bool y1] 39)
  have hk := Blk.new W [.slice p m1 c, .int .i64 x1, .bool y1] 39
  obtain ⟨g, hg⟩ : ∃ z, W.heap.size = z := ⟨_, rfl⟩
  obtain ⟨X, hX⟩ : ∃ z, W.alloc (.cells #[.slice p m1 c, .int .i64 x1, .bool y1] 39) = z := ⟨_, rfl⟩
  rw [show W.alloc (.cells ([.slice p m1 c, .int .i64 x1, .bool y1] : List Value).toArray 39) = X from hX] at hk
  rw [hX] at hb0 ⊢
  have HB0 := Lib.hid hb0
  rw [hg] at hk ⊢
  clear hX hb0
  have HG := Lib.hid hg
  clear hg
  have e0 := hk.cell 0 _ rfl
  have hgx := hk.lt
  clear hk
  go_wp2_with fail
  refine (lCompare (Nat.le_trans HN.out HB0.out.size) (H1.out.mono (HB0.out.mono HN.out) (Nat.le_refl _)) (H2.out.mono (HB0.out.mono HN.out) (Nat.le_refl _))).mono ?_
  rintro e w1 ⟨rfl, hb1⟩
  have HB1 := Lib.hid (HB0.out.trans (hb1.mono HB0.out.size))
  clear hb1 e0 hgx
  go_wp2
  go_ret
  exact ⟨rfl, HB1.out⟩
def foundAt (v : List Rs) (l : List Lab) (k : Nat) : Bool := match v[k]? with
  | some r => decide (orderL r.labs l = 0)
  | none => false
def SrchR (v : List Rs) (l : List Lab) (W : World) (e : Ending) (w' : World) : Prop :=
  ∃ k : Nat, k ≤ v.length ∧ e = .returned (.tuple #[.int .i64 k, .bool (foundAt v l k)]) ∧ (∀ j r, v[j]? = some r → (orderL r.labs l < 0 ↔ j < k)) ∧ Below W.heap.size W w'
set_option maxRecDepth 100000 in
set_option maxHeartbeats 8000000 in
theorem sSearch {v : List Rs} {l : List Lab} {va vl : Value} {n : Nat} {W : World} (hn : n ≤ W.heap.size) (ha : IsRes n W va v) (hb : IsLabs n W vl l) (hv : checkV v = 0) (hl : checkL l = 0) :
    Calls Tryd.prog 32 #[va, vl, .func (.func 33) #[] #[]] W (SrchR v l W) := by
  obtain ⟨p, cap, rfl, hc1, hc2⟩ := ha.open
  have hlen := (checkV_ok hv).1
  have HRISE := Lib.hid (show ∀ (j i : Nat) (p r : Rs), i < j → v[i]? = some p → v[j]? = some r → orderL p.labs r.labs < 0 from fun j i p r => checkV_rise hv)
  have HMEM := Lib.hid (checkV_mem hv)
  have HLC := Lib.hid hl
  have HA := Lib.hid ha; have HB := Lib.hid hb; have HN := Lib.hid hn
  clear ha hb hn hv hl
  obtain ⟨N, hN⟩ : ∃ z, v.length = z := ⟨_, rfl⟩
  rw [hN] at HA hc1 hlen ⊢
  have HNL := Lib.hid hN
  clear hN
  have hN2 : (N : Int) ≤ 4096 := by omega
  go_enter Tryd.func32, Tryd.ntmps32; (try simp only [List.append_eq, List.cons_append, List.nil_append])
  go_wp2
  go_loopw [9, 10] (fun v9 v10 wr => ∃ lo hi : Nat, v9 = .int .i64 lo ∧ v10 = .int .i64 hi ∧ lo ≤ hi ∧ hi ≤ N ∧ (∀ j r, v[j]? = some r → j < lo → orderL r.labs l < 0) ∧ (∀ j r, v[j]? = some r → hi ≤ j → 0 ≤ orderL r.labs l) ∧ Below W.heap.size W wr) (fun v9 v10 _ => (intOf v10).toNat - (intOf v9).toNat)
  case atStart => exact ⟨0, N, rfl, rfl, Nat.zero_le _, Nat.le_refl _, fun j r _ h => by omega, fun j r h1 h2 => by have := (List.getElem?_eq_some_iff.1 h1).1; have := HNL.out; omega, Below.refl _ _⟩
  case round =>
    obtain ⟨lo, hi, rfl, rfl, hlh, hin, hlo, hhi, hb⟩ := hrel
    have Hlo := Lib.hid hlo; have Hhi := Lib.hid hhi; have HBW := Lib.hid hb
    have hsz := HBW.out.size
    clear hlo hhi hb
    by_cases hlt : lo < hi
    · obtain ⟨m, hm⟩ : ∃ z, (lo + hi) / 2 = z := ⟨_, rfl⟩
      have E0 := Lib.hid (show ((lo : Int) + (hi : Int)) / 2 = (m : Int) by omega)
      have hm1 : lo ≤ m := by omega
      have hm2 : m < hi := by omega
      obtain ⟨r, hr⟩ : ∃ r, v[m]? = some r := ⟨_, List.getElem?_eq_getElem (by have := HNL.out; omega)⟩
      have HR := Lib.hid hr
      obtain ⟨b1, o1, q1, c1, rfl, hb1, d0, d1, d2, hl1, -⟩ := (HA.out.mono (HBW.out.mono HN.out) (Nat.le_refl _)).get hr
      have HL1 := Lib.hid hl1
      have HCM := Lib.hid (compareL_ok (right_check (HMEM.out r (List.mem_of_getElem? hr))) HLC.out)
      clear hr hl1
      obtain ⟨l1, x1, y1⟩ := r
      simp only at d0 d1 d2 HL1 HCM
      have hb1w : b1 < wr.heap.size := by have := HN.out; omega
      have HC := Lib.hid (fClosure (r := ⟨l1, x1, y1⟩) (l := l) (Nat.le_trans HN.out hsz) HL1.out (HB.out.mono (HBW.out.mono HN.out) (Nat.le_refl _)))
      rw [← hm] at d0 d1 d2
      clear hm
      go_wp2_with fail
      refine HC.out.mono ?_
      rintro e w1 ⟨rfl, hb9⟩
      have HB1 := Lib.hid (HBW.out.trans (hb9.mono hsz))
      rw [HCM.out]
      clear hb9 d0 d1 d2 hb1w HC
      obtain ⟨cc, hcc⟩ : ∃ z, orderL l1 l = z := ⟨_, rfl⟩
      have HCC := Lib.hid hcc
      rw [hcc]
      clear hcc
      by_cases hneg : cc < 0
      · go_wp2
        refine ⟨⟨m + 1, hi, by rw [E0.out]; go_num, rfl, by omega, hin, fun j s hs hj => ?_, Hhi.out, HB1.out⟩, by rw [E0.out]; simp only [intOf]; omega⟩
        rcases Nat.lt_or_ge j m with h1 | h1
        · exact orderL_trans (HRISE.out _ _ _ _ h1 hs HR.out) (by rw [HCC.out]; exact hneg)
        · have : j = m := by omega
          subst this
          rw [HR.out] at hs; cases hs
          rw [HCC.out]; exact hneg
      · go_wp2
        refine ⟨⟨lo, m, rfl, by rw [E0.out], hm1, by omega, Hlo.out, fun j s hs hj => ?_, HB1.out⟩, by rw [E0.out]; simp only [intOf]; omega⟩
        rcases Nat.lt_or_ge m j with h1 | h1
        · have h2 := HRISE.out _ _ _ _ h1 HR.out hs
          rcases Int.lt_or_le (orderL s.labs l) 0 with h3 | h3
          · have h4 := orderL_trans h2 h3
            rw [HCC.out] at h4
            omega
          · exact h3
        · have : j = m := by omega
          subst this
          rw [HR.out] at hs; cases hs
          rw [HCC.out]; omega
    · obtain rfl : hi = lo := by omega
      have HALL := Lib.hid (show ∀ j r, v[j]? = some r → (orderL r.labs l < 0 ↔ j < hi) from fun j r hr => ⟨fun h => by
        rcases Nat.lt_or_ge j hi with h1 | h1
        · exact h1
        · have := Hhi.out j r hr h1; omega, fun h => Hlo.out j r hr h⟩)
      by_cases hl2 : hi < N
      · have hl3 : (hi : Int) < (N : Int) := by omega
        obtain ⟨r, hr⟩ : ∃ r, v[hi]? = some r := ⟨_, List.getElem?_eq_getElem (by have := HNL.out; omega)⟩
        have HF := Lib.hid (show foundAt v l hi = decide (orderL r.labs l = 0) from by unfold foundAt; rw [hr])
        obtain ⟨b1, o1, q1, c1, rfl, hb1, d0, d1, d2, hl1, -⟩ := (HA.out.mono (HBW.out.mono HN.out) (Nat.le_refl _)).get hr
        have HL1 := Lib.hid hl1
        have HCM := Lib.hid (compareL_ok (right_check (HMEM.out r (List.mem_of_getElem? hr))) HLC.out)
        clear hr hl1
        obtain ⟨l1, x1, y1⟩ := r
        simp only at d0 d1 d2 HL1 HCM HF
        have hb1w : b1 < wr.heap.size := by have := HN.out; omega
        have HC := Lib.hid (fClosure (r := ⟨l1, x1, y1⟩) (l := l) (Nat.le_trans HN.out hsz) HL1.out (HB.out.mono (HBW.out.mono HN.out) (Nat.le_refl _)))
        go_wp2_with fail
        refine HC.out.mono ?_
        rintro e w1 ⟨rfl, hb9⟩
        have HB1 := Lib.hid (HBW.out.trans (hb9.mono hsz))
        rw [HCM.out]
        clear hb9 d0 d1 d2 hb1w HC
        have HC0 := Lib.hid (show (orderL l1 l == 0) = foundAt v l hi from by rw [HF.out]; rfl)
        generalize orderL l1 l = cc at *
        go_wp2
        go_ret2
        exact ⟨hi, by have := HNL.out; omega, by rw [← HC0.out]; rfl, HALL.out, HB1.out⟩
      · have hl3 : ¬ ((hi : Int) < (N : Int)) := by omega
        have HF := Lib.hid (show foundAt v l hi = false from by unfold foundAt; rw [List.getElem?_eq_none (by have := HNL.out; omega)])
        go_wp2
        go_ret2
        exact ⟨hi, by have := HNL.out; omega, by rw [HF.out]; rfl, HALL.out, HBW.out⟩
def findR (v : List Rs) (l : List Lab) : Int × Bool × Bool := match findV v l with
  | some r => (r.n, r.over, true)
  | none => (0, false, false)
theorem findR_some {v : List Rs} {l : List Lab} {r : Rs} (h : findV v l = some r) : findR v l = (r.n, r.over, true) := by unfold findR; rw [h]
theorem findR_none {v : List Rs} {l : List Lab} (h : findV v l = none) : findR v l = (0, false, false) := by unfold findR; rw [h]
theorem findV_step {v : List Rs} {l : List Lab} {k : Nat} {r : Rs} (h : ∀ j s, v[j]? = some s → j < k → s.labs ≠ l) (hr : v[k]? = some r) (hl : r.labs = l) : findV v l = some r := by
  unfold findV
  obtain ⟨hk, e⟩ := List.getElem?_eq_some_iff.1 hr
  have e2 : v = v.take k ++ v[k] :: v.drop (k + 1) := by rw [← List.drop_eq_getElem_cons hk, List.take_append_drop]
  rw [e2, List.find?_append, List.find?_eq_none.2]
  · rw [e]; simp [hl]
  · intro x hx
    obtain ⟨j, hj, hx2⟩ := List.getElem_of_mem hx
    rw [List.length_take] at hj
    rw [List.getElem_take] at hx2
    have := h j x (by rw [List.getElem?_eq_getElem (by omega), hx2]) (by omega)
    simpa using this
theorem findV_end {v : List Rs} {l : List Lab} (h : ∀ j s, v[j]? = some s → j < v.length → s.labs ≠ l) : findV v l = none := by
  unfold findV
  refine List.find?_eq_none.2 fun x hx => ?_
  obtain ⟨j, hj, hx2⟩ := List.getElem_of_mem hx
  have := h j x (by rw [List.getElem?_eq_getElem hj, hx2]) hj
  simpa using this
theorem Blk.off_row {w : World} {g t g' : Nat} {cs : List Value} (h : Blk w g t cs) (hne : g ≠ g') (cs' : Array Value) : Blk (w.setRow g' cs') g t cs := by
  have h' : w.heap[g]? = some (.cells cs.toArray t (0, 0)) := h
  show (w.heap.modify g' _)[g]? = _
  rw [Array.getElem?_modify, if_neg (fun e => hne e.symm)]
  exact h'
def FindL (v : List Rs) (l : List Lab) (N : Nat) (w2 : World) (s9 s36 : Value) (wr : World) : Prop := ∃ k : Nat, k ≤ N ∧ s36 = .int .i64 k ∧ s9 = .bool false ∧ (∀ j s, v[j]? = some s → j < k → s.labs ≠ l) ∧ Below w2.heap.size w2 wr
def FindC (v : List Rs) (l : List Lab) (X : World) (s : Value) (wx : World) : Prop := ∃ b : Bool, s = .bool b ∧ (b = true → checkV v = 0 ∧ checkL l = 0) ∧ Below X.heap.size X wx
set_option maxRecDepth 100000 in
set_option maxHeartbeats 8000000 in
theorem sFind {v : List Rs} {l : List Lab} {va vl : Value} {n : Nat} {W : World} (hn : n ≤ W.heap.size) (ha : IsRes n W va v) (hb : IsLabs n W vl l) :
    Calls Tryd.prog 10 #[va, vl] W fun e w' => e = .returned (.tuple #[.agg #[.int .i64 (findR v l).1, .bool (findR v l).2.1], .bool (findR v l).2.2]) ∧ Below W.heap.size W w' := by
  obtain ⟨p, cap, rfl, hc1, hc2⟩ := ha.open
  unfold maxLen at hc2
  have HA := Lib.hid ha; have HB := Lib.hid hb; have HN := Lib.hid hn
  clear ha hb hn
  obtain ⟨N, hN⟩ : ∃ z, v.length = z := ⟨_, rfl⟩
  rw [hN] at HA hc1 ⊢
  have HNL := Lib.hid hN
  clear hN
  have hN2 : (N : Int) ≤ 9223372036854775807 := by omega
  obtain ⟨fr, hfr⟩ : ∃ z, findR v l = z := ⟨_, rfl⟩
  have HFR := Lib.hid hfr
  rw [hfr]
  clear hfr
  obtain ⟨f1, f2, f3⟩ := fr
  simp only
  go_enter Tryd.func10, Tryd.ntmps10; (try simp only [List.append_eq, List.cons_append, List.nil_append])
  go_upto_region 1 with fail
  have hb0 := (Below.refl W.heap.size W).alloc (Nat.le_refl _) (.cells #[.int .i64 0, .bool false] 31)
  have hk := Blk.new W [.int .i64 0, .bool false] 31
  obtain ⟨g, hg⟩ : ∃ z, W.heap.size = z := ⟨_, rfl⟩
  obtain ⟨X, hX⟩ : ∃ z, W.alloc (.cells #[.int .i64 0, .bool false] 31) = z := ⟨_, rfl⟩
  rw [show W.alloc (.cells ([.int .i64 0, .bool false] : List Value).toArray 31) = X from hX] at hk
  rw [hX] at hb0 ⊢
  have HB0 := Lib.hid hb0
  rw [hg] at hk ⊢
  have HK := Lib.hid hk
  clear hX hb0 hk
  have HG := Lib.hid hg
  clear hg
  have HAX := Lib.hid (HA.out.mono (HB0.out.mono HN.out) (Nat.le_refl _)); have HBX := Lib.hid (HB.out.mono (HB0.out.mono HN.out) (Nat.le_refl _))
  have hnX := Nat.le_trans HN.out HB0.out.size
  go_step3
  go_upto_region 1 with fail
  go_cut [19] from 12 to 18 (fun s wx => FindC v l X s wx)
  case first =>
    go_wp2_with fail
    refine (sCheckV hnX HAX.out).mono ?_
    rintro e w1 ⟨rfl, hb1⟩
    have HB1 := Lib.hid hb1
    have hn1 := Nat.le_trans hnX hb1.size
    clear hb1
    obtain ⟨c1, hc⟩ : ∃ z, checkV v = z := ⟨_, rfl⟩
    have HC1 := Lib.hid hc
    rw [hc]
    clear hc
    by_cases h1 : c1 = 0
    · subst h1
      go_wp2_with fail
      refine (lCheck l vl n w1 hn1 (HBX.out.mono (HB1.out.mono hnX) (Nat.le_refl _))).mono ?_
      rintro e w2 ⟨rfl, hb2⟩
      have HB2 := Lib.hid (HB1.out.trans (hb2.mono HB1.out.size))
      clear hb2
      obtain ⟨c2, hc⟩ : ∃ z, checkL l = z := ⟨_, rfl⟩
      have HC2 := Lib.hid hc
      rw [hc]
      clear hc
      by_cases h2 : c2 = 0
      · subst h2
        go_wp2
        go_meet
        exact ⟨_, rfl, fun _ => ⟨HC1.out, HC2.out⟩, HB2.out⟩
      · have hx : (c2 == 0) = false := by simp [h2]
        clear h2
        go_wp2
        go_meet
        exact ⟨_, rfl, (fun h => by cases h), HB2.out⟩
    · have hx : (c1 == 0) = false := by simp [h1]
      clear h1
      go_wp2
      go_meet
      exact ⟨_, rfl, (fun h => by cases h), HB1.out⟩
  case rest =>
    obtain ⟨bb, rfl, hbb, hb1⟩ := hcut
    obtain ⟨w1, hw1⟩ : ∃ z, z = wc := ⟨_, rfl⟩
    subst hw1
    have HBB := Lib.hid hbb
    have HK := Lib.hid (HK.out.keep hb1)
    have HB1 := Lib.hid (HB0.out.trans (hb1.mono HB0.out.size))
    have HA1 := Lib.hid (HAX.out.mono (hb1.mono hnX) (Nat.le_refl _)); have HL1 := Lib.hid (HBX.out.mono (hb1.mono hnX) (Nat.le_refl _))
    have hn1 := Nat.le_trans hnX hb1.size
    clear hbb hb1 hnX HAX HBX HB0
    cases bb with
    | true =>
      have hbt := HBB.out rfl
      go_wp2_with fail
      refine (sSearch hn1 HA1.out HL1.out hbt.1 hbt.2).mono ?_
      rintro e w2 ⟨k, hk, rfl, hall, hb2⟩
      have HSP := Lib.hid (findV_split hbt.1 hk hall)
      have HK := Lib.hid (HK.out.keep hb2)
      have HB2 := Lib.hid (HB1.out.trans (hb2.mono HB1.out.size))
      have HA2 := Lib.hid (HA1.out.mono (hb2.mono hn1) (Nat.le_refl _))
      have hn2 := Nat.le_trans hn1 hb2.size
      clear hall hb2 hbt
      have hgl := HK.out.lt
      have hkl := HK.out
      by_cases hf : foundAt v l k = true
      · have hfe : foundAt v l k = true := hf
        rw [hf]
        unfold foundAt at hfe
        obtain ⟨r, hr⟩ : ∃ r, v[k]? = some r := by
          cases hr : v[k]? with
          | none => rw [hr] at hfe; cases hfe
          | some r => exact ⟨r, rfl⟩
        rw [hr] at hfe
        have hz : orderL r.labs l = 0 := by simpa using hfe
        have HR := Lib.hid (show findR v l = (r.n, r.over, true) from findR_some (by have h := HSP.out; rw [hr] at h; exact h.trans (if_pos hz)))
        obtain ⟨b1, o1, q1, c1, rfl, hb1, d0, d1, d2, hl1, -⟩ := HA2.out.get hr
        obtain ⟨e1, e2, e3⟩ : f1 = r.n ∧ f2 = r.over ∧ f3 = true := by
          have h := HFR.out
          rw [HR.out] at h
          simp only [Prod.mk.injEq] at h
          exact ⟨h.1.symm, h.2.1.symm, h.2.2.symm⟩
        subst e1 e2 e3
        have hkN : k < N := by have := (List.getElem?_eq_some_iff.1 hr).1; have := HNL.out; omega
        have hkNi : (k : Int) < (N : Int) := by omega
        have hb1w : b1 < w2.heap.size := by omega
        clear hf hfe hz hr hl1 d0 HR
        obtain ⟨l1, x1, y1⟩ := r
        simp only at d1 d2 ⊢
        go_wp2_with (refine wpList_store_row rfl 31 _ _ rfl g #[.int .i64 x1, .bool y1] rfl rfl 31 #[.int .i64 0, .bool false] hkl (by kernel_rfl) rfl (by kernel_rfl) ?_)
        (try rw [Exit.noGoto_ret])
        have hrow := HK.out.row [.int .i64 x1, .bool y1]
        exact bodyPost_agg_tmp (d := _) rfl rfl hrow Tryd.underlying31 rfl (by kernel_rfl) rfl ⟨rfl, below_setRow HB2.out (by have := HG.out; omega) _⟩
      · have hfe : foundAt v l k = false := by simpa using hf
        have HR := Lib.hid (show findR v l = (0, false, false) from findR_none (by
          have h := HSP.out
          unfold foundAt at hfe
          cases hr : v[k]? with
          | none => rw [hr] at h; exact h
          | some r =>
            rw [hr] at h hfe
            exact h.trans (if_neg (by simpa using hfe))))
        obtain ⟨e1, e2, e3⟩ : f1 = 0 ∧ f2 = false ∧ f3 = false := by
          have h := HFR.out
          rw [HR.out] at h
          simp only [Prod.mk.injEq] at h
          exact ⟨h.1.symm, h.2.1.symm, h.2.2.symm⟩
        subst e1 e2 e3
        rw [hfe]
        clear hf hfe HR
        go_wp2_with (refine wpList_store_row rfl 31 _ _ rfl g #[.int .i64 0, .bool false] rfl rfl 31 #[.int .i64 0, .bool false] hkl (by kernel_rfl) rfl (by kernel_rfl) ?_)
        (try rw [Exit.noGoto_ret])
        have hrow := HK.out.row [.int .i64 0, .bool false]
        exact bodyPost_agg_tmp (d := _) rfl rfl hrow Tryd.underlying31 rfl (by kernel_rfl) rfl ⟨rfl, below_setRow HB2.out (by have := HG.out; omega) _⟩
    | false =>
      go_wp2_with fail
      go_step3
      go_upto_region 8 with fail
      have HG8 := Lib.hid HK.out.lt
      have hb0 := (Below.refl w1.heap.size w1).alloc (Nat.le_refl _) (.cells #[.int .i64 0, .bool false] 31)
      have hk8 := Blk.new w1 [.int .i64 0, .bool false] 31
      have HK := Lib.hid (HK.out.keep hb0)
      have HB2 := Lib.hid (HB1.out.trans (hb0.mono HB1.out.size))
      have HA2 := Lib.hid (HA1.out.mono (hb0.mono hn1) (Nat.le_refl _)); have HL2 := Lib.hid (HL1.out.mono (hb0.mono hn1) (Nat.le_refl _))
      have hn2 := Nat.le_trans hn1 hb0.size
      obtain ⟨g8, hg8⟩ : ∃ z, w1.heap.size = z := ⟨_, rfl⟩
      obtain ⟨w2, hw2⟩ : ∃ z, w1.alloc (.cells #[.int .i64 0, .bool false] 31) = z := ⟨_, rfl⟩
      rw [show w1.alloc (.cells ([.int .i64 0, .bool false] : List Value).toArray 31) = w2 from hw2] at hk8
      rw [hw2] at HK HB2 HA2 HL2 hn2 ⊢
      rw [hg8] at hk8 HG8 ⊢
      have HK8 := Lib.hid hk8
      clear hw2 hg8 hb0 hk8 hn1
      go_wp2_with fail
      go_loopw [9, 36] (fun s9 s36 wr => FindL v l N w2 s9 s36 wr) (fun _ s36 _ => N - (intOf s36).toNat)
      case atStart => exact ⟨0, Nat.zero_le _, rfl, rfl, fun j s _ h => by omega, Below.refl _ _⟩
      case round =>
        obtain ⟨k, hk, rfl, rfl, hno, hb⟩ := hrel
        have HNO := Lib.hid hno; have HBW := Lib.hid hb
        have hsz := hb.size
        clear hno hb
        by_cases hlt : k < N
        · have hki : (k : Int) < (N : Int) := by omega
          obtain ⟨r, hr⟩ : ∃ r, v[k]? = some r := ⟨_, List.getElem?_eq_getElem (by have := HNL.out; omega)⟩
          obtain ⟨b1, o1, q1, c1, rfl, hb1, d0, d1, d2, hl1, -⟩ := (HA2.out.mono (HBW.out.mono hn2) (Nat.le_refl _)).get hr
          have HR := Lib.hid hr
          have HL1 := Lib.hid hl1
          clear hr hl1
          obtain ⟨l1, x1, y1⟩ := r
          simp only at d0 d1 d2 HL1
          obtain ⟨m1, hm1⟩ : ∃ z, l1.length = z := ⟨_, rfl⟩
          rw [hm1] at d0 HL1
          clear hm1
          have hb1w : b1 < wr.heap.size := by omega
          go_upto_region 11 with (refine wpList_store_new rfl 39 _ _ rfl #[.slice q1 m1 c1, .int .i64 x1, .bool y1] _ _ rfl rfl (by kernel_rfl) rfl (by kernel_rfl) ?_)
          have ho1 := (Below.refl wr.heap.size wr).alloc (Nat.le_refl _) (.cells #[.slice q1 m1 c1, .int .i64 x1, .bool y1] 39)
          have hk1 := Blk.new wr [.slice q1 m1 c1, .int .i64 x1, .bool y1] 39
          obtain ⟨g1, hg1⟩ : ∃ z, wr.heap.size = z := ⟨_, rfl⟩
          obtain ⟨w3, hw3⟩ : ∃ z, wr.alloc (.cells #[.slice q1 m1 c1, .int .i64 x1, .bool y1] 39) = z := ⟨_, rfl⟩
          have HB3 := Lib.hid (HBW.out.trans (ho1.mono hsz))
          have HL3 := Lib.hid (HL1.out.mono (ho1.mono (Nat.le_trans hn2 hsz)) (Nat.le_refl _))
          rw [show wr.alloc (.cells ([.slice q1 m1 c1, .int .i64 x1, .bool y1] : List Value).toArray 39) = w3 from hw3] at hk1
          rw [hw3] at HB3 HL3 ⊢
          rw [hg1] at hk1 ⊢
          have HK1 := Lib.hid hk1
          clear hw3 hg1 ho1 hk1 d0 d1 d2 hb1w hb1
          have e0 := HK1.out.cell 0 _ rfl; have gl1 := HK1.out.lt
          have hn3 := Nat.le_trans hn2 HB3.out.size
          go_wp2_with fail
          refine (eqLabs l1 l _ _ n w3 hn3 HL3.out (HL2.out.mono (HB3.out.mono hn2) (Nat.le_refl _))).mono ?_
          rintro e w4 ⟨rfl, hb4⟩
          have HB4 := Lib.hid (HB3.out.trans (hb4.mono HB3.out.size))
          have HK1 := Lib.hid (HK1.out.keep hb4)
          clear hb4 e0 gl1
          by_cases hll : l1 = l
          · rw [decide_eq_true hll]
            obtain ⟨e1, e2, e3⟩ : f1 = x1 ∧ f2 = y1 ∧ f3 = true := by
              have h := HFR.out
              rw [findR_some (findV_step HNO.out HR.out hll)] at h
              simp only [Prod.mk.injEq] at h
              exact ⟨h.1.symm, h.2.1.symm, h.2.2.symm⟩
            subst e1 e2 e3
            clear hll
            have e1 := HK1.out.cell 1 _ rfl; have e2 := HK1.out.cell 2 _ rfl; have gl1 := HK1.out.lt
            have hk8 := HK8.out.keep HB4.out
            have hkg := HK.out.keep HB4.out
            go_upto_region 14 with (refine wpList_store_row rfl 31 _ _ rfl g8 #[.int .i64 f1, .bool f2] rfl rfl 31 #[.int .i64 0, .bool false] hk8 (by kernel_rfl) rfl (by kernel_rfl) ?_)
            have hk9 := hk8.row [.int .i64 f1, .bool f2]
            have hkg9 := hkg.off_row (g' := g8) (by have := HG8.out; omega) #[.int .i64 f1, .bool f2]
            have hb9 := below_setRow (HB2.out.trans (HB4.out.mono HB2.out.size)) (g := g8) (by have := HG.out; have := HG8.out; omega) #[.int .i64 f1, .bool f2]
            obtain ⟨w5, hw5⟩ : ∃ z, w4.setRow g8 #[.int .i64 f1, .bool f2] = z := ⟨_, rfl⟩
            rw [show w4.setRow g8 ([.int .i64 f1, .bool f2] : List Value).toArray = w5 from hw5] at hk9
            rw [hw5] at hkg9 hb9 ⊢
            clear hw5 hk8 hkg e1 e2 gl1
            have h80 := hk9.cell 0 _ rfl; have h81 := hk9.cell 1 _ rfl; have gl8 := hk9.lt
            have HKG9 := Lib.hid hkg9
            have HB9 := Lib.hid hb9
            clear hb9
            go_wp2_with (refine wpList_store_row rfl 31 _ _ rfl g #[.int .i64 f1, .bool f2] rfl rfl 31 #[.int .i64 0, .bool false] hkg9 (by kernel_rfl) rfl (by kernel_rfl) ?_)
            (try rw [Exit.noGoto_ret])
            have hrow := HKG9.out.row [.int .i64 f1, .bool f2]
            exact bodyPost_agg_tmp (d := _) rfl rfl hrow Tryd.underlying31 rfl (by kernel_rfl) rfl ⟨rfl, below_setRow HB9.out (by have := HG.out; omega) _⟩
          · rw [decide_eq_false hll]
            have HLL := Lib.hid hll
            clear hll
            go_wp2
            refine ⟨⟨k + 1, by omega, by go_num, rfl, fun j s hs hj => ?_, HB4.out⟩, by simp [intOf]; omega⟩
            rcases Nat.lt_or_ge j k with h1 | h1
            · exact HNO.out j s hs h1
            · have : j = k := by omega
              subst this
              rw [HR.out] at hs; cases hs
              exact HLL.out
        · have hki : ¬ ((k : Int) < (N : Int)) := by omega
          obtain ⟨e1, e2, e3⟩ : f1 = 0 ∧ f2 = false ∧ f3 = false := by
            have h := HFR.out
            rw [findR_none (findV_end fun j s hs hj => HNO.out j s hs (by have := HNL.out; omega))] at h
            simp only [Prod.mk.injEq] at h
            exact ⟨h.1.symm, h.2.1.symm, h.2.2.symm⟩
          subst e1 e2 e3
          have hk8 := HK8.out.keep HBW.out
          have hkg := HK.out.keep HBW.out
          have h80 := hk8.cell 0 _ rfl; have h81 := hk8.cell 1 _ rfl; have gl8 := hk8.lt
          clear hk8
          go_wp2_with (refine wpList_store_row rfl 31 _ _ rfl g #[.int .i64 0, .bool false] rfl rfl 31 #[.int .i64 0, .bool false] hkg (by kernel_rfl) rfl (by kernel_rfl) ?_)
          (try rw [Exit.noGoto_ret])
          have hrow := hkg.row [.int .i64 0, .bool false]
          exact bodyPost_agg_tmp (d := _) rfl rfl hrow Tryd.underlying31 rfl (by kernel_rfl) rfl ⟨rfl, below_setRow (HB2.out.trans (HBW.out.mono HB2.out.size)) (by have := HG.out; omega) _⟩
end Go.Proofs.YtgmdlnobajmjfaaDoor
