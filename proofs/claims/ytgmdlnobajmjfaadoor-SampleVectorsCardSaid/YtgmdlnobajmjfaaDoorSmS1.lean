/- ref04.Sort. Printed by wip/gen_sms1.py out of wip/sms1.tmpl. -/
import Derived.Test.YtgmdlnobajmjfaaDoorSmV0
import Derived.IntWalk
import Derived.BigQuiet
import Derived.Deep.QuietTactic
namespace Go.Proofs.YtgmdlnobajmjfaaDoor
open Go.RowKit
set_option linter.unusedSimpArgs false
set_option linter.unusedVariables false

theorem Blk.not_own {w : World} {g t lo e sz n : Nat} {cs : List Value} {v : Value} {xs : List Value} (h : Blk w g t cs) (ho : w.ownsRow lo e sz v n xs) (hne : t ≠ e) : v.ownBlock ≠ some g := by
  intro hg
  rcases ho.2 with ⟨rfl, _⟩ | ⟨g1, c1, u1, rfl, _, hh, _⟩
  · cases hg
  · simp [Value.ownBlock] at hg
    subst hg
    have h' : w.heap[g1]? = some (.cells cs.toArray t (0, 0)) := h
    rw [hh] at h'
    simp at h'
    exact hne h'.2.symm
theorem srcB {X : World} {b t sz m c : Nat} {cs : List Value} (h : Blk X b t cs) (hl : cs.length = m * sz) : Src X (.slice (some ⟨b, 0, none⟩) m c) sz m cs := by
  refine .inr ⟨_, c, rfl, hl, fun j u hu => ?_⟩
  rw [add_off, Nat.zero_add]
  exact h.cell j u hu
theorem own_row {w : World} {base e sz n : Nat} {v : Value} {xs : List Value} (h : w.ownsRow base e sz v n xs) {g : Nat} (hne : v.ownBlock ≠ some g) (cs : Array Value) : (w.setRow g cs).ownsRow base e sz v n xs := by
  refine ⟨h.1, ?_⟩
  rcases h.2 with h' | ⟨g1, cap, cur, rfl, hg, hh, h1⟩
  · exact .inl h'
  · refine .inr ⟨g1, cap, cur, rfl, hg, ?_, h1⟩
    have : g ≠ g1 := fun e => hne (by rw [e]; rfl)
    show (w.heap.modify g _)[g1]? = _
    rw [Array.getElem?_modify, if_neg this]
    exact hh
/-- What region 17 makes. -/
def Made17 (X : World) (l1 : List Lab) (m1 : Nat) (x1 : Int) (y1 : Bool) (s8 : Value) (wx : World) : Prop :=
  ∃ g a c, s8 = .pointer (some ⟨g, 0, none⟩) ∧ Blk wx g 39 [.slice a m1 c, .int .i64 x1, .bool y1] ∧ IsLabs wx.heap.size wx (.slice a m1 c) l1 ∧ Below X.heap.size X wx
theorem Made17.mk {X Y : World} {l1 : List Lab} {m1 gL : Nat} {x1 : Int} {y1 : Bool} {aA : Option Addr} {cA : Nat} {zs : List Value} (k : Blk Y gL 39 zs) (o : Y.ownsRow X.heap.size 43 2 (.slice aA m1 cA) m1 (flat l1)) (hsm : m1 = l1.length ∧ ∀ x ∈ l1, x.small)
    (hb : Below X.heap.size X Y) (hg : X.heap.size ≤ gL) : Made17 X l1 m1 x1 y1 (.pointer (some ⟨gL, 0, none⟩)) (Y.setRow gL #[.slice aA m1 cA, .int .i64 x1, .bool y1]) := by
  refine ⟨gL, aA, cA, rfl, k.row [.slice aA m1 cA, .int .i64 x1, .bool y1], ?_, below_setRow hb hg _⟩
  have := own_row o (k.not_own o (by decide)) #[.slice aA m1 cA, .int .i64 x1, .bool y1]
  obtain ⟨rfl, h2⟩ := hsm
  exact OwnL.labs (base := X.heap.size) this (Nat.le_refl _) h2
theorem rows_mid {n : Nat} {w : World} {rows : List (List Value)} {l : List Rs} {row : List Value} {x : Rs} (hl : rows.length = l.length) (hr : ∀ (k : Nat) (row : List Value) (r : Rs), rows[k]? = some row → l[k]? = some r → RsRow n w r row) (hx : RsRow n w x row) (k : Nat) :
    ∀ (j : Nat) (u : List Value) (r : Rs), (rows.take k ++ row :: rows.drop k)[j]? = some u → (l.take k ++ x :: l.drop k)[j]? = some r → RsRow n w r u := by
  intro j u r h1 h2
  have e1 : (rows.take k).length = (l.take k).length := by rw [List.length_take, List.length_take, hl]
  rcases Nat.lt_or_ge j (l.take k).length with h | h
  · rw [List.getElem?_append_left (by omega)] at h1
    rw [List.getElem?_append_left h] at h2
    have hjk : j < k := by rw [List.length_take] at h; omega
    rw [List.getElem?_take_of_lt hjk] at h1 h2
    exact hr j u r h1 h2
  · rw [List.getElem?_append_right (by omega), e1] at h1
    rw [List.getElem?_append_right h] at h2
    cases hd : j - (l.take k).length with
    | zero =>
      rw [hd] at h1 h2
      simp at h1 h2
      subst h1 h2
      exact hx
    | succ i =>
      rw [hd] at h1 h2
      rw [List.getElem?_cons_succ, List.getElem?_drop] at h1 h2
      exact hr _ u r h1 h2
def SortRR (l : List Rs) (W : World) (e : Ending) (w' : World) : Prop :=
  ∃ (v' : Value) (l' : List Rs) (c : Int), e = .returned (.tuple #[v', .int .i64 c]) ∧ IsRes w'.heap.size w' v' l' ∧ Below W.heap.size W w' ∧ SortQ l l' c
theorem any_take {l : List Rs} {k : Nat} (hk : k < l.length) (h : ∀ j r, l[j]? = some r → j < k → rightR r = true) {r : Rs} (hr : l[k]? = some r) (hb : rightR r = true) : ∀ j r, l[j]? = some r → j < k + 1 → rightR r = true := by
  intro j s hs hj
  rcases Nat.lt_or_ge j k with h1 | h1
  · exact h j s hs h1
  · have : j = k := by omega
    subst this
    rw [hr] at hs; cases hs; exact hb
theorem any_bad {l : List Rs} {k : Nat} {r : Rs} (hr : l[k]? = some r) (hb : rightR r = false) : anyBad l = true := by
  unfold anyBad
  rw [List.any_eq_true]
  exact ⟨r, List.mem_of_getElem? hr, by rw [hb]; rfl⟩
theorem any_good {l : List Rs} (h : ∀ j r, l[j]? = some r → j < l.length → rightR r = true) : anyBad l = false := by
  unfold anyBad
  rw [List.any_eq_false]
  intro r hr
  obtain ⟨j, hj, rfl⟩ := List.getElem_of_mem hr
  rw [h j _ (List.getElem?_eq_getElem hj) hj]; simp
def ltAt (o : List Rs) (k : Nat) (l1 : List Lab) : Bool := match o[k]? with
  | some r => decide (orderL r.labs l1 < 0)
  | none => false
def eqAt (o : List Rs) (k : Nat) (l1 : List Lab) : Bool := match o[k]? with
  | some r => decide (orderL r.labs l1 = 0)
  | none => false
theorem rows_all {rows : List (List Value)} (h : ∀ r ∈ rows, r.length = 3) (k : Nat) : (∀ r ∈ rows.take k, r.length = 3) ∧ ∀ r ∈ rows.drop k, r.length = 3 := ⟨fun r hr => h r (List.mem_of_mem_take hr), fun r hr => h r (List.mem_of_mem_drop hr)⟩
set_option maxRecDepth 100000 in
set_option maxHeartbeats 16000000 in
theorem rSort {l : List Rs} {v : Value} {n : Nat} {W : World} (hn : n ≤ W.heap.size) (ha : IsRes n W v l) :
    Calls Tryd.prog 9 #[v] W (SortRR l W) := by
  obtain ⟨p, cap, rfl, hc1, hc2⟩ := ha.open
  unfold maxLen at hc2
  have HA := Lib.hid ha; have HN := Lib.hid hn
  clear ha hn
  obtain ⟨N, hN⟩ : ∃ z, l.length = z := ⟨_, rfl⟩
  rw [hN] at HA hc1 ⊢
  have HNL := Lib.hid hN
  have hN2 : (N : Int) ≤ 9223372036854775807 := by omega
  clear hN
  by_cases h4 : 4096 < N
  · have h4i : (4096 : Int) < (N : Int) := by omega
    go_enter Tryd.func9, Tryd.ntmps9; (try simp only [List.append_eq, List.cons_append, List.nil_append])
    go_wp2
    go_ret2
    exact ⟨_, [], _, rfl, IsRes.nil _ _, Below.refl _ _, .inl ⟨by rw [HNL.out]; exact h4, rfl, rfl⟩⟩
  have h4i : ¬ ((4096 : Int) < (N : Int)) := by omega
  have H4 := Lib.hid (show l.length ≤ 4096 by rw [HNL.out]; omega)
  have h4j : (N : Int) ≤ 4096 := by omega
  clear h4
  go_enter Tryd.func9, Tryd.ntmps9; (try simp only [List.append_eq, List.cons_append, List.nil_append])
  go_wp2
  go_loopw [4] (fun j wr => ∃ k : Nat, k ≤ N ∧ j = .int .i64 k ∧ (∀ i r, l[i]? = some r → i < k → rightR r = true) ∧ Below W.heap.size W wr) (fun j _ => N - (intOf j).toNat)
  case atStart => exact ⟨0, Nat.zero_le _, rfl, fun i r _ h => by omega, Below.refl _ _⟩
  case round =>
    obtain ⟨k, hk, rfl, hall, hb⟩ := hrel
    have HALL := Lib.hid hall; have HBX := Lib.hid hb
    clear hall hb
    by_cases hlt : k < N
    · have hki : (k : Int) < (N : Int) := by omega
      obtain ⟨r, hr⟩ : ∃ r, l[k]? = some r := ⟨_, List.getElem?_eq_getElem (by have := HNL.out; omega)⟩
      obtain ⟨b1, o1, q1, c1, rfl, hb1, d0, d1, d2, hl1, -⟩ := (HA.out.mono (HBX.out.mono HN.out) (Nat.le_refl _)).get hr
      have HR := Lib.hid hr
      have HL1 := Lib.hid hl1
      clear hr hl1
      obtain ⟨l1, x1, y1⟩ := r
      simp only at d0 d1 d2 HL1
      have hb1w : b1 < wr.heap.size := by have := HN.out; have := HBX.out.size; omega
      obtain ⟨m1, hm1⟩ : ∃ z, l1.length = z := ⟨_, rfl⟩
      rw [hm1] at d0 HL1
      clear hm1 hb1
      obtain ⟨cl, hcl⟩ : ∃ z, checkL l1 = z := ⟨_, rfl⟩
      have HCL := Lib.hid hcl
      go_wp2_with fail
      refine (rCheck3 (Nat.le_trans HN.out HBX.out.size) HL1.out).mono ?_
      rintro e w9 hq9
      obtain ⟨rfl, hb9⟩ := hq9.below
      have HB9 := Lib.hid (HBX.out.trans (hb9.mono HBX.out.size))
      have d1 := (hb9.cell (p := ⟨b1, o1 + k * 3 + 1, none⟩) hb1w).trans d1
      have d2 := (hb9.cell (p := ⟨b1, o1 + k * 3 + 2, none⟩) hb1w).trans d2
      have hb1w := Nat.lt_of_lt_of_le hb1w hb9.size
      clear hq9 hb9 d0
      rw [hcl]
      by_cases h0 : cl = 0
      case neg =>
        have HBAD := Lib.hid (any_bad HR.out (right_lab (r := ⟨l1, x1, y1⟩) (by show checkL l1 ≠ 0; rw [hcl]; exact h0)))
        have hx : (cl != 0) = true := by simp [h0]
        clear hcl h0
        go_wp2
        go_ret2
        exact ⟨_, [], _, rfl, IsRes.nil _ _, HB9.out, .inr (.inl ⟨H4.out, HBAD.out, rfl, rfl⟩)⟩
      subst h0
      obtain ⟨vb, hvb⟩ : ∃ z, (!(y1 && decide (x1 ≠ 0))) = z := ⟨_, rfl⟩
      have HVB := Lib.hid hvb
      have HGB := Lib.hid (show vb = rightR ⟨l1, x1, y1⟩ from by
        cases vb with
        | true => exact (right_ok hcl hvb).symm
        | false => exact (right_val hvb).symm)
      clear hcl hvb
      go_wp2_with fail
      refine (rVal x1 y1 _).mono ?_
      rintro e w8 ⟨rfl, hb8⟩
      have HB8 := Lib.hid (HB9.out.trans (hb8.mono HB9.out.size))
      clear hb8 d1 d2 hb1w
      rw [HVB.out]
      cases vb with
      | false =>
        simp only [Bool.false_eq_true, if_false]
        go_wp2
        go_ret2
        exact ⟨_, [], _, rfl, IsRes.nil _ _, HB8.out, .inr (.inl ⟨H4.out, any_bad HR.out HGB.out.symm, rfl, rfl⟩)⟩
      | true =>
        simp only [if_true]
        go_wp2
        exact ⟨⟨k + 1, by omega, by go_num, any_take (by have := HNL.out; omega) HALL.out HR.out HGB.out.symm, HB8.out⟩, by simp [intOf]; omega⟩
    · have hkN : k = N := by omega
      subst hkN
      have hki : ¬ ((k : Int) < (k : Int)) := by omega
      have HGOOD := Lib.hid (any_good (l := l) (fun j r h1 h2 => HALL.out j r h1 (by have := HNL.out; omega)))
      obtain ⟨W1, rfl⟩ : ∃ z, z = wr := ⟨_, rfl⟩
      have HB1 := Lib.hid HBX.out
      clear HALL HBX
      obtain ⟨N, rfl⟩ : ∃ z, z = k := ⟨_, rfl⟩
      go_wp2
      go_loopw [5, 6] (fun v j wr => ∃ (i : Nat) (o : List Rs), i ≤ N ∧ j = .int .i64 i ∧ IsRes wr.heap.size wr v o ∧ InsR l o i ∧ Below W.heap.size W wr) (fun _ j _ => N - (intOf j).toNat)
      case atStart => exact ⟨0, [], Nat.zero_le _, rfl, IsRes.nil _ _, ⟨by simp, List.Pairwise.nil⟩, HB1.out⟩
      case round =>
        obtain ⟨i, o, hi, rfl, hres, hins, hb⟩ := hrel
        obtain ⟨X, rfl⟩ : ∃ z, z = wr := ⟨_, rfl⟩
        have hlo := hins.len (by have := HNL.out; omega)
        obtain ⟨po, co, rfl, hpo1, hpo2⟩ := hres.open
        unfold maxLen at hpo2
        have HO := Lib.hid hres; have HI := Lib.hid hins; have HBX := Lib.hid hb
        clear hres hins hb
        rw [hlo] at HO hpo1 ⊢
        have HLO := Lib.hid hlo
        obtain ⟨M, hM⟩ : ∃ z, i = z := ⟨_, rfl⟩
        have HMI := Lib.hid hM
        rw [show (Value.slice po i co) = .slice po M co by rw [hM]] at HO ⊢
        rw [hM] at hpo1 HLO
        clear hlo hM
        by_cases hlt : i < N
        · have hki : (i : Int) < (N : Int) := by omega
          have hi0 : (0 : Int) ≤ (i : Int) := by omega
          have hM2 : (M : Int) ≤ 9223372036854775807 := by have := HMI.out; omega
          obtain ⟨r, hr⟩ : ∃ r, l[i]? = some r := ⟨_, List.getElem?_eq_getElem (by have := HNL.out; omega)⟩
          have hgl := (HA.out.mono (HBX.out.mono HN.out) (Nat.le_trans HN.out HBX.out.size)).get hr
          obtain ⟨b1, o1, q1, c1, rfl, hb1, d0, d1, d2, hl1, h64⟩ := hgl
          have hck1 : checkL r.labs = 0 := good_check HGOOD.out r (List.mem_of_getElem? hr)
          have HR := Lib.hid hr
          have HL1 := Lib.hid hl1
          have HCK1 := Lib.hid hck1
          have H64 := Lib.hid h64
          have HGD := Lib.hid (good_check HGOOD.out)
          clear hr hl1 hck1 h64
          obtain ⟨l1, x1, y1⟩ := r
          simp only at d0 d1 d2 HL1 HCK1 H64
          obtain ⟨m1, hm1⟩ : ∃ z, l1.length = z := ⟨_, rfl⟩
          rw [hm1] at d0 HL1
          have HM1 := Lib.hid hm1
          clear hm1
          have D0 := Lib.hid d0; have D1 := Lib.hid d1; have D2 := Lib.hid d2; have hb1X := hb1
          have HGO := Lib.hid (fun r (hr : r ∈ o) => HGD.out r (List.mem_of_mem_take (HI.out.perm.subset hr)))
          clear d0 d1 d2
          go_wp2
          go_loopw [7] (fun j wr => ∃ k : Nat, k ≤ M ∧ j = .int .i64 k ∧ (∀ r ∈ o.take k, orderL r.labs l1 < 0) ∧ Below X.heap.size X wr) (fun j _ => M - (intOf j).toNat)
          case atStart => exact ⟨0, Nat.zero_le _, rfl, by simp, Below.refl _ _⟩
          case round =>
            obtain ⟨k, hk, rfl, hlow, hb⟩ := hrel
            have HLOW := Lib.hid hlow; have HBK := Lib.hid hb
            clear hlow hb
            obtain ⟨Z, rfl⟩ : ∃ z, z = wr := ⟨_, rfl⟩
            have hk0 : (0 : Int) ≤ (k : Int) := by omega
            have hkle := hk
            go_upto_region 13 with fail
            go_cut [57] from 40 to 57 (fun s57 wx => s57 = .bool (ltAt o k l1) ∧ Below Z.heap.size Z wx)
            case first =>
              have d0 := (HBK.out.cell (p := ⟨b1, o1 + i * 3, none⟩) hb1X).trans D0.out
              have hb1w := Nat.lt_of_lt_of_le hb1X HBK.out.size
              by_cases hkM : k < M
              · have hkMi : (k : Int) < (M : Int) := by omega
                have hkMd : decide ((k : Int) < (M : Int)) = true := decide_eq_true hkMi
                obtain ⟨s, hs⟩ : ∃ s, o[k]? = some s := ⟨_, List.getElem?_eq_getElem (by have := HLO.out; omega)⟩
                obtain ⟨b2, o2, q2, c2, rfl, hb2, e0, -, -, hl2, -⟩ := (HO.out.mono HBK.out HBK.out.size).get hs
                have HSS := Lib.hid hs
                have hck2 := HGO.out s (List.mem_of_getElem? hs)
                have HL2 := Lib.hid hl2
                clear hs hl2
                obtain ⟨l2, x2, y2⟩ := s
                simp only at e0 HL2 hck2
                obtain ⟨m2, hm2⟩ : ∃ z, l2.length = z := ⟨_, rfl⟩
                rw [hm2] at e0 HL2
                clear hm2
                obtain ⟨cc, hcc⟩ : ∃ z, orderL l2 l1 = z := ⟨_, rfl⟩
                have HC := Lib.hid (fun m => Qt.quiet (n := m) (rCompare (la := l2) (lb := l1) (va := .slice q2 m2 c2) (vb := .slice q1 m1 c1) (n := Z.heap.size) (W := Z.drewN m) (Nat.le_refl _) (HL2.out.mono (below_drewN (Below.refl _ _) m) (Nat.le_refl _)) ((HL1.out.mono HBK.out HBK.out.size).mono (below_drewN (Below.refl _ _) m) (Nat.le_refl _))))
                rw [compareL_ok hck2 HCK1.out, hcc] at HC
                have HCC := Lib.hid hcc
                clear hcc hck2
                have HCD := Lib.hid (show ltAt o k l1 = decide (cc < 0) from by unfold ltAt; rw [HSS.out]; show decide (orderL l2 l1 < 0) = _; rw [HCC.out])
                go_quiet ((go_at_call 30; exact HC.out _))
                go_wp2
                go_meet
                exact ⟨by rw [HCD.out], below_drewN (Below.refl _ _) _⟩
              · have hkMi : ¬ ((k : Int) < (M : Int)) := by omega
                have hkMd : decide ((k : Int) < (M : Int)) = false := decide_eq_false (by omega)
                have HCD := Lib.hid (show ltAt o k l1 = false from by unfold ltAt; rw [List.getElem?_eq_none (by have := HLO.out; omega)])
                go_quiet (fail)
                go_wp2
                go_meet
                exact ⟨by rw [HCD.out], below_drewN (Below.refl _ _) _⟩
            case rest =>
              obtain ⟨rfl, hbc⟩ := hcut
              obtain ⟨Z2, rfl⟩ : ∃ z, z = wc := ⟨_, rfl⟩
              have HBK2 := Lib.hid (HBK.out.trans (hbc.mono HBK.out.size))
              clear hbc
              obtain ⟨bb, hbb⟩ : ∃ z, ltAt o k l1 = z := ⟨_, rfl⟩
              have HBB := Lib.hid hbb
              rw [hbb]
              clear hbb
              cases bb with
              | true =>
                have HKM := Lib.hid (show k < M from by
                  have h := HBB.out
                  unfold ltAt at h
                  have := HLO.out
                  rcases Nat.lt_or_ge k M with h1 | h1
                  · exact h1
                  · rw [List.getElem?_eq_none (by omega)] at h; cases h)
                have HLOW2 := Lib.hid (show ∀ r ∈ o.take (k + 1), orderL r.labs l1 < 0 from by
                  intro r hr
                  rw [List.take_add_one] at hr
                  rcases List.mem_append.1 hr with h | h
                  · exact HLOW.out r h
                  · have h9 := HBB.out
                    unfold ltAt at h9
                    cases ho : o[k]? with
                    | none => rw [ho] at h; simp at h
                    | some s =>
                      rw [ho] at h h9
                      simp at h; subst h
                      simpa using h9)
                have hkm := HKM.out
                have hkmi : (k : Int) < (M : Int) := by omega
                go_wp2
                exact ⟨⟨k + 1, by omega, by go_num, HLOW2.out, HBK2.out⟩, by simp [intOf]; omega⟩
              | false =>
                go_upto_region 15 with fail
                go_cut [77] from 60 to 77 (fun s77 wx => s77 = .bool (eqAt o k l1) ∧ Below Z2.heap.size Z2 wx)
                case first =>
                  obtain ⟨Z, rfl⟩ : ∃ z, z = Z2 := ⟨_, rfl⟩
                  clear HBK
                  have HBK := HBK2
                  have d0 := (HBK.out.cell (p := ⟨b1, o1 + i * 3, none⟩) hb1X).trans D0.out
                  have hb1w := Nat.lt_of_lt_of_le hb1X HBK.out.size
                  by_cases hkM : k < M
                  · have hkMi : (k : Int) < (M : Int) := by omega
                    have hkMd : decide ((k : Int) < (M : Int)) = true := decide_eq_true hkMi
                    obtain ⟨s, hs⟩ : ∃ s, o[k]? = some s := ⟨_, List.getElem?_eq_getElem (by have := HLO.out; omega)⟩
                    obtain ⟨b2, o2, q2, c2, rfl, hb2, e0, -, -, hl2, -⟩ := (HO.out.mono HBK.out HBK.out.size).get hs
                    have HSS := Lib.hid hs
                    have hck2 := HGO.out s (List.mem_of_getElem? hs)
                    have HL2 := Lib.hid hl2
                    clear hs hl2
                    obtain ⟨l2, x2, y2⟩ := s
                    simp only at e0 HL2 hck2
                    obtain ⟨m2, hm2⟩ : ∃ z, l2.length = z := ⟨_, rfl⟩
                    rw [hm2] at e0 HL2
                    clear hm2
                    obtain ⟨cc, hcc⟩ : ∃ z, orderL l2 l1 = z := ⟨_, rfl⟩
                    have HC := Lib.hid (fun m => Qt.quiet (n := m) (rCompare (la := l2) (lb := l1) (va := .slice q2 m2 c2) (vb := .slice q1 m1 c1) (n := Z.heap.size) (W := Z.drewN m) (Nat.le_refl _) (HL2.out.mono (below_drewN (Below.refl _ _) m) (Nat.le_refl _)) ((HL1.out.mono HBK.out HBK.out.size).mono (below_drewN (Below.refl _ _) m) (Nat.le_refl _))))
                    rw [compareL_ok hck2 HCK1.out, hcc] at HC
                    have HCC := Lib.hid hcc
                    clear hcc hck2
                    have HCD := Lib.hid (show eqAt o k l1 = (cc == 0) from by unfold eqAt; rw [HSS.out]; show decide (orderL l2 l1 = 0) = _; rw [HCC.out]; rfl)
                    go_quiet ((go_at_call 30; exact HC.out _))
                    go_wp2
                    go_meet
                    exact ⟨by rw [HCD.out], below_drewN (Below.refl _ _) _⟩
                  · have hkMi : ¬ ((k : Int) < (M : Int)) := by omega
                    have hkMd : decide ((k : Int) < (M : Int)) = false := decide_eq_false (by omega)
                    have HCD := Lib.hid (show eqAt o k l1 = false from by unfold eqAt; rw [List.getElem?_eq_none (by have := HLO.out; omega)])
                    go_quiet (fail)
                    go_wp2
                    go_meet
                    exact ⟨by rw [HCD.out], below_drewN (Below.refl _ _) _⟩
                case rest =>
                  obtain ⟨rfl, hbc⟩ := hcut
                  obtain ⟨X3, rfl⟩ : ∃ z, z = wc := ⟨_, rfl⟩
                  have HBK3 := Lib.hid (HBK2.out.trans (hbc.mono HBK2.out.size))
                  clear hbc
                  obtain ⟨be, hbe⟩ : ∃ z, eqAt o k l1 = z := ⟨_, rfl⟩
                  have HBE := Lib.hid hbe
                  rw [hbe]
                  clear hbe
                  cases be with
                  | true =>
                    have HDUP := Lib.hid (show ¬ (l.map Rs.labs).Nodup from by
                      have h := HBE.out
                      unfold eqAt at h
                      cases ho : o[k]? with
                      | none => rw [ho] at h; cases h
                      | some s => rw [ho] at h; exact InsR.dup HI.out HR.out ho (by simpa using h))
                    go_wp2
                    go_ret2
                    exact ⟨_, [], _, rfl, IsRes.nil _ _, HBX.out.trans (HBK3.out.mono HBX.out.size), .inr (.inr ⟨H4.out, HGOOD.out, .inr ⟨HDUP.out, rfl, rfl⟩⟩)⟩
                  | false =>
                    have INS := Lib.hid (HI.out.step HR.out HLOW.out (fun r hr => by
                      have h1 := HBB.out
                      have h2 := HBE.out
                      unfold ltAt at h1
                      unfold eqAt at h2
                      rw [hr] at h1 h2
                      simp at h1 h2
                      have := orderL_swap r.labs l1
                      show orderL l1 r.labs < 0
                      omega))
                    have HBX3 := Lib.hid (HBX.out.trans (HBK3.out.mono HBX.out.size))
                    have d0 := (HBK3.out.cell (p := ⟨b1, o1 + i * 3, none⟩) hb1X).trans D0.out
                    have d1 := (HBK3.out.cell (p := ⟨b1, o1 + i * 3 + 1, none⟩) hb1X).trans D1.out
                    have d2 := (HBK3.out.cell (p := ⟨b1, o1 + i * 3 + 2, none⟩) hb1X).trans D2.out
                    have hb1w := Nat.lt_of_lt_of_le hb1X HBK3.out.size
                    have HL3 := Lib.hid (HL1.out.mono HBK3.out HBK3.out.size)
                    have HO3 := Lib.hid (HO.out.mono HBK3.out HBK3.out.size)
                    have hml := HL3.out.open
                    have SRC := Lib.hid (show SrcN X3 (.slice q1 m1 c1) 2 m1 (flat l1) from by
                      have h := HL3.out
                      rw [← HM1.out] at h ⊢
                      exact SrcN.labs h)
                    have HSM := Lib.hid (show m1 = l1.length ∧ ∀ x ∈ l1, x.small from ⟨HM1.out.symm, HL3.out.2⟩)
                    have hm8 : m1 ≤ 8 := by
                      have := HM1.out
                      rcases Nat.lt_or_ge 8 l1.length with h | h
                      · have h2 := checkL_long h
                        rw [HCK1.out] at h2; cases h2
                      · omega
                    clear hml
                    go_upto_region 17 with fail
                    go_cut [8] from 78 to 90 (fun s8 wx => Made17 X3 l1 m1 x1 y1 s8 wx)
                    case first =>
                      obtain ⟨i0, hi0', hz0, hz1, hz2⟩ := info_parts infoLab
                      have hi := hi0'
                      obtain ⟨X, rfl⟩ : ∃ z, z = X3 := ⟨_, rfl⟩
                      clear hi0'
                      refine wp_region_held_drew (S := fun w => Below X.heap.size X w) (by kernel_rfl) (Below.drew (Below.refl _ _)) (fun hHeld => ?_)
                      have HS := Lib.hid (Below.drew (Below.refl X.heap.size X))
                      clear hHeld
                      have hSS := HS.out
                      obtain ⟨X2, hX2⟩ : ∃ z, X.drew = z := ⟨_, rfl⟩
                      rw [hX2] at HS hSS ⊢
                      clear hX2
                      (refine held_take 1 79 ?_ rfl (by kernel_rfl) (by as_aux_lemma => kernel_rfl) (by as_aux_lemma => kernel_rfl) (by as_aux_lemma => kernel_rfl) (fun _ _ _ h => h) (by kernel_rfl) ?_ (by assumption) ?_; rotate_left; (intro w hSw; clear hSw; go_simp); (try with_reducible rfl); simp only [List.set_cons_zero, List.set_cons_succ])
                      (refine held_take 2 80 ?_ rfl (by kernel_rfl) (by as_aux_lemma => kernel_rfl) (by as_aux_lemma => kernel_rfl) (by as_aux_lemma => kernel_rfl) (fun _ _ _ h => h) (by kernel_rfl) ?_ (by assumption) ?_; rotate_left; (intro w hSw; clear hSw; go_simp); (try with_reducible rfl); simp only [List.set_cons_zero, List.set_cons_succ])
                      (refine held_take 3 81 (.pointer (some ⟨b1, o1 + i * 3, none⟩)) rfl rfl (by as_aux_lemma => kernel_rfl) (by as_aux_lemma => kernel_rfl) (by as_aux_lemma => kernel_rfl) (fun _ _ _ h => h) (by kernel_rfl) ?_ (by assumption) ?_; (intro w hSw; clear hSw; go_simp); simp only [List.set_cons_zero, List.set_cons_succ])
                      (refine held_take 4 82 (.pointer (some ⟨b1, o1 + i * 3, none⟩)) rfl rfl (by as_aux_lemma => kernel_rfl) (by as_aux_lemma => kernel_rfl) (by as_aux_lemma => kernel_rfl) (fun _ _ _ h => h) (by kernel_rfl) ?_ (by assumption) ?_; (intro w hSw; clear hSw; first | rfl | go_simp); simp only [List.set_cons_zero, List.set_cons_succ])
                      (refine held_take 5 83 (.slice q1 m1 c1) rfl rfl (by as_aux_lemma => kernel_rfl) (by as_aux_lemma => kernel_rfl) (by as_aux_lemma => kernel_rfl) (fun _ _ _ h => h) (by kernel_rfl) ?_ (by assumption) ?_; (intro w hSw; have f_d0 := (hSw.cell (p := ⟨b1, o1 + i * 3, none⟩) hb1w).trans d0; clear hSw; go_simp); simp only [List.set_cons_zero, List.set_cons_succ])
                      (refine held_take 7 85 ?_ rfl (by kernel_rfl) (by as_aux_lemma => kernel_rfl) (by as_aux_lemma => kernel_rfl) (by as_aux_lemma => kernel_rfl) (fun _ _ _ h => h) (by kernel_rfl) ?_ (by assumption) ?_; rotate_left; (intro w hSw; clear hSw; go_simp); (try with_reducible rfl); simp only [List.set_cons_zero, List.set_cons_succ])
                      (refine held_take 8 86 ?_ rfl (by kernel_rfl) (by as_aux_lemma => kernel_rfl) (by as_aux_lemma => kernel_rfl) (by as_aux_lemma => kernel_rfl) (fun _ _ _ h => h) (by kernel_rfl) ?_ (by assumption) ?_; rotate_left; (intro w hSw; clear hSw; go_simp); (try with_reducible rfl); simp only [List.set_cons_zero, List.set_cons_succ])
                      (refine held_take 9 87 (.pointer (some ⟨b1, o1 + i * 3, none⟩)) rfl rfl (by as_aux_lemma => kernel_rfl) (by as_aux_lemma => kernel_rfl) (by as_aux_lemma => kernel_rfl) (fun _ _ _ h => h) (by kernel_rfl) ?_ (by assumption) ?_; (intro w hSw; clear hSw; go_simp); simp only [List.set_cons_zero, List.set_cons_succ])
                      (refine held_take 10 88 (.pointer (some ⟨b1, o1 + i * 3 + 1, none⟩)) rfl rfl (by as_aux_lemma => kernel_rfl) (by as_aux_lemma => kernel_rfl) (by as_aux_lemma => kernel_rfl) (fun _ _ _ h => h) (by kernel_rfl) ?_ (by assumption) ?_; (intro w hSw; clear hSw; first | rfl | go_simp); simp only [List.set_cons_zero, List.set_cons_succ])
                      (refine held_take 11 89 (.agg #[.int .i64 x1, .bool y1]) rfl rfl (by as_aux_lemma => kernel_rfl) (by as_aux_lemma => kernel_rfl) (by as_aux_lemma => kernel_rfl) (fun _ _ _ h => h) (by kernel_rfl) ?_ (by assumption) ?_; (intro w hSw; have f_d1 := (hSw.cell (p := ⟨b1, o1 + i * 3 + 1, none⟩) hb1w).trans d1; have f_d2 := (hSw.cell (p := ⟨b1, o1 + i * 3 + 2, none⟩) hb1w).trans d2; clear hSw; go_simp); simp only [List.set_cons_zero, List.set_cons_succ])
                      clear d0 d1 d2 hb1w
                      refine wpAnyH_ready (rs := [0, 13]) (by as_aux_lemma => kernel_rfl) (by simp) (.cons rfl (fun K hK => ?_) (.cons rfl (fun K hK => ?_) .nil))
                      · skip
                        rw [if_pos (by kernel_rfl)]
                        go_simp
                        refine hK.out _ _ (HS.out.alloc HS.out.size _) (fun hHeld => ?_)
                        clear hK K
                        (try simp only [Act.put, List.setIfInBounds_toArray, List.set_cons_zero, List.set_cons_succ])
                        have o1 := ownsRow_base (own_empty0 43 2 X2) HS.out.size
                        have b1 := HS.out.alloc HS.out.size (.cells #[] 43)
                        obtain ⟨gM, hgM⟩ : ∃ z, X2.heap.size = z := ⟨_, rfl⟩
                        obtain ⟨Y1, hY1⟩ : ∃ z, X2.alloc (.cells #[] 43) = z := ⟨_, rfl⟩
                        rw [hY1] at o1 b1 hHeld ⊢
                        rw [hgM] at o1 ⊢
                        clear hY1 hgM HS
                        have HS := Lib.hid b1; have O := Lib.hid o1; have hSS := b1
                        clear o1 b1
                        refine wpAnyH_ready (rs := [6, 13]) (by as_aux_lemma => kernel_rfl) (by simp) (.cons rfl (fun K hK => ?_) (.cons rfl (fun K hK => ?_) .nil))
                        · skip
                          rw [if_pos (by kernel_rfl)]
                          refine wp_append_srcN _ _ _ _ rfl X.heap.size 43 i0 _ 2 32 Tryd.underlying23 hi hz0 hz1 hz2 rfl (by decide) _ 0 [] rfl O.out _ m1 (flat l1) rfl (SRC.out.below HS.out) (flat_one _) (by unfold maxLen; omega) (by omega) HS.out.size ?_
                          intro vA Y2 o1 hgr _
                          obtain ⟨aA, cA, rfl⟩ := ownsRow_slice o1
                          have b1 := below_app HS.out O.out hgr (Nat.le_refl _) HS.out.size
                          refine hK.out _ _ b1 (fun hHeld => ?_)
                          clear hK K hgr
                          (try simp only [Act.put, List.setIfInBounds_toArray, List.set_cons_zero, List.set_cons_succ])
                          rw [Nat.zero_add, List.nil_append] at o1
                          simp only [Nat.zero_add]
                          clear HS O
                          have HS := Lib.hid b1; have O := Lib.hid o1; have hSS := b1
                          clear o1 b1
                          (refine held_take 12 90 (.agg #[.slice aA m1 cA, .int .i64 x1, .bool y1]) rfl rfl (by as_aux_lemma => kernel_rfl) (by as_aux_lemma => kernel_rfl) (by as_aux_lemma => kernel_rfl) (fun _ _ _ h => h) (by kernel_rfl) ?_ (by assumption) ?_; (intro w hSw; clear hSw; first | rfl | go_simp); simp only [List.set_cons_zero, List.set_cons_succ])
                          refine wpAnyH_ready (rs := [13]) (by as_aux_lemma => kernel_rfl) (by simp) (.cons rfl (fun K hK => ?_) .nil)
                          rw [if_pos (by kernel_rfl)]
                          go_simp
                          refine hK.out _ _ (HS.out.alloc HS.out.size _) (fun hHeld => ?_)
                          clear hK K
                          (try simp only [Act.put, List.setIfInBounds_toArray, List.set_cons_zero, List.set_cons_succ])
                          have k1 := Blk.new Y2 [.slice none 0 0, .int .i64 0, .bool false] 39
                          have b1 := HS.out.alloc HS.out.size (.cells #[.slice none 0 0, .int .i64 0, .bool false] 39)
                          have o1 := ownsRow_keep O.out ((Below.refl _ _).alloc (Nat.le_refl _) (.cells #[.slice none 0 0, .int .i64 0, .bool false] 39))
                          have GL := Lib.hid (show X.heap.size ≤ Y2.heap.size from HS.out.size)
                          obtain ⟨gL, hgL⟩ : ∃ z, Y2.heap.size = z := ⟨_, rfl⟩
                          obtain ⟨Y3, hY1⟩ : ∃ z, Y2.alloc (.cells #[.slice none 0 0, .int .i64 0, .bool false] 39) = z := ⟨_, rfl⟩
                          rw [show Y2.alloc (.cells ([.slice none 0 0, .int .i64 0, .bool false] : List Value).toArray 39) = Y3 from hY1] at k1
                          rw [hY1] at b1 hHeld o1 ⊢
                          rw [hgL] at k1 GL ⊢
                          clear hY1 hgL HS
                          have HS := Lib.hid b1; have KL := Lib.hid k1; have hSS := b1
                          clear O; have O := Lib.hid o1; clear o1
                          clear k1 b1
                          refine held_store 14 rfl (by kernel_rfl) (by kernel_rfl) (by kernel_rfl) 39 (.tmp 8) (.tmp 90) (by kernel_rfl) gL [.slice aA m1 cA, .int .i64 x1, .bool y1] [.slice none 0 0, .int .i64 0, .bool false] _ (by kernel_rfl) (by kernel_rfl) KL.out (by kernel_rfl) rfl (by kernel_rfl) (below_setRow HS.out GL.out _) (fun hS => ?_)
                          refine wpAnyH_done (by kernel_rfl) ?_ _
                          go_wp2
                          go_meet
                          exact Made17.mk KL.out O.out HSM.out HS.out GL.out
                        · skip
                          rw [if_pos (by kernel_rfl)]
                          go_simp
                          refine hK.out _ _ (HS.out.alloc HS.out.size _) (fun hHeld => ?_)
                          clear hK K
                          (try simp only [Act.put, List.setIfInBounds_toArray, List.set_cons_zero, List.set_cons_succ])
                          have k1 := Blk.new Y1 [.slice none 0 0, .int .i64 0, .bool false] 39
                          have b1 := HS.out.alloc HS.out.size (.cells #[.slice none 0 0, .int .i64 0, .bool false] 39)
                          have o1 := ownsRow_keep O.out ((Below.refl _ _).alloc (Nat.le_refl _) (.cells #[.slice none 0 0, .int .i64 0, .bool false] 39))
                          have GL := Lib.hid (show X.heap.size ≤ Y1.heap.size from HS.out.size)
                          obtain ⟨gL, hgL⟩ : ∃ z, Y1.heap.size = z := ⟨_, rfl⟩
                          obtain ⟨Y4, hY1⟩ : ∃ z, Y1.alloc (.cells #[.slice none 0 0, .int .i64 0, .bool false] 39) = z := ⟨_, rfl⟩
                          rw [show Y1.alloc (.cells ([.slice none 0 0, .int .i64 0, .bool false] : List Value).toArray 39) = Y4 from hY1] at k1
                          rw [hY1] at b1 hHeld o1 ⊢
                          rw [hgL] at k1 GL ⊢
                          clear hY1 hgL HS
                          have HS := Lib.hid b1; have KL := Lib.hid k1; have hSS := b1
                          clear O; have O := Lib.hid o1; clear o1
                          clear k1 b1
                          refine wpAnyH_ready (rs := [6]) (by as_aux_lemma => kernel_rfl) (by simp) (.cons rfl (fun K hK => ?_) .nil)
                          rw [if_pos (by kernel_rfl)]
                          refine wp_append_srcN _ _ _ _ rfl X.heap.size 43 i0 _ 2 32 Tryd.underlying23 hi hz0 hz1 hz2 rfl (by decide) _ 0 [] rfl O.out _ m1 (flat l1) rfl (SRC.out.below HS.out) (flat_one _) (by unfold maxLen; omega) (by omega) HS.out.size ?_
                          intro vA Y5 o1 hgr _
                          obtain ⟨aA, cA, rfl⟩ := ownsRow_slice o1
                          have b1 := below_app HS.out O.out hgr (Nat.le_refl _) HS.out.size
                          have k1 : Blk Y5 gL 39 _ := (hgr.block _ KL.out.lt (fun e => KL.out.not_own O.out (by decide) e.symm)).trans KL.out
                          refine hK.out _ _ b1 (fun hHeld => ?_)
                          clear hK K hgr
                          (try simp only [Act.put, List.setIfInBounds_toArray, List.set_cons_zero, List.set_cons_succ])
                          rw [Nat.zero_add, List.nil_append] at o1
                          simp only [Nat.zero_add]
                          clear HS O
                          have HS := Lib.hid b1; have O := Lib.hid o1; have hSS := b1
                          clear KL; have KL := Lib.hid k1; clear k1
                          clear o1 b1
                          (refine held_take 12 90 (.agg #[.slice aA m1 cA, .int .i64 x1, .bool y1]) rfl rfl (by as_aux_lemma => kernel_rfl) (by as_aux_lemma => kernel_rfl) (by as_aux_lemma => kernel_rfl) (fun _ _ _ h => h) (by kernel_rfl) ?_ (by assumption) ?_; (intro w hSw; clear hSw; first | rfl | go_simp); simp only [List.set_cons_zero, List.set_cons_succ])
                          refine held_store 14 rfl (by kernel_rfl) (by kernel_rfl) (by kernel_rfl) 39 (.tmp 8) (.tmp 90) (by kernel_rfl) gL [.slice aA m1 cA, .int .i64 x1, .bool y1] [.slice none 0 0, .int .i64 0, .bool false] _ (by kernel_rfl) (by kernel_rfl) KL.out (by kernel_rfl) rfl (by kernel_rfl) (below_setRow HS.out GL.out _) (fun hS => ?_)
                          refine wpAnyH_done (by kernel_rfl) ?_ _
                          go_wp2
                          go_meet
                          exact Made17.mk KL.out O.out HSM.out HS.out GL.out
                      · skip
                        rw [if_pos (by kernel_rfl)]
                        go_simp
                        refine hK.out _ _ (HS.out.alloc HS.out.size _) (fun hHeld => ?_)
                        clear hK K
                        (try simp only [Act.put, List.setIfInBounds_toArray, List.set_cons_zero, List.set_cons_succ])
                        have k1 := Blk.new X2 [.slice none 0 0, .int .i64 0, .bool false] 39
                        have b1 := HS.out.alloc HS.out.size (.cells #[.slice none 0 0, .int .i64 0, .bool false] 39)
                        have GL := Lib.hid (show X.heap.size ≤ X2.heap.size from HS.out.size)
                        obtain ⟨gL, hgL⟩ : ∃ z, X2.heap.size = z := ⟨_, rfl⟩
                        obtain ⟨Y6, hY1⟩ : ∃ z, X2.alloc (.cells #[.slice none 0 0, .int .i64 0, .bool false] 39) = z := ⟨_, rfl⟩
                        rw [show X2.alloc (.cells ([.slice none 0 0, .int .i64 0, .bool false] : List Value).toArray 39) = Y6 from hY1] at k1
                        rw [hY1] at b1 hHeld ⊢
                        rw [hgL] at k1 GL ⊢
                        clear hY1 hgL HS
                        have HS := Lib.hid b1; have KL := Lib.hid k1; have hSS := b1
                        clear k1 b1
                        refine wpAnyH_ready (rs := [0]) (by as_aux_lemma => kernel_rfl) (by simp) (.cons rfl (fun K hK => ?_) .nil)
                        rw [if_pos (by kernel_rfl)]
                        go_simp
                        refine hK.out _ _ (HS.out.alloc HS.out.size _) (fun hHeld => ?_)
                        clear hK K
                        (try simp only [Act.put, List.setIfInBounds_toArray, List.set_cons_zero, List.set_cons_succ])
                        have o1 := ownsRow_base (own_empty0 43 2 Y6) HS.out.size
                        have b1 := HS.out.alloc HS.out.size (.cells #[] 43)
                        have k1 := KL.out.alloc (.cells #[] 43)
                        obtain ⟨gM, hgM⟩ : ∃ z, Y6.heap.size = z := ⟨_, rfl⟩
                        obtain ⟨Y7, hY1⟩ : ∃ z, Y6.alloc (.cells #[] 43) = z := ⟨_, rfl⟩
                        rw [hY1] at o1 b1 hHeld k1 ⊢
                        rw [hgM] at o1 ⊢
                        clear hY1 hgM HS
                        have HS := Lib.hid b1; have O := Lib.hid o1; have hSS := b1
                        clear KL; have KL := Lib.hid k1; clear k1
                        clear o1 b1
                        refine wpAnyH_ready (rs := [6]) (by as_aux_lemma => kernel_rfl) (by simp) (.cons rfl (fun K hK => ?_) .nil)
                        rw [if_pos (by kernel_rfl)]
                        refine wp_append_srcN _ _ _ _ rfl X.heap.size 43 i0 _ 2 32 Tryd.underlying23 hi hz0 hz1 hz2 rfl (by decide) _ 0 [] rfl O.out _ m1 (flat l1) rfl (SRC.out.below HS.out) (flat_one _) (by unfold maxLen; omega) (by omega) HS.out.size ?_
                        intro vA Y8 o1 hgr _
                        obtain ⟨aA, cA, rfl⟩ := ownsRow_slice o1
                        have b1 := below_app HS.out O.out hgr (Nat.le_refl _) HS.out.size
                        have k1 : Blk Y8 gL 39 _ := (hgr.block _ KL.out.lt (fun e => KL.out.not_own O.out (by decide) e.symm)).trans KL.out
                        refine hK.out _ _ b1 (fun hHeld => ?_)
                        clear hK K hgr
                        (try simp only [Act.put, List.setIfInBounds_toArray, List.set_cons_zero, List.set_cons_succ])
                        rw [Nat.zero_add, List.nil_append] at o1
                        simp only [Nat.zero_add]
                        clear HS O
                        have HS := Lib.hid b1; have O := Lib.hid o1; have hSS := b1
                        clear KL; have KL := Lib.hid k1; clear k1
                        clear o1 b1
                        (refine held_take 12 90 (.agg #[.slice aA m1 cA, .int .i64 x1, .bool y1]) rfl rfl (by as_aux_lemma => kernel_rfl) (by as_aux_lemma => kernel_rfl) (by as_aux_lemma => kernel_rfl) (fun _ _ _ h => h) (by kernel_rfl) ?_ (by assumption) ?_; (intro w hSw; clear hSw; first | rfl | go_simp); simp only [List.set_cons_zero, List.set_cons_succ])
                        refine held_store 14 rfl (by kernel_rfl) (by kernel_rfl) (by kernel_rfl) 39 (.tmp 8) (.tmp 90) (by kernel_rfl) gL [.slice aA m1 cA, .int .i64 x1, .bool y1] [.slice none 0 0, .int .i64 0, .bool false] _ (by kernel_rfl) (by kernel_rfl) KL.out (by kernel_rfl) rfl (by kernel_rfl) (below_setRow HS.out GL.out _) (fun hS => ?_)
                        refine wpAnyH_done (by kernel_rfl) ?_ _
                        go_wp2
                        go_meet
                        exact Made17.mk KL.out O.out HSM.out HS.out GL.out
                    case rest =>
                      obtain ⟨g8, a8, c8, rfl, hk8, hl8, hb8⟩ := hcut
                      obtain ⟨Y0, rfl⟩ : ∃ z, z = wc := ⟨_, rfl⟩
                      have HBY := Lib.hid (HBX3.out.trans (hb8.mono HBX3.out.size))
                      have HOY := Lib.hid (HO3.out.mono hb8 hb8.size)
                      have HK8 := Lib.hid hk8; have HL8 := Lib.hid hl8
                      clear hk8 hl8 hb8 d0 d1 d2 hb1w SRC HBX
                      have HBX := HBY
                      obtain ⟨rows, hArr, hrl, hrw⟩ := HOY.out
                      have hrM : rows.length = M := by rw [hrl, HLO.out]
                      obtain ⟨h3, h1c⟩ := rows_one hrl hrw
                      have hkr : k ≤ rows.length := by omega
                      obtain ⟨pH, cH, hrunH, hArrH⟩ := head_res hArr hkr
                      obtain ⟨pC, cC9, hrunC, hArrC⟩ := cut_res hArr hkr
                      have e1 : (rows.take k).length = k := by rw [List.length_take]; omega
                      have e2 : (rows.drop k).length = M - k := by rw [List.length_drop, hrM]
                      have sH := SrcN.of_arr hArrH (rows_all h3 k).1 (by decide)
                      have sC := SrcN.of_arr hArrC (rows_all h3 k).2 (by decide)
                      rw [e1] at hrunH sH
                      rw [e2] at hrunC sC
                      have SH := Lib.hid sH; have SC := Lib.hid sC
                      have OH := Lib.hid (show ∀ u ∈ (rows.take k).flatten, u.oneCell' = true from fun u hu => by obtain ⟨r, hr, hu⟩ := List.mem_flatten.1 hu; exact h1c u (List.mem_flatten.2 ⟨r, List.mem_of_mem_take hr, hu⟩))
                      have OC := Lib.hid (show ∀ u ∈ (rows.drop k).flatten, u.oneCell' = true from fun u hu => by obtain ⟨r, hr, hu⟩ := List.mem_flatten.1 hu; exact h1c u (List.mem_flatten.2 ⟨r, List.mem_of_mem_drop hr, hu⟩))
                      have hrx : RsRow Y0.heap.size Y0 ⟨l1, x1, y1⟩ [.slice a8 m1 c8, .int .i64 x1, .bool y1] := ⟨a8, c8, by rw [HM1.out], by rw [HM1.out]; exact HL8.out, H64.out⟩
                      have FIN := Lib.hid (show ∀ v w, w.ownsRow Y0.heap.size 39 3 v (k + 1 + (M - k)) ((rows.take k).flatten ++ [.slice a8 m1 c8, .int .i64 x1, .bool y1] ++ (rows.drop k).flatten) → Below Y0.heap.size Y0 w → IsRes w.heap.size w v (o.take k ++ ⟨l1, x1, y1⟩ :: o.drop k) from fun v w ho hb => by
                        have ef : (rows.take k).flatten ++ [.slice a8 m1 c8, .int .i64 x1, .bool y1] ++ (rows.drop k).flatten = (rows.take k ++ [.slice a8 m1 c8, .int .i64 x1, .bool y1] :: rows.drop k).flatten := by simp
                        have el : k + 1 + (M - k) = (rows.take k ++ [.slice a8 m1 c8, .int .i64 x1, .bool y1] :: rows.drop k).length := by rw [List.length_append, List.length_cons, e1, e2]; omega
                        rw [ef, el] at ho
                        refine own_res ho ?_ (rows_mid hrl hrw hrx k) hb hb.size
                        rw [List.length_append, List.length_cons, List.length_append, List.length_cons, List.length_take, List.length_drop, List.length_take, List.length_drop, hrl])
                      have E0 := HK8.out.cell 0 _ rfl; have E1 := HK8.out.cell 1 _ rfl; have E2 := HK8.out.cell 2 _ rfl; have hg8 := HK8.out.lt
                      have hM4 : M ≤ 4096 := by have := H4.out; have := HNL.out; have := HMI.out; omega
                      clear h3 h1c hArrH hArrC sH sC e1 e2 hArr hrw hrx hrl hrM hkr
                      obtain ⟨j0, hj, hw0, hw1, hw2⟩ := info_parts infoRes
                      go_upto_region 18 with fail
                      refine wp_region_held_drew (S := fun w => Below Y0.heap.size Y0 w) (by kernel_rfl) (Below.drew (Below.refl _ _)) (fun hHeld => ?_)
                      have HS := Lib.hid (Below.drew (Below.refl Y0.heap.size Y0))
                      clear hHeld
                      have hSS := HS.out
                      obtain ⟨X2, hX2⟩ : ∃ z, Y0.drew = z := ⟨_, rfl⟩
                      rw [hX2] at HS hSS ⊢
                      clear hX2
                      (refine held_take 1 92 ?_ rfl (by kernel_rfl) (by as_aux_lemma => kernel_rfl) (by as_aux_lemma => kernel_rfl) (by as_aux_lemma => kernel_rfl) (fun _ _ _ h => h) (by kernel_rfl) ?_ (by assumption) ?_; rotate_left; (intro w hSw; clear hSw; go_simp); (try with_reducible rfl); simp only [List.set_cons_zero, List.set_cons_succ])
                      (refine held_take 2 93 ?_ rfl (by kernel_rfl) (by as_aux_lemma => kernel_rfl) (by as_aux_lemma => kernel_rfl) (by as_aux_lemma => kernel_rfl) (fun _ _ _ h => h) (by kernel_rfl) ?_ (by assumption) ?_; rotate_left; (intro w hSw; clear hSw; go_simp); (try with_reducible rfl); simp only [List.set_cons_zero, List.set_cons_succ])
                      (refine held_take 3 94 (.slice pH k cH) rfl rfl (by as_aux_lemma => kernel_rfl) (by as_aux_lemma => kernel_rfl) (by as_aux_lemma => kernel_rfl) (fun _ _ _ h => h) (by kernel_rfl) ?_ (by assumption) ?_; (intro w hSw; clear hSw; go_simp); simp only [List.set_cons_zero, List.set_cons_succ])
                      (refine held_take 5 96 (.agg #[.slice a8 m1 c8, .int .i64 x1, .bool y1]) rfl rfl (by as_aux_lemma => kernel_rfl) (by as_aux_lemma => kernel_rfl) (by as_aux_lemma => kernel_rfl) (fun _ _ _ h => h) (by kernel_rfl) ?_ (by assumption) ?_; (intro w hSw; have f0 := (hSw.cell (p := ⟨g8, 0, none⟩) hg8).trans E0; have f1 := (hSw.cell (p := ⟨g8, 1, none⟩) hg8).trans E1; have f2 := (hSw.cell (p := ⟨g8, 2, none⟩) hg8).trans E2; clear hSw; go_simp); simp only [List.set_cons_zero, List.set_cons_succ])
                      (refine held_take 8 99 ?_ rfl (by kernel_rfl) (by as_aux_lemma => kernel_rfl) (by as_aux_lemma => kernel_rfl) (by as_aux_lemma => kernel_rfl) (fun _ _ _ h => h) (by kernel_rfl) ?_ (by assumption) ?_; rotate_left; (intro w hSw; clear hSw; go_simp); (try with_reducible rfl); simp only [List.set_cons_zero, List.set_cons_succ])
                      (refine held_take 9 100 ?_ rfl (by kernel_rfl) (by as_aux_lemma => kernel_rfl) (by as_aux_lemma => kernel_rfl) (by as_aux_lemma => kernel_rfl) (fun _ _ _ h => h) (by kernel_rfl) ?_ (by assumption) ?_; rotate_left; (intro w hSw; clear hSw; go_simp); (try with_reducible rfl); simp only [List.set_cons_zero, List.set_cons_succ])
                      (refine held_take 10 101 (.slice pC (M - k) cC9) rfl rfl (by as_aux_lemma => kernel_rfl) (by as_aux_lemma => kernel_rfl) (by as_aux_lemma => kernel_rfl) (fun _ _ _ h => h) (by kernel_rfl) ?_ (by assumption) ?_; (intro w hSw; clear hSw; go_simp); simp only [List.set_cons_zero, List.set_cons_succ])
                      clear E0 E1 E2 hg8 hrunH hrunC
                      refine wpAnyH_ready (rs := [0, 6]) (by as_aux_lemma => kernel_rfl) (by simp) (.cons rfl (fun K hK => ?_) (.cons rfl (fun K hK => ?_) .nil))
                      · skip
                        rw [if_pos (by kernel_rfl)]
                        go_simp
                        refine hK.out _ _ (HS.out.alloc HS.out.size _) (fun hHeld => ?_)
                        clear hK K
                        (try simp only [Act.put, List.setIfInBounds_toArray, List.set_cons_zero, List.set_cons_succ])
                        have o1 := ownsRow_base (own_empty0 39 3 X2) HS.out.size
                        have b1 := HS.out.alloc HS.out.size (.cells #[] 39)
                        obtain ⟨gM, hgM⟩ : ∃ z, X2.heap.size = z := ⟨_, rfl⟩
                        have hsz1 : (X2.alloc (.cells #[] 39)).heap.size = gM + 1 := by rw [World.size_alloc, hgM]
                        obtain ⟨Y9, hY1⟩ : ∃ z, X2.alloc (.cells #[] 39) = z := ⟨_, rfl⟩
                        rw [hY1] at o1 b1 hsz1 hHeld ⊢
                        rw [hgM] at o1 ⊢
                        clear hY1 hgM HS
                        have HS := Lib.hid b1; have O := Lib.hid o1; have hSS := b1; have GZ := Lib.hid hsz1
                        clear o1 b1 hsz1
                        refine wpAnyH_ready (rs := [4, 6]) (by as_aux_lemma => kernel_rfl) (by simp) (.cons rfl (fun K hK => ?_) (.cons rfl (fun K hK => ?_) .nil))
                        · skip
                          rw [if_pos (by kernel_rfl)]
                          refine wp_append_srcN _ _ _ _ rfl Y0.heap.size 39 j0 _ 3 40 Tryd.underlying22 hj hw0 hw1 hw2 rfl (by decide) _ 0 [] rfl O.out _ k (rows.take k).flatten rfl (SH.out.below HS.out) OH.out (by unfold maxLen; omega) (by omega) HS.out.size ?_
                          intro vA Y10 o1 hgr _
                          obtain ⟨aA, cA, rfl⟩ := ownsRow_slice o1
                          have b1 := below_app HS.out O.out hgr (Nat.le_refl _) HS.out.size
                          refine hK.out _ _ b1 (fun hHeld => ?_)
                          clear hK K hgr
                          (try simp only [Act.put, List.setIfInBounds_toArray, List.set_cons_zero, List.set_cons_succ])
                          rw [Nat.zero_add, List.nil_append] at o1
                          simp only [Nat.zero_add]
                          clear HS O
                          have HS := Lib.hid b1; have O := Lib.hid o1; have hSS := b1
                          clear o1 b1
                          refine wpAnyH_ready (rs := [6]) (by as_aux_lemma => kernel_rfl) (by simp) (.cons rfl (fun K hK => ?_) .nil)
                          rw [if_pos (by kernel_rfl)]
                          go_simp
                          refine hK.out _ _ (HS.out.alloc HS.out.size _) (fun hHeld => ?_)
                          clear hK K
                          (try simp only [Act.put, List.setIfInBounds_toArray, List.set_cons_zero, List.set_cons_succ])
                          have k1 := Blk.new Y10 [.slice a8 m1 c8, .int .i64 x1, .bool y1] 39
                          have b1 := HS.out.alloc HS.out.size (.cells #[.slice a8 m1 c8, .int .i64 x1, .bool y1] 39)
                          have o1 := ownsRow_keep O.out ((Below.refl _ _).alloc (Nat.le_refl _) (.cells #[.slice a8 m1 c8, .int .i64 x1, .bool y1] 39))
                          obtain ⟨gB, hgB⟩ : ∃ z, Y10.heap.size = z := ⟨_, rfl⟩
                          obtain ⟨Y11, hY1⟩ : ∃ z, Y10.alloc (.cells #[.slice a8 m1 c8, .int .i64 x1, .bool y1] 39) = z := ⟨_, rfl⟩
                          rw [show Y10.alloc (.cells ([.slice a8 m1 c8, .int .i64 x1, .bool y1] : List Value).toArray 39) = Y11 from hY1] at k1
                          rw [hY1] at b1 hHeld o1 ⊢
                          rw [hgB] at k1 ⊢
                          clear hY1 hgB HS
                          have HS := Lib.hid b1; have KB := Lib.hid k1; have hSS := b1
                          clear O; have O := Lib.hid o1; clear o1
                          clear k1 b1
                          refine wpAnyH_ready (rs := [7]) (by as_aux_lemma => kernel_rfl) (by simp) (.cons rfl (fun K hK => ?_) .nil)
                          rw [if_pos (by kernel_rfl)]
                          refine wp_append_srcN _ _ _ _ rfl Y0.heap.size 39 j0 _ 3 40 Tryd.underlying22 hj hw0 hw1 hw2 rfl (by decide) _ k (rows.take k).flatten rfl O.out _ 1 [.slice a8 m1 c8, .int .i64 x1, .bool y1] rfl (.inl (srcB KB.out rfl)) (by intro u hu; simp at hu; rcases hu with rfl | rfl | rfl <;> rfl) (by unfold maxLen; omega) (by omega) HS.out.size ?_
                          intro vB Y12 o1 hgr _
                          obtain ⟨aB, cB, rfl⟩ := ownsRow_slice o1
                          have b1 := below_app HS.out O.out hgr (Nat.le_refl _) HS.out.size
                          refine hK.out _ _ b1 (fun hHeld => ?_)
                          clear hK K hgr KB
                          (try simp only [Act.put, List.setIfInBounds_toArray, List.set_cons_zero, List.set_cons_succ])
                          clear HS O
                          have HS := Lib.hid b1; have O := Lib.hid o1; have hSS := b1
                          clear o1 b1
                          refine wpAnyH_ready (rs := [11]) (by as_aux_lemma => kernel_rfl) (by simp) (.cons rfl (fun K hK => ?_) .nil)
                          rw [if_pos (by kernel_rfl)]
                          refine wp_append_srcN _ _ _ _ rfl Y0.heap.size 39 j0 _ 3 40 Tryd.underlying22 hj hw0 hw1 hw2 rfl (by decide) _ (k + 1) _ rfl O.out _ (M - k) (rows.drop k).flatten rfl (SC.out.below HS.out) OC.out (by unfold maxLen; omega) (by omega) HS.out.size ?_
                          intro vC Y13 o1 hgr _
                          obtain ⟨aC, cC, rfl⟩ := ownsRow_slice o1
                          have b1 := below_app HS.out O.out hgr (Nat.le_refl _) HS.out.size
                          refine hK.out _ _ b1 (fun hHeld => ?_)
                          clear hK K hgr
                          (try simp only [Act.put, List.setIfInBounds_toArray, List.set_cons_zero, List.set_cons_succ])
                          clear HS O
                          have HS := Lib.hid b1; have O := Lib.hid o1; have hSS := b1
                          clear o1 b1
                          (refine held_take 12 5 (.slice aC (k + 1 + (M - k)) cC) rfl rfl (by as_aux_lemma => kernel_rfl) (by as_aux_lemma => kernel_rfl) (by as_aux_lemma => kernel_rfl) (fun _ _ _ h => h) (by kernel_rfl) ?_ (by assumption) ?_; (intro w hSw; clear hSw; first | rfl | go_simp); (try simp only [List.set_cons_zero, List.set_cons_succ]))
                          refine wpAnyH_done (by kernel_rfl) ?_ _
                          have HF := Lib.hid (FIN.out _ _ O.out HS.out)
                          go_wp2
                          exact ⟨⟨i + 1, _, by omega, by go_num, HF.out, INS.out, HBX.out.trans (HS.out.mono HBX.out.size)⟩, by simp [intOf]; omega⟩
                        · skip
                          rw [if_pos (by kernel_rfl)]
                          go_simp
                          refine hK.out _ _ (HS.out.alloc HS.out.size _) (fun hHeld => ?_)
                          clear hK K
                          (try simp only [Act.put, List.setIfInBounds_toArray, List.set_cons_zero, List.set_cons_succ])
                          have k1 := Blk.new Y9 [.slice a8 m1 c8, .int .i64 x1, .bool y1] 39
                          have b1 := HS.out.alloc HS.out.size (.cells #[.slice a8 m1 c8, .int .i64 x1, .bool y1] 39)
                          have o1 := ownsRow_keep O.out ((Below.refl _ _).alloc (Nat.le_refl _) (.cells #[.slice a8 m1 c8, .int .i64 x1, .bool y1] 39))
                          obtain ⟨gB, hgB⟩ : ∃ z, Y9.heap.size = z := ⟨_, rfl⟩
                          have NE := Lib.hid (show gB ≠ gM by have := GZ.out; omega)
                          obtain ⟨Y14, hY1⟩ : ∃ z, Y9.alloc (.cells #[.slice a8 m1 c8, .int .i64 x1, .bool y1] 39) = z := ⟨_, rfl⟩
                          rw [show Y9.alloc (.cells ([.slice a8 m1 c8, .int .i64 x1, .bool y1] : List Value).toArray 39) = Y14 from hY1] at k1
                          rw [hY1] at b1 hHeld o1 ⊢
                          rw [hgB] at k1 ⊢
                          clear hY1 hgB HS
                          have HS := Lib.hid b1; have KB := Lib.hid k1; have hSS := b1
                          clear O; have O := Lib.hid o1; clear o1
                          clear k1 b1
                          refine wpAnyH_ready (rs := [4]) (by as_aux_lemma => kernel_rfl) (by simp) (.cons rfl (fun K hK => ?_) .nil)
                          rw [if_pos (by kernel_rfl)]
                          refine wp_append_srcN _ _ _ _ rfl Y0.heap.size 39 j0 _ 3 40 Tryd.underlying22 hj hw0 hw1 hw2 rfl (by decide) _ 0 [] rfl O.out _ k (rows.take k).flatten rfl (SH.out.below HS.out) OH.out (by unfold maxLen; omega) (by omega) HS.out.size ?_
                          intro vA Y15 o1 hgr _
                          obtain ⟨aA, cA, rfl⟩ := ownsRow_slice o1
                          have b1 := below_app HS.out O.out hgr (Nat.le_refl _) HS.out.size
                          have k1 : Blk Y15 gB 39 _ := (hgr.block _ KB.out.lt (fun e => NE.out (Option.some.inj e))).trans KB.out
                          refine hK.out _ _ b1 (fun hHeld => ?_)
                          clear hK K hgr
                          (try simp only [Act.put, List.setIfInBounds_toArray, List.set_cons_zero, List.set_cons_succ])
                          rw [Nat.zero_add, List.nil_append] at o1
                          simp only [Nat.zero_add]
                          clear HS O
                          have HS := Lib.hid b1; have O := Lib.hid o1; have hSS := b1
                          clear KB; have KB := Lib.hid k1; clear k1
                          clear o1 b1
                          refine wpAnyH_ready (rs := [7]) (by as_aux_lemma => kernel_rfl) (by simp) (.cons rfl (fun K hK => ?_) .nil)
                          rw [if_pos (by kernel_rfl)]
                          refine wp_append_srcN _ _ _ _ rfl Y0.heap.size 39 j0 _ 3 40 Tryd.underlying22 hj hw0 hw1 hw2 rfl (by decide) _ k (rows.take k).flatten rfl O.out _ 1 [.slice a8 m1 c8, .int .i64 x1, .bool y1] rfl (.inl (srcB KB.out rfl)) (by intro u hu; simp at hu; rcases hu with rfl | rfl | rfl <;> rfl) (by unfold maxLen; omega) (by omega) HS.out.size ?_
                          intro vB Y16 o1 hgr _
                          obtain ⟨aB, cB, rfl⟩ := ownsRow_slice o1
                          have b1 := below_app HS.out O.out hgr (Nat.le_refl _) HS.out.size
                          refine hK.out _ _ b1 (fun hHeld => ?_)
                          clear hK K hgr KB
                          (try simp only [Act.put, List.setIfInBounds_toArray, List.set_cons_zero, List.set_cons_succ])
                          clear HS O
                          have HS := Lib.hid b1; have O := Lib.hid o1; have hSS := b1
                          clear o1 b1
                          refine wpAnyH_ready (rs := [11]) (by as_aux_lemma => kernel_rfl) (by simp) (.cons rfl (fun K hK => ?_) .nil)
                          rw [if_pos (by kernel_rfl)]
                          refine wp_append_srcN _ _ _ _ rfl Y0.heap.size 39 j0 _ 3 40 Tryd.underlying22 hj hw0 hw1 hw2 rfl (by decide) _ (k + 1) _ rfl O.out _ (M - k) (rows.drop k).flatten rfl (SC.out.below HS.out) OC.out (by unfold maxLen; omega) (by omega) HS.out.size ?_
                          intro vC Y17 o1 hgr _
                          obtain ⟨aC, cC, rfl⟩ := ownsRow_slice o1
                          have b1 := below_app HS.out O.out hgr (Nat.le_refl _) HS.out.size
                          refine hK.out _ _ b1 (fun hHeld => ?_)
                          clear hK K hgr
                          (try simp only [Act.put, List.setIfInBounds_toArray, List.set_cons_zero, List.set_cons_succ])
                          clear HS O
                          have HS := Lib.hid b1; have O := Lib.hid o1; have hSS := b1
                          clear o1 b1
                          (refine held_take 12 5 (.slice aC (k + 1 + (M - k)) cC) rfl rfl (by as_aux_lemma => kernel_rfl) (by as_aux_lemma => kernel_rfl) (by as_aux_lemma => kernel_rfl) (fun _ _ _ h => h) (by kernel_rfl) ?_ (by assumption) ?_; (intro w hSw; clear hSw; first | rfl | go_simp); (try simp only [List.set_cons_zero, List.set_cons_succ]))
                          refine wpAnyH_done (by kernel_rfl) ?_ _
                          have HF := Lib.hid (FIN.out _ _ O.out HS.out)
                          go_wp2
                          exact ⟨⟨i + 1, _, by omega, by go_num, HF.out, INS.out, HBX.out.trans (HS.out.mono HBX.out.size)⟩, by simp [intOf]; omega⟩
                      · skip
                        rw [if_pos (by kernel_rfl)]
                        go_simp
                        refine hK.out _ _ (HS.out.alloc HS.out.size _) (fun hHeld => ?_)
                        clear hK K
                        (try simp only [Act.put, List.setIfInBounds_toArray, List.set_cons_zero, List.set_cons_succ])
                        have k1 := Blk.new X2 [.slice a8 m1 c8, .int .i64 x1, .bool y1] 39
                        have b1 := HS.out.alloc HS.out.size (.cells #[.slice a8 m1 c8, .int .i64 x1, .bool y1] 39)
                        obtain ⟨gB, hgB⟩ : ∃ z, X2.heap.size = z := ⟨_, rfl⟩
                        obtain ⟨Y18, hY1⟩ : ∃ z, X2.alloc (.cells #[.slice a8 m1 c8, .int .i64 x1, .bool y1] 39) = z := ⟨_, rfl⟩
                        rw [show X2.alloc (.cells ([.slice a8 m1 c8, .int .i64 x1, .bool y1] : List Value).toArray 39) = Y18 from hY1] at k1
                        rw [hY1] at b1 hHeld ⊢
                        rw [hgB] at k1 ⊢
                        clear hY1 hgB HS
                        have HS := Lib.hid b1; have KB := Lib.hid k1; have hSS := b1
                        clear k1 b1
                        refine wpAnyH_ready (rs := [0]) (by as_aux_lemma => kernel_rfl) (by simp) (.cons rfl (fun K hK => ?_) .nil)
                        rw [if_pos (by kernel_rfl)]
                        go_simp
                        refine hK.out _ _ (HS.out.alloc HS.out.size _) (fun hHeld => ?_)
                        clear hK K
                        (try simp only [Act.put, List.setIfInBounds_toArray, List.set_cons_zero, List.set_cons_succ])
                        have o1 := ownsRow_base (own_empty0 39 3 Y18) HS.out.size
                        have b1 := HS.out.alloc HS.out.size (.cells #[] 39)
                        have k1 := KB.out.alloc (.cells #[] 39)
                        have hlt := KB.out.lt
                        obtain ⟨gM, hgM⟩ : ∃ z, Y18.heap.size = z := ⟨_, rfl⟩
                        have hsz1 : (Y18.alloc (.cells #[] 39)).heap.size = gM + 1 := by rw [World.size_alloc, hgM]
                        obtain ⟨Y19, hY1⟩ : ∃ z, Y18.alloc (.cells #[] 39) = z := ⟨_, rfl⟩
                        rw [hY1] at o1 b1 hsz1 hHeld k1 ⊢
                        rw [hgM] at o1 hlt ⊢
                        clear hY1 hgM HS
                        have HS := Lib.hid b1; have O := Lib.hid o1; have hSS := b1; have GZ := Lib.hid hsz1
                        clear KB; have KB := Lib.hid k1; have NE := Lib.hid (show gB ≠ gM by omega); clear k1 hlt
                        clear o1 b1 hsz1
                        refine wpAnyH_ready (rs := [4]) (by as_aux_lemma => kernel_rfl) (by simp) (.cons rfl (fun K hK => ?_) .nil)
                        rw [if_pos (by kernel_rfl)]
                        refine wp_append_srcN _ _ _ _ rfl Y0.heap.size 39 j0 _ 3 40 Tryd.underlying22 hj hw0 hw1 hw2 rfl (by decide) _ 0 [] rfl O.out _ k (rows.take k).flatten rfl (SH.out.below HS.out) OH.out (by unfold maxLen; omega) (by omega) HS.out.size ?_
                        intro vA Y20 o1 hgr _
                        obtain ⟨aA, cA, rfl⟩ := ownsRow_slice o1
                        have b1 := below_app HS.out O.out hgr (Nat.le_refl _) HS.out.size
                        have k1 : Blk Y20 gB 39 _ := (hgr.block _ KB.out.lt (fun e => NE.out (Option.some.inj e))).trans KB.out
                        refine hK.out _ _ b1 (fun hHeld => ?_)
                        clear hK K hgr
                        (try simp only [Act.put, List.setIfInBounds_toArray, List.set_cons_zero, List.set_cons_succ])
                        rw [Nat.zero_add, List.nil_append] at o1
                        simp only [Nat.zero_add]
                        clear HS O
                        have HS := Lib.hid b1; have O := Lib.hid o1; have hSS := b1
                        clear KB; have KB := Lib.hid k1; clear k1
                        clear o1 b1
                        refine wpAnyH_ready (rs := [7]) (by as_aux_lemma => kernel_rfl) (by simp) (.cons rfl (fun K hK => ?_) .nil)
                        rw [if_pos (by kernel_rfl)]
                        refine wp_append_srcN _ _ _ _ rfl Y0.heap.size 39 j0 _ 3 40 Tryd.underlying22 hj hw0 hw1 hw2 rfl (by decide) _ k (rows.take k).flatten rfl O.out _ 1 [.slice a8 m1 c8, .int .i64 x1, .bool y1] rfl (.inl (srcB KB.out rfl)) (by intro u hu; simp at hu; rcases hu with rfl | rfl | rfl <;> rfl) (by unfold maxLen; omega) (by omega) HS.out.size ?_
                        intro vB Y21 o1 hgr _
                        obtain ⟨aB, cB, rfl⟩ := ownsRow_slice o1
                        have b1 := below_app HS.out O.out hgr (Nat.le_refl _) HS.out.size
                        refine hK.out _ _ b1 (fun hHeld => ?_)
                        clear hK K hgr KB
                        (try simp only [Act.put, List.setIfInBounds_toArray, List.set_cons_zero, List.set_cons_succ])
                        clear HS O
                        have HS := Lib.hid b1; have O := Lib.hid o1; have hSS := b1
                        clear o1 b1
                        refine wpAnyH_ready (rs := [11]) (by as_aux_lemma => kernel_rfl) (by simp) (.cons rfl (fun K hK => ?_) .nil)
                        rw [if_pos (by kernel_rfl)]
                        refine wp_append_srcN _ _ _ _ rfl Y0.heap.size 39 j0 _ 3 40 Tryd.underlying22 hj hw0 hw1 hw2 rfl (by decide) _ (k + 1) _ rfl O.out _ (M - k) (rows.drop k).flatten rfl (SC.out.below HS.out) OC.out (by unfold maxLen; omega) (by omega) HS.out.size ?_
                        intro vC Y22 o1 hgr _
                        obtain ⟨aC, cC, rfl⟩ := ownsRow_slice o1
                        have b1 := below_app HS.out O.out hgr (Nat.le_refl _) HS.out.size
                        refine hK.out _ _ b1 (fun hHeld => ?_)
                        clear hK K hgr
                        (try simp only [Act.put, List.setIfInBounds_toArray, List.set_cons_zero, List.set_cons_succ])
                        clear HS O
                        have HS := Lib.hid b1; have O := Lib.hid o1; have hSS := b1
                        clear o1 b1
                        (refine held_take 12 5 (.slice aC (k + 1 + (M - k)) cC) rfl rfl (by as_aux_lemma => kernel_rfl) (by as_aux_lemma => kernel_rfl) (by as_aux_lemma => kernel_rfl) (fun _ _ _ h => h) (by kernel_rfl) ?_ (by assumption) ?_; (intro w hSw; clear hSw; first | rfl | go_simp); (try simp only [List.set_cons_zero, List.set_cons_succ]))
                        refine wpAnyH_done (by kernel_rfl) ?_ _
                        have HF := Lib.hid (FIN.out _ _ O.out HS.out)
                        go_wp2
                        exact ⟨⟨i + 1, _, by omega, by go_num, HF.out, INS.out, HBX.out.trans (HS.out.mono HBX.out.size)⟩, by simp [intOf]; omega⟩
        · have hiN : i = N := by have := HMI.out; omega
          have hki : ¬ ((i : Int) < (N : Int)) := by omega
          have HD := Lib.hid (show SortQ l o 0 from InsR.done (by rw [HNL.out, ← hiN]; exact HI.out) H4.out HGOOD.out)
          go_wp2
          go_ret2
          exact ⟨_, o, _, rfl, HO.out, HBX.out, HD.out⟩
end Go.Proofs.YtgmdlnobajmjfaaDoor
