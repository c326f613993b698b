/- PlanGrows' walk. Printed by wip/gen_pgrow.py. -/
import Derived.Test.YtdjdikiimhhjpaaDoorK37
import Derived.Test.YtdjdikiimhhjpaaDoorK1
set_option maxRecDepth 100000
set_option maxHeartbeats 16000000
namespace Go.Proofs.YtdjdikiimhhjpaaDoor
open Go.RowKit
set_option linter.unusedSimpArgs false
set_option linter.unusedVariables false
theorem xGrow (l : List (Int × Ex)) (pv : Option Addr) (cv : Nat) (nn : Int) (W : World) (hT : TB W.heap.size W) (hX : IsQs W.heap.size W (.slice pv l.length cv) l) (nilv : pv = none → cv = 0) (hnum : ∀ q ∈ l, i64 q.1 ∧ q.2.num64)
    (hnn : -9223372036854775808 ≤ nn ∧ nn ≤ 9223372036854775807) : Calls Tryd.prog 3 #[.slice pv l.length cv, .int .i64 nn] W fun e' w' => e' = .returned (.bool true) ∧ Below W.heap.size W w' := by
  have HT := Lib.hid hT; have HX := Lib.hid hX; have HNum := Lib.hid hnum; have HNn := Lib.hid hnn; clear hT hX hnum hnn
  have hlm := HX.out.open
  obtain ⟨p', c', hv', hlc, -, hlm⟩ := hlm
  injection hv' with e1 e2 e3
  subst e1 e3
  clear e2
  unfold maxLen at hlm
  have HB := Lib.hid (Below.refl W.heap.size W)
  go_enter Tryd.func3, Tryd.ntmps3; (try simp only [List.append_eq, List.cons_append, List.nil_append])
  go_wp2_with fail
  refine (lLives W ((HT.out.on HB.out).less HB.out.size)).mono ?_
  rintro e' y1 ⟨rfl, hb⟩
  have HB := Lib.hid (HB.out.trans (hb.mono HB.out.size))
  clear hb
  go_wp2_with fail
  refine (kQueries l _ W.heap.size y1 HB.out.size (HX.out.mono HB.out (Nat.le_refl _))).mono ?_
  rintro e' y2 ⟨b, rfl, hlq, hb⟩
  have HB := Lib.hid (HB.out.trans (hb.mono HB.out.size))
  clear hb
  cases b
  · go_wp2
    go_ret; exact ⟨rfl, HB.out⟩
  obtain ⟨h12, hall⟩ := hlq rfl
  have HLq := Lib.hid (lq_of hall HNum.out)
  have H12 := Lib.hid h12
  clear hlq hall HNum
  have hpk := pick_bd nn ((l.length : Int) + 1) (by omega)
  obtain ⟨k, hk⟩ : ∃ k : Nat, pick nn ((l.length : Int) + 1) = k := ⟨(pick nn ((l.length : Int) + 1)).toNat, by omega⟩
  have HPk := Lib.hid (kPick nn ((l.length : Int) + 1) y2 HNn.out ⟨by omega, by omega⟩)
  rw [hk] at HPk hpk
  have hkl : k ≤ l.length := by omega
  have hkt : (l.take k).length = k := by rw [List.length_take, Nat.min_eq_left hkl]
  have hkc : (k : Int) ≤ (cv : Int) := by omega
  clear hpk hk
  go_wp2_with fail
  refine HPk.out.mono ?_
  rintro e' w' ⟨rfl, rfl⟩
  clear HPk
  by_cases h0 : firstBad l = 0
  rotate_left
  · have HP : Hid (planOf l = ([], [], firstBad l)) := Lib.hid (planOf_bad h0)
    obtain ⟨c, hc⟩ : ∃ c, firstBad l = c := ⟨_, rfl⟩; rw [hc] at h0 HP; have hcb : (c != 0) = true := by simpa using h0
    clear hc; have ZHB := Lib.hid HB.out.size; have hbz : y2.heap.size ≤ (y2.alloc (.cells #[] 42)).heap.size := by simp
    have hb0 : Below y2.heap.size y2 (y2.alloc (.cells #[] 42)) := (Below.refl _ _).alloc (Nat.le_refl _) _; have hown := OwnQ.empty W.heap.size y2; obtain ⟨rows, hsrc, hrl, hrows⟩ := (HX.out.mono (HB.out.trans (hb0.mono HB.out.size)) (Nat.le_refl _)).src nilv; have hwz := ZHB.out
    go_wp2_with (at_builtin; refine app_qs rfl _ _ rfl W.heap.size (y2.heap.size) _ _ [] l rows rfl rfl hown hsrc hrl hrows (by first | omega | (simp; omega)) hbz hwz ?_)
    intro v1 y3 hown1 hg hat hbel; clear hg hat hown hsrc hrl hrows; have HOwn : Hid (OwnQ W.heap.size (y2.heap.size) y3 v1 l) := Lib.hid hown1; have HBz := Lib.hid (Nat.le_trans hbz hbel.size); have HB := Lib.hid ((HB.out.trans (hb0.mono HB.out.size)).trans (hbel.mono ZHB.out)); clear hown1 hbel hb0 hbz; have HO := Lib.hid (pOf l v1 y3.heap.size y3 (Nat.le_refl _) (HOwn.out.qs (Nat.le_refl _) HB.out.size) ((HT.out.on HB.out).less HB.out.size) HLq.out (HLq.out.room (by omega)) (by omega)); clear HOwn HBz ZHB; rw [HP.out] at HO
    go_wp2_with fail
    refine (HO.out).mono ?_; rintro e' y4 ⟨vp, vr, rfl, hp, hr, hb⟩; have HB := Lib.hid (HB.out.trans (hb.mono HB.out.size)); clear hb; obtain ⟨pp, cp, hv, -, -, -⟩ := hp.open; have hv : vp = .slice pp 0 cp := hv; subst hv; obtain ⟨pr, cr, hv⟩ := ownsRow_slice hr; have hv : vr = .slice pr 0 cr := hv; subst hv; clear HO hp hr; have ZHB := Lib.hid HB.out.size; have hbz : y4.heap.size ≤ (y4.alloc (.cells #[] 42)).heap.size := by simp
    have hb0 : Below y4.heap.size y4 (y4.alloc (.cells #[] 42)) := (Below.refl _ _).alloc (Nat.le_refl _) _; have hown := OwnQ.empty W.heap.size y4; obtain ⟨rows, hsrc, hrl, hrows⟩ := ((HX.out.mono (HB.out.trans (hb0.mono HB.out.size)) (Nat.le_refl _)).take k hkl).srcK hkt.symm nilv; have hwz := ZHB.out
    go_wp2_with (at_builtin; refine app_qs rfl _ _ rfl W.heap.size (y4.heap.size) _ _ [] (l.take k) rows rfl rfl hown hsrc hrl hrows (by first | omega | (simp; omega)) hbz hwz ?_)
    intro v1 y5 hown1 hg hat hbel; clear hg hat hown hsrc hrl hrows; have HOwn : Hid (OwnQ W.heap.size (y4.heap.size) y5 v1 (l.take k)) := Lib.hid hown1; have HBz := Lib.hid (Nat.le_trans hbz hbel.size); have HB := Lib.hid ((HB.out.trans (hb0.mono HB.out.size)).trans (hbel.mono ZHB.out)); clear hown1 hbel hb0 hbz; have HO := Lib.hid (pOf (l.take k) v1 y5.heap.size y5 (Nat.le_refl _) (HOwn.out.qs (Nat.le_refl _) HB.out.size) ((HT.out.on HB.out).less HB.out.size) (HLq.out.take k) ((HLq.out.take k).room (by rw [hkt]; omega)) (by rw [hkt]; omega)); clear HOwn HBz ZHB
    go_wp2_with fail
    refine (HO.out).mono ?_; rintro e' y6 ⟨vq, vs, rfl, hq, hs, hb⟩; have HB := Lib.hid (HB.out.trans (hb.mono HB.out.size)); clear hb; clear HO hq hs; generalize (planOf (l.take k)).2.2 = e2 at *; go_wp2; go_ret; exact ⟨rfl, HB.out⟩
  obtain ⟨p, ns, q, hF⟩ := grow_of k HLq.out h12 h0
  have HF := Lib.hid hF; clear hF
  obtain ⟨m, hm⟩ : ∃ m, p.length = m := ⟨_, rfl⟩
  have HM := Lib.hid hm; clear hm
  have hm1 : m ≤ 1000 := by have h1 := HF.out.many; have h2 := HM.out; omega
  obtain ⟨m2, hm2⟩ : ∃ m, q.length = m := ⟨_, rfl⟩
  have HM2 := Lib.hid hm2; clear hm2
  have hm3 : m2 ≤ m := by obtain ⟨R, h1⟩ := HF.out.front; have h2 := HM.out; have h3 := HM2.out; rw [h1, List.length_append] at h2; omega
  have hqp : p.take m2 = q := by obtain ⟨R, h1⟩ := HF.out.front; rw [h1, ← HM2.out]; simp
  have HQp := Lib.hid hqp; clear hqp
  have ZHB := Lib.hid HB.out.size
  have hbz : y2.heap.size ≤ (y2.alloc (.cells #[] 42)).heap.size := by simp
  have hb0 : Below y2.heap.size y2 (y2.alloc (.cells #[] 42)) := (Below.refl _ _).alloc (Nat.le_refl _) _
  have hown := OwnQ.empty W.heap.size y2
  obtain ⟨rows, hsrc, hrl, hrows⟩ := (HX.out.mono (HB.out.trans (hb0.mono HB.out.size)) (Nat.le_refl _)).src nilv
  have hwz := ZHB.out
  go_wp2_with (at_builtin; refine app_qs rfl _ _ rfl W.heap.size (y2.heap.size) _ _ [] l rows rfl rfl hown hsrc hrl hrows (by first | omega | (simp; omega)) hbz hwz ?_)
  intro v1 y3 hown1 hg hat hbel
  clear hg hat hown hsrc hrl hrows
  have HOwn : Hid (OwnQ W.heap.size (y2.heap.size) y3 v1 l) := Lib.hid hown1
  have HBz := Lib.hid (Nat.le_trans hbz hbel.size)
  have HB := Lib.hid ((HB.out.trans (hb0.mono HB.out.size)).trans (hbel.mono ZHB.out))
  clear hown1 hbel hb0 hbz
  have HO := Lib.hid (pOf l v1 y3.heap.size y3 (Nat.le_refl _) (HOwn.out.qs (Nat.le_refl _) HB.out.size) ((HT.out.on HB.out).less HB.out.size) HLq.out (HLq.out.room (by omega)) (by omega))
  clear HOwn HBz ZHB
  rw [HF.out.of] at HO
  go_wp2_with fail
  refine (HO.out).mono ?_
  rintro e' y4 ⟨vp, vr, rfl, hp, hr, hb⟩
  have HB := Lib.hid (HB.out.trans (hb.mono HB.out.size))
  clear hb
  obtain ⟨pp, cp, hv, hmc, hcp, -⟩ := hp.open
  rw [HM.out] at hv hmc
  subst hv
  unfold maxLen at hcp
  have hr := hr.ints (Nat.le_refl _)
  obtain ⟨pr, cr, hv, hlc, hcr, -⟩ := hr.open
  rw [HF.out.len] at hv hlc
  subst hv
  unfold maxLen at hcr
  have HP := Lib.hid hp; have HR := Lib.hid hr; clear HO hp hr
  have HB1 := Lib.hid (Below.refl y4.heap.size y4)
  have ZHB := Lib.hid HB.out.size
  have ZHB1 := Lib.hid HB1.out.size
  have hbz : y4.heap.size ≤ (y4.alloc (.cells #[] 42)).heap.size := by simp
  have hb0 : Below y4.heap.size y4 (y4.alloc (.cells #[] 42)) := (Below.refl _ _).alloc (Nat.le_refl _) _
  have hown := OwnQ.empty W.heap.size y4
  obtain ⟨rows, hsrc, hrl, hrows⟩ := ((HX.out.mono (HB.out.trans (hb0.mono HB.out.size)) (Nat.le_refl _)).take k hkl).srcK hkt.symm nilv
  have hwz := ZHB.out
  go_wp2_with (at_builtin; refine app_qs rfl _ _ rfl W.heap.size (y4.heap.size) _ _ [] (l.take k) rows rfl rfl hown hsrc hrl hrows (by first | omega | (simp; omega)) hbz hwz ?_)
  intro v1 y5 hown1 hg hat hbel
  clear hg hat hown hsrc hrl hrows
  have HOwn : Hid (OwnQ W.heap.size (y4.heap.size) y5 v1 (l.take k)) := Lib.hid hown1
  have HBz := Lib.hid (Nat.le_trans hbz hbel.size)
  have HB := Lib.hid ((HB.out.trans (hb0.mono HB.out.size)).trans (hbel.mono ZHB.out))
  have HB1 := Lib.hid ((HB1.out.trans (hb0.mono HB1.out.size)).trans (hbel.mono ZHB1.out))
  clear hown1 hbel hb0 hbz
  have HO := Lib.hid (pOf (l.take k) v1 y5.heap.size y5 (Nat.le_refl _) (HOwn.out.qs (Nat.le_refl _) HB.out.size) ((HT.out.on HB.out).less HB.out.size) (HLq.out.take k) ((HLq.out.take k).room (by rw [hkt]; omega)) (by rw [hkt]; omega))
  clear HOwn HBz ZHB ZHB1
  rw [HF.out.first] at HO
  go_wp2_with fail
  refine (HO.out).mono ?_
  rintro e' y6 ⟨vq, vs, rfl, hq, hs, hb⟩
  have HB := Lib.hid (HB.out.trans (hb.mono HB.out.size))
  have HB1 := Lib.hid (HB1.out.trans (hb.mono HB1.out.size))
  clear hb
  obtain ⟨pq, cq, hv, -, hcq, -⟩ := hq.open
  rw [HM2.out] at hv
  subst hv
  unfold maxLen at hcq
  have HQ := Lib.hid hq; have HS2 := Lib.hid (hs.ints (Nat.le_refl _)); clear HO hq hs
  have HB2 := Lib.hid (Below.refl y6.heap.size y6)
  have hmc2 : (m2 : Int) ≤ (cp : Int) := by omega
  have hkr : (k : Int) ≤ (cr : Int) := by omega
  have hq2 := (HP.out.mono HB1.out HB1.out.size).take m2 (by rw [HM.out]; exact hm3)
  rw [HQp.out] at hq2
  have HQ2 := Lib.hid hq2; clear hq2
  go_wp2_with fail
  refine (kNodes q _ _ y6.heap.size y6 (Nat.le_refl _) (HQ.out.mono HB2.out HB2.out.size) HQ2.out).mono ?_
  rintro e' y7 ⟨rfl, hb⟩
  have HB := Lib.hid (HB.out.trans (hb.mono HB.out.size))
  have HB1 := Lib.hid (HB1.out.trans (hb.mono HB1.out.size))
  have HB2 := Lib.hid (HB2.out.trans (hb.mono HB2.out.size))
  clear hb
  clear HQ HQ2 HQp
  go_wp2_with fail
  refine (kIntsS (ns.take k) _ _ y7.heap.size y7 (Nat.le_refl _) (HS2.out.mono HB2.out HB2.out.size) ((HR.out.mono HB1.out HB1.out.size).take k (by rw [HF.out.len]; exact hkl))).mono ?_
  rintro e' y8 ⟨rfl, hb⟩
  have HB := Lib.hid (HB.out.trans (hb.mono HB.out.size))
  have HB1 := Lib.hid (HB1.out.trans (hb.mono HB1.out.size))
  have HB2 := Lib.hid (HB2.out.trans (hb.mono HB2.out.size))
  clear hb
  clear HS2 HB2
  go_wp2_with fail
  go_loopw [12] (fun j wr => ∃ i : Nat, i ≤ m ∧ j = .int .i64 i ∧ Below y8.heap.size y8 wr) (fun j _ => m - (intOf j).toNat)
  case atStart => exact ⟨0, Nat.zero_le _, rfl, Below.refl _ _⟩
  case round =>
    obtain ⟨i, hi, rfl, hbl⟩ := hrel; obtain ⟨w0, rfl⟩ : ∃ z, z = wr := ⟨_, rfl⟩; have HBl := Lib.hid hbl; have HB := Lib.hid (HB.out.trans (hbl.mono HB.out.size)); have HB1 := Lib.hid (HB1.out.trans (hbl.mono HB1.out.size)); clear hbl
    by_cases hlt : i < m
    rotate_left
    · skip
      clear HBl
      go_wp2_with fail
      go_loopw [15] (fun j wr => ∃ i : Nat, i ≤ l.length ∧ j = .int .i64 i ∧ Below w0.heap.size w0 wr) (fun j _ => l.length - (intOf j).toNat)
      case atStart => exact ⟨0, Nat.zero_le _, rfl, Below.refl _ _⟩
      case round =>
        obtain ⟨i, hi, rfl, hbl⟩ := hrel; obtain ⟨w2, rfl⟩ : ∃ z, z = wr := ⟨_, rfl⟩; have HBl := Lib.hid hbl; have HB := Lib.hid (HB.out.trans (hbl.mono HB.out.size)); have HB1 := Lib.hid (HB1.out.trans (hbl.mono HB1.out.size)); clear hbl
        by_cases hlt : i < l.length
        rotate_left
        · go_wp2
          go_ret; exact ⟨rfl, HB.out⟩
        have hki : (i : Int) < (l.length : Int) := by omega
        obtain ⟨mm, k1, hmm, k2, k3⟩ := HF.out.root i hlt; obtain ⟨b, off, rm, sm, rn, sn, rk, sk, rfl, hbn, hyx, c0, c1, c2, c3, c4, c5, c6, c7, c8, c9⟩ := (HX.out.mono HB.out (Nat.le_refl _)).get hlt; have HCq := Lib.hid (q_at9 (Nat.lt_of_lt_of_le hbn HB.out.size) c0 c1 c2 c3 c4 c5 c6 c7 c8 c9); clear c0 c1 c2 c3 c4 c5 c6 c7 c8 c9 hbn; obtain ⟨br, or, rfl, hbr, cr0⟩ := HR.out.getAt k1; have HCr := Lib.hid (c_at hbr cr0); clear hbr cr0; obtain ⟨bp, op, pm, cm, pn, cn, pk, ck, pi, ci, rfl, hbp, -, hin, hcp2⟩ := HP.out.get hmm; have HCi := Lib.hid (c_at hbp (hcp2 10 _ rfl)); clear hbp hcp2; have HIn := Lib.hid hin; clear hin; have hmi : (mm : Int) < (m : Int) := by have := HM.out; omega
        have HKd := Lib.hid (IsEx.kids9 hyx); clear hyx; have HLk := Lib.hid (fun (x : Nat) (hx : x < l[i].2.kids.length) => (⟨(HLq.out.num _ (List.getElem_mem hlt)).1, fun y hy => (HLq.out.num _ (List.getElem_mem hlt)).2 y (kid_part (List.getElem_mem hx) y hy), fun y hy => HLq.out.thin _ (List.getElem_mem hlt) y (kid_part (List.getElem_mem hx) y hy), Nat.le_trans (flat_size l[i].2 _ (kid_part (List.getElem_mem hx) _ (flat_self _))) (HLq.out.size _ (List.getElem_mem hlt))⟩ : (i64 l[i].1 ∧ l[i].2.kids[x].num64 ∧ l[i].2.kids[x].thin ∧ l[i].2.kids[x].size ≤ 60))); have hkl2 : l[i].2.kids.length ≤ 60 := by have h1 := HLq.out.size _ (List.getElem_mem hlt); have h2 := len_sizes l[i].2.kids; have h3 := Ex.size_eq l[i].2; omega
        have HK2 := Lib.hid k2; have HK3 := Lib.hid k3; clear k1 k2 k3; generalize p[mm] = nd at *; generalize l[i] = q0 at *; obtain ⟨ev, e⟩ := q0; simp only at HCq HKd HLk HK2 HK3 hkl2; have HZ := Lib.hid (Below.refl w2.heap.size w2); have HW2 := Lib.hid HB.out.size
        go_wp2_with fail
        go_loopw [16] (fun j wr => ∃ x : Nat, x ≤ e.kids.length ∧ j = .int .i64 x ∧ Below w2.heap.size w2 wr) (fun j _ => e.kids.length - (intOf j).toNat)
        case atStart => exact ⟨0, Nat.zero_le _, rfl, Below.refl _ _⟩
        case round =>
          obtain ⟨x, hx, rfl, hbx⟩ := hrel; obtain ⟨w3, rfl⟩ : ∃ z, z = wr := ⟨_, rfl⟩; have HZ := Lib.hid hbx; have HB := Lib.hid (HB.out.trans (hbx.mono HB.out.size)); have HB1 := Lib.hid (HB1.out.trans (hbx.mono HB1.out.size)); have HBl := Lib.hid (HBl.out.trans (hbx.mono HBl.out.size)); clear hbx; obtain ⟨h0, h1, h2, h3, h4, h5, h6, h7, h8, h9⟩ := HCq.out _ HZ.out
          by_cases hlx : x < e.kids.length
          rotate_left
          · go_wp2
            exact ⟨⟨i + 1, by omega, by go_num, HBl.out⟩, by simp [intOf]; omega⟩
          have hxi : (x : Int) < (e.kids.length : Int) := by omega
          obtain ⟨n, n1, n2⟩ := HK3.out x hlx; obtain ⟨b1, o1, r0, s0, r1, s1, r2, s2, rfl, hb1, hkx, d0, d1, d2, d3, d4, d5, d6, d7, d8⟩ := (HKd.out.mono (HZ.out.mono HW2.out) (Nat.le_refl _)).getE (Cells.refl _ _) hlx; have HLy := Lib.hid (HLk.out x hlx); have HKx := Lib.hid hkx; have HCk := Lib.hid (e_at9 (Nat.lt_of_lt_of_le hb1 HB.out.size) d0 d1 d2 d3 d4 d5 d6 d7 d8); clear hkx hb1 d0 d1 d2 d3 d4 d5 d6 d7 d8; obtain ⟨bi, oi, rfl, hbi, cn0⟩ := HIn.out.getAt n1; have HCn := Lib.hid (c_at hbi cn0); clear hbi cn0; have hxn : (x : Int) < (nd.ins.length : Int) := by have := HK2.out; omega
          have HN2 := Lib.hid n2; clear n1 n2; generalize e.kids[x] = y at *
          go_upto_region 29 with fail
          clear h0 h1 h2 h3 h4 h5 h6 h7 h8 h9
          go_cut [17, 18, 19] from 139 to 163 (fun s17 s18 s19 wx => ∃ pm2 cm2 pt ct, s17 = .slice pm2 m cm2 ∧ s18 = .slice pt (l.length + 1) ct ∧ s19 = .int .i64 0 ∧ IsInts wx.heap.size wx (.slice pt (l.length + 1) ct) (ns ++ [n]) ∧ Below w3.heap.size w3 wx)
          case first =>
            refine wp_region_held_drew (S := fun Y => Below w3.heap.size w3 Y) (by kernel_rfl) (Below.drew (Below.refl _ _)) (fun hHeld => ?_); have HS := Lib.hid (Below.drew (Below.refl w3.heap.size w3)); have HW3 := Lib.hid HB.out.size
            (refine htk 1 141 ?_ rfl ?_ ?_; rotate_left; (intro w hSw; clear hSw; go_simp); (try with_reducible rfl); simp only [lsz, lss])
            (refine htk 3 143 ?_ rfl ?_ ?_; rotate_left; (intro w hSw; clear hSw; go_simp); (try with_reducible rfl); simp only [lsz, lss])
            (refine htk 4 144 ?_ rfl ?_ ?_; rotate_left; (intro w hSw; clear hSw; go_simp); (try with_reducible rfl); simp only [lsz, lss])
            (refine htk 5 145 ?_ rfl ?_ ?_; rotate_left; (intro w hSw; clear hSw; go_simp); (try with_reducible rfl); simp only [lsz, lss])
            (refine htk 6 146 ?_ rfl ?_ ?_; rotate_left; (intro w hSw; clear hSw; go_simp); (try with_reducible rfl); simp only [lsz, lss])
            (refine htk 7 147 (.int .i64 ev) rfl ?_ ?_; (intro w hSw; obtain ⟨q, q0, q1, q2, q3, q4, q5, q6, q7, q8⟩ := HCq.out _ (HZ.out.trans (hSw.mono HZ.out.size)); go_simp); simp only [lsz, lss])
            (refine htk 8 148 ?_ rfl ?_ ?_; rotate_left; (intro w hSw; clear hSw; go_simp); (try with_reducible rfl); simp only [lsz, lss])
            (refine htk 9 149 ?_ rfl ?_ ?_; rotate_left; (intro w hSw; clear hSw; go_simp); (try with_reducible rfl); simp only [lsz, lss])
            (refine htk 10 150 ?_ rfl ?_ ?_; rotate_left; (intro w hSw; clear hSw; go_simp); (try with_reducible rfl); simp only [lsz, lss])
            (refine htk 11 151 ?_ rfl ?_ ?_; rotate_left; (intro w hSw; clear hSw; go_simp); (try with_reducible rfl); simp only [lsz, lss])
            (refine htk 12 152 ?_ rfl ?_ ?_; rotate_left; (intro w hSw; clear hSw; go_simp); (try with_reducible rfl); simp only [lsz, lss])
            (refine htk 13 153 (.slice (some ⟨b1, o1, none⟩) e.kids.length sk) rfl ?_ ?_; (intro w hSw; obtain ⟨q, q0, q1, q2, q3, q4, q5, q6, q7, q8⟩ := HCq.out _ (HZ.out.trans (hSw.mono HZ.out.size)); go_simp); simp only [lsz, lss])
            (refine htk 14 154 ?_ rfl ?_ ?_; rotate_left; (intro w hSw; clear hSw; go_simp); (try with_reducible rfl); simp only [lsz, lss])
            (refine htk 15 155 ?_ rfl ?_ ?_; rotate_left; (intro w hSw; clear hSw; go_simp); (try with_reducible rfl); simp only [lsz, lss])
            (refine htk 16 156 (.agg #[.int .i64 y.kind, .int .i64 y.fn, .int .i64 y.op, .int .i64 y.num, .string y.metric, .slice r0 y.mats.length s0, .int .i64 y.span, .slice r1 y.names.length s1, .slice r2 y.kids.length s2]) rfl ?_ ?_; (intro w hSw; obtain ⟨q0, q1, q2, q3, q4, q5, q6, q7, q8⟩ := HCk.out _ hSw; go_simp); simp only [lsz, lss])
            (refine htk 17 157 ?_ rfl ?_ ?_; rotate_left; (intro w hSw; clear hSw; go_simp); (try with_reducible rfl); simp only [lsz, lss])
            obtain ⟨z0, hz0⟩ : ∃ z, w3.drew = z := ⟨_, rfl⟩; rw [hz0] at HS ⊢; clear hz0; refine wpAnyH_ready (rs := [0, 18]) (by kernel_rfl) (by simp) (.cons rfl (fun K hK => ?_) (.cons rfl (fun K hK => ?_) (.nil)))
            · skip
              rw [if_pos (by kernel_rfl)]
              go_simp
              have hb := (Below.refl z0.heap.size z0).alloc (Nat.le_refl _) (.cells #[] 42); have HE := Lib.hid ((OwnQ.empty W.heap.size z0).base HS.out.size); have HGe := Lib.hid (show z0.heap.size < (z0.alloc (.cells #[] 42)).heap.size from by simp); have HS := Lib.hid (HS.out.trans (hb.mono HS.out.size)); clear hb; obtain ⟨y101, hz⟩ : ∃ z, z0.alloc (.cells #[] 42) = z := ⟨_, rfl⟩; rw [hz] at HE HS HGe ⊢; clear hz; refine hK.out _ _ HS.out (fun hHeld => ?_); clear hK K
              (try simp only [Act.put, lsa, lsz, lss])
              refine wpAnyH_ready (rs := [2, 18]) (by kernel_rfl) (by simp) (.cons rfl (fun K hK => ?_) (.cons rfl (fun K hK => ?_) (.nil)))
              · skip
                rw [if_pos (by kernel_rfl)]; obtain ⟨rows, hsrc, hrl, hrows⟩ := (HX.out.mono (HB.out.trans (HS.out.mono HB.out.size)) (Nat.le_refl _)).src nilv; refine wp_app_qs _ _ rfl W.heap.size w3.heap.size _ _ [] l rows rfl rfl HE.out hsrc hrl hrows (by simp; omega) HS.out.size HW3.out ?_; intro v1 y102 hown hg hbel; have HL : Hid (OwnQ W.heap.size w3.heap.size y102 v1 l) := Lib.hid hown; have HS := Lib.hid (HS.out.trans hbel); clear hown hg hbel hsrc hrl hrows HE; refine hK.out _ _ HS.out (fun hHeld => ?_); clear hK K
                (try simp only [Act.put, lsa, lsz, lss])
                refine wpAnyH_ready (rs := [18]) (by kernel_rfl) (by simp) (.cons rfl (fun K hK => ?_) (.nil)); rw [if_pos (by kernel_rfl)]
                go_simp
                have hb := (Below.refl y102.heap.size y102).alloc (Nat.le_refl _) (.cells #[.int .i64 ev, .int .i64 y.kind, .int .i64 y.fn, .int .i64 y.op, .int .i64 y.num, .string y.metric, .slice r0 y.mats.length s0, .int .i64 y.span, .slice r1 y.names.length s1, .slice r2 y.kids.length s2] 42); have HNw := Lib.hid (Blk.new y102 [.int .i64 ev, .int .i64 y.kind, .int .i64 y.fn, .int .i64 y.op, .int .i64 y.num, .string y.metric, .slice r0 y.mats.length s0, .int .i64 y.span, .slice r1 y.names.length s1, .slice r2 y.kids.length s2] 42); have HL := Lib.hid (HL.out.keep (Nat.le_trans HW3.out HS.out.size) hb); have HS := Lib.hid (HS.out.trans (hb.mono HS.out.size)); clear hb; obtain ⟨y103, hz⟩ : ∃ z, y102.alloc (.cells #[.int .i64 ev, .int .i64 y.kind, .int .i64 y.fn, .int .i64 y.op, .int .i64 y.num, .string y.metric, .slice r0 y.mats.length s0, .int .i64 y.span, .slice r1 y.names.length s1, .slice r2 y.kids.length s2] 42) = z := ⟨_, rfl⟩; rw [show y102.alloc (.cells ([.int .i64 ev, .int .i64 y.kind, .int .i64 y.fn, .int .i64 y.op, .int .i64 y.num, .string y.metric, .slice r0 y.mats.length s0, .int .i64 y.span, .slice r1 y.names.length s1, .slice r2 y.kids.length s2] : List Value).toArray 42) = y103 from hz] at HNw; rw [hz] at HS HL ⊢; clear hz; refine hK.out _ _ HS.out (fun hHeld => ?_); clear hK K
                (try simp only [Act.put, lsa, lsz, lss])
                refine wpAnyH_ready (rs := [19]) (by kernel_rfl) (by simp) (.cons rfl (fun K hK => ?_) (.nil)); rw [if_pos (by kernel_rfl)]; refine wp_app_qs _ _ rfl W.heap.size w3.heap.size _ _ l [(ev, y)] [[.int .i64 ev, .int .i64 y.kind, .int .i64 y.fn, .int .i64 y.op, .int .i64 y.num, .string y.metric, .slice r0 y.mats.length s0, .int .i64 y.span, .slice r1 y.names.length s1, .slice r2 y.kids.length s2]] rfl rfl HL.out (Src.blk (m := 1) HNw.out rfl) rfl (fun k r q hr hq => by
                  match k, hr, hq with
                  | 0, hr, hq => simp only [List.getElem?_cons_zero, Option.some.injEq] at hr hq; subst hr hq; exact ⟨_, rfl, HKx.out.mono (HS.out.mono HW3.out) (Nat.le_refl _)⟩
                  | k + 1, hr, hq => simp at hr) (by simp; omega) HS.out.size HW3.out ?_
                intro v2 y104 hown hg hbel; have HS := Lib.hid (HS.out.trans hbel); have HB5 := HB.out.trans (HS.out.mono HB.out.size); have hLq : Lq [(ev, y)] := ⟨fun q hq => by simp at hq; subst hq; exact ⟨HLy.out.1, HLy.out.2.1⟩, fun q hq => by simp at hq; subst hq; exact HLy.out.2.2.1, fun q hq => by simp at hq; subst hq; exact HLy.out.2.2.2⟩; have HO := Lib.hid (pOf (l ++ [(ev, y)]) v2 y104.heap.size y104 (Nat.le_refl _) (hown.qs (Nat.le_refl _) HB5.size) ((HT.out.on HB5).less HB5.size) (HLq.out.app hLq) ((HLq.out.app hLq).room (by simp; omega)) (by simp; omega)); rw [HN2.out] at HO; clear hown hg hbel HB5 hLq HL HNw; refine hK.out _ _ HS.out (fun hHeld => ?_); clear hK K
                (try simp only [Act.put, lsa, lsz, lss])
                refine wpAnyH_ready (rs := [20]) (by kernel_rfl) (by simp) (.cons rfl (fun K hK => ?_) (.nil)); rw [if_pos (by kernel_rfl)]
                go_simp
                refine HO.out.mono ?_; rintro e' y105 ⟨vm, vt, rfl, hm2, ht2, hb⟩; obtain ⟨pm2, cm2, hv, -, -, -⟩ := hm2.open; rw [HM.out] at hv; subst hv; have ht3 := ht2.ints (Nat.le_refl _); obtain ⟨pt, ct, hv, -, -, -⟩ := ht3.open; rw [List.length_append, HF.out.len, List.length_singleton] at hv; subst hv; have HT3 := Lib.hid ht3; clear hm2 ht2 ht3 HO; have HS := Lib.hid (HS.out.trans (hb.mono HS.out.size)); clear hb
                dsimp only
                refine hK.out _ _ HS.out (fun hHeld => ?_); clear hK K
                (try simp only [Act.put, lsa, lsz, lss])
                (refine htk 21 139 ?_ rfl ?_ ?_; rotate_left; (intro w hSw; clear hSw; go_simp); (try with_reducible rfl); simp only [lsz, lss])
                (refine htk 22 161 ?_ rfl ?_ ?_; rotate_left; (intro w hSw; clear hSw; go_simp); (try with_reducible rfl); simp only [lsz, lss])
                (refine htk 23 162 ?_ rfl ?_ ?_; rotate_left; (intro w hSw; clear hSw; go_simp); (try with_reducible rfl); simp only [lsz, lss])
                (refine htk 24 163 ?_ rfl ?_ ?_; rotate_left; (intro w hSw; clear hSw; go_simp); (try with_reducible rfl); simp only [lsz, lss])
                (refine htk 25 17 ?_ rfl ?_ ?_; rotate_left; (intro w hSw; clear hSw; go_simp); (try with_reducible rfl); simp only [lsz, lss])
                (refine htk 26 18 ?_ rfl ?_ ?_; rotate_left; (intro w hSw; clear hSw; go_simp); (try with_reducible rfl); simp only [lsz, lss])
                (refine htk 27 19 ?_ rfl ?_ ?_; rotate_left; (intro w hSw; clear hSw; go_simp); (try with_reducible rfl); simp only [lsz, lss])
                refine wpAnyH_done (by kernel_rfl) ?_ _; go_wp2
                go_meet
                exact ⟨_, _, _, _, rfl, rfl, rfl, HT3.out, HS.out⟩
              · skip
                rw [if_pos (by kernel_rfl)]
                go_simp
                have hb := (Below.refl y101.heap.size y101).alloc (Nat.le_refl _) (.cells #[.int .i64 ev, .int .i64 y.kind, .int .i64 y.fn, .int .i64 y.op, .int .i64 y.num, .string y.metric, .slice r0 y.mats.length s0, .int .i64 y.span, .slice r1 y.names.length s1, .slice r2 y.kids.length s2] 42); have HNw := Lib.hid (Blk.new y101 [.int .i64 ev, .int .i64 y.kind, .int .i64 y.fn, .int .i64 y.op, .int .i64 y.num, .string y.metric, .slice r0 y.mats.length s0, .int .i64 y.span, .slice r1 y.names.length s1, .slice r2 y.kids.length s2] 42); have HE := Lib.hid (HE.out.keep (Nat.le_trans HW3.out HS.out.size) hb); have HS := Lib.hid (HS.out.trans (hb.mono HS.out.size)); clear hb; obtain ⟨y106, hz⟩ : ∃ z, y101.alloc (.cells #[.int .i64 ev, .int .i64 y.kind, .int .i64 y.fn, .int .i64 y.op, .int .i64 y.num, .string y.metric, .slice r0 y.mats.length s0, .int .i64 y.span, .slice r1 y.names.length s1, .slice r2 y.kids.length s2] 42) = z := ⟨_, rfl⟩; rw [show y101.alloc (.cells ([.int .i64 ev, .int .i64 y.kind, .int .i64 y.fn, .int .i64 y.op, .int .i64 y.num, .string y.metric, .slice r0 y.mats.length s0, .int .i64 y.span, .slice r1 y.names.length s1, .slice r2 y.kids.length s2] : List Value).toArray 42) = y106 from hz] at HNw; rw [hz] at HS HE ⊢; clear hz; refine hK.out _ _ HS.out (fun hHeld => ?_); clear hK K
                (try simp only [Act.put, lsa, lsz, lss])
                refine wpAnyH_ready (rs := [2]) (by kernel_rfl) (by simp) (.cons rfl (fun K hK => ?_) (.nil)); have HLt := Lib.hid (show z0.heap.size < y101.heap.size from HGe.out); rw [if_pos (by kernel_rfl)]; obtain ⟨rows, hsrc, hrl, hrows⟩ := (HX.out.mono (HB.out.trans (HS.out.mono HB.out.size)) (Nat.le_refl _)).src nilv; refine wp_app_qs _ _ rfl W.heap.size w3.heap.size _ _ [] l rows rfl rfl HE.out hsrc hrl hrows (by simp; omega) HS.out.size HW3.out ?_; intro v1 y107 hown hg hbel; have HL : Hid (OwnQ W.heap.size w3.heap.size y107 v1 l) := Lib.hid hown; have hne : y101.heap.size ≠ z0.heap.size := by have h1 := HGe.out; have h2 := HNw.out.lt; have h3 := HLt.out; omega
                have HNw := Lib.hid ((hg.block _ HNw.out.lt (fun e => hne (Option.some.inj e))).trans HNw.out); have HS := Lib.hid (HS.out.trans hbel); clear hown hg hbel hsrc hrl hrows HE; refine hK.out _ _ HS.out (fun hHeld => ?_); clear hK K
                (try simp only [Act.put, lsa, lsz, lss])
                refine wpAnyH_ready (rs := [19]) (by kernel_rfl) (by simp) (.cons rfl (fun K hK => ?_) (.nil)); rw [if_pos (by kernel_rfl)]; refine wp_app_qs _ _ rfl W.heap.size w3.heap.size _ _ l [(ev, y)] [[.int .i64 ev, .int .i64 y.kind, .int .i64 y.fn, .int .i64 y.op, .int .i64 y.num, .string y.metric, .slice r0 y.mats.length s0, .int .i64 y.span, .slice r1 y.names.length s1, .slice r2 y.kids.length s2]] rfl rfl HL.out (Src.blk (m := 1) HNw.out rfl) rfl (fun k r q hr hq => by
                  match k, hr, hq with
                  | 0, hr, hq => simp only [List.getElem?_cons_zero, Option.some.injEq] at hr hq; subst hr hq; exact ⟨_, rfl, HKx.out.mono (HS.out.mono HW3.out) (Nat.le_refl _)⟩
                  | k + 1, hr, hq => simp at hr) (by simp; omega) HS.out.size HW3.out ?_
                intro v2 y108 hown hg hbel; have HS := Lib.hid (HS.out.trans hbel); have HB5 := HB.out.trans (HS.out.mono HB.out.size); have hLq : Lq [(ev, y)] := ⟨fun q hq => by simp at hq; subst hq; exact ⟨HLy.out.1, HLy.out.2.1⟩, fun q hq => by simp at hq; subst hq; exact HLy.out.2.2.1, fun q hq => by simp at hq; subst hq; exact HLy.out.2.2.2⟩; have HO := Lib.hid (pOf (l ++ [(ev, y)]) v2 y108.heap.size y108 (Nat.le_refl _) (hown.qs (Nat.le_refl _) HB5.size) ((HT.out.on HB5).less HB5.size) (HLq.out.app hLq) ((HLq.out.app hLq).room (by simp; omega)) (by simp; omega)); rw [HN2.out] at HO; clear hown hg hbel HB5 hLq HL HNw; refine hK.out _ _ HS.out (fun hHeld => ?_); clear hK K
                (try simp only [Act.put, lsa, lsz, lss])
                refine wpAnyH_ready (rs := [20]) (by kernel_rfl) (by simp) (.cons rfl (fun K hK => ?_) (.nil)); rw [if_pos (by kernel_rfl)]
                go_simp
                refine HO.out.mono ?_; rintro e' y109 ⟨vm, vt, rfl, hm2, ht2, hb⟩; obtain ⟨pm2, cm2, hv, -, -, -⟩ := hm2.open; rw [HM.out] at hv; subst hv; have ht3 := ht2.ints (Nat.le_refl _); obtain ⟨pt, ct, hv, -, -, -⟩ := ht3.open; rw [List.length_append, HF.out.len, List.length_singleton] at hv; subst hv; have HT3 := Lib.hid ht3; clear hm2 ht2 ht3 HO; have HS := Lib.hid (HS.out.trans (hb.mono HS.out.size)); clear hb
                dsimp only
                refine hK.out _ _ HS.out (fun hHeld => ?_); clear hK K
                (try simp only [Act.put, lsa, lsz, lss])
                (refine htk 21 139 ?_ rfl ?_ ?_; rotate_left; (intro w hSw; clear hSw; go_simp); (try with_reducible rfl); simp only [lsz, lss])
                (refine htk 22 161 ?_ rfl ?_ ?_; rotate_left; (intro w hSw; clear hSw; go_simp); (try with_reducible rfl); simp only [lsz, lss])
                (refine htk 23 162 ?_ rfl ?_ ?_; rotate_left; (intro w hSw; clear hSw; go_simp); (try with_reducible rfl); simp only [lsz, lss])
                (refine htk 24 163 ?_ rfl ?_ ?_; rotate_left; (intro w hSw; clear hSw; go_simp); (try with_reducible rfl); simp only [lsz, lss])
                (refine htk 25 17 ?_ rfl ?_ ?_; rotate_left; (intro w hSw; clear hSw; go_simp); (try with_reducible rfl); simp only [lsz, lss])
                (refine htk 26 18 ?_ rfl ?_ ?_; rotate_left; (intro w hSw; clear hSw; go_simp); (try with_reducible rfl); simp only [lsz, lss])
                (refine htk 27 19 ?_ rfl ?_ ?_; rotate_left; (intro w hSw; clear hSw; go_simp); (try with_reducible rfl); simp only [lsz, lss])
                refine wpAnyH_done (by kernel_rfl) ?_ _; go_wp2
                go_meet
                exact ⟨_, _, _, _, rfl, rfl, rfl, HT3.out, HS.out⟩
            · skip
              rw [if_pos (by kernel_rfl)]
              go_simp
              have hb := (Below.refl z0.heap.size z0).alloc (Nat.le_refl _) (.cells #[.int .i64 ev, .int .i64 y.kind, .int .i64 y.fn, .int .i64 y.op, .int .i64 y.num, .string y.metric, .slice r0 y.mats.length s0, .int .i64 y.span, .slice r1 y.names.length s1, .slice r2 y.kids.length s2] 42); have HNw := Lib.hid (Blk.new z0 [.int .i64 ev, .int .i64 y.kind, .int .i64 y.fn, .int .i64 y.op, .int .i64 y.num, .string y.metric, .slice r0 y.mats.length s0, .int .i64 y.span, .slice r1 y.names.length s1, .slice r2 y.kids.length s2] 42); have HS := Lib.hid (HS.out.trans (hb.mono HS.out.size)); clear hb; obtain ⟨y110, hz⟩ : ∃ z, z0.alloc (.cells #[.int .i64 ev, .int .i64 y.kind, .int .i64 y.fn, .int .i64 y.op, .int .i64 y.num, .string y.metric, .slice r0 y.mats.length s0, .int .i64 y.span, .slice r1 y.names.length s1, .slice r2 y.kids.length s2] 42) = z := ⟨_, rfl⟩; rw [show z0.alloc (.cells ([.int .i64 ev, .int .i64 y.kind, .int .i64 y.fn, .int .i64 y.op, .int .i64 y.num, .string y.metric, .slice r0 y.mats.length s0, .int .i64 y.span, .slice r1 y.names.length s1, .slice r2 y.kids.length s2] : List Value).toArray 42) = y110 from hz] at HNw; rw [hz] at HS ⊢; clear hz; refine hK.out _ _ HS.out (fun hHeld => ?_); clear hK K
              (try simp only [Act.put, lsa, lsz, lss])
              refine wpAnyH_ready (rs := [0]) (by kernel_rfl) (by simp) (.cons rfl (fun K hK => ?_) (.nil)); have HLt := Lib.hid (show z0.heap.size < y110.heap.size from HNw.out.lt); rw [if_pos (by kernel_rfl)]
              go_simp
              have hb := (Below.refl y110.heap.size y110).alloc (Nat.le_refl _) (.cells #[] 42); have HE := Lib.hid ((OwnQ.empty W.heap.size y110).base HS.out.size); have HGe := Lib.hid (show y110.heap.size < (y110.alloc (.cells #[] 42)).heap.size from by simp); have HNw := Lib.hid (HNw.out.keep hb); have HS := Lib.hid (HS.out.trans (hb.mono HS.out.size)); clear hb; obtain ⟨y111, hz⟩ : ∃ z, y110.alloc (.cells #[] 42) = z := ⟨_, rfl⟩; rw [hz] at HE HS HGe HNw ⊢; clear hz; refine hK.out _ _ HS.out (fun hHeld => ?_); clear hK K
              (try simp only [Act.put, lsa, lsz, lss])
              refine wpAnyH_ready (rs := [2]) (by kernel_rfl) (by simp) (.cons rfl (fun K hK => ?_) (.nil)); rw [if_pos (by kernel_rfl)]; obtain ⟨rows, hsrc, hrl, hrows⟩ := (HX.out.mono (HB.out.trans (HS.out.mono HB.out.size)) (Nat.le_refl _)).src nilv; refine wp_app_qs _ _ rfl W.heap.size w3.heap.size _ _ [] l rows rfl rfl HE.out hsrc hrl hrows (by simp; omega) HS.out.size HW3.out ?_; intro v1 y112 hown hg hbel; have HL : Hid (OwnQ W.heap.size w3.heap.size y112 v1 l) := Lib.hid hown; have hne : z0.heap.size ≠ y110.heap.size := by have h1 := HGe.out; have h2 := HNw.out.lt; have h3 := HLt.out; omega
              have HNw := Lib.hid ((hg.block _ HNw.out.lt (fun e => hne (Option.some.inj e))).trans HNw.out); have HS := Lib.hid (HS.out.trans hbel); clear hown hg hbel hsrc hrl hrows HE; refine hK.out _ _ HS.out (fun hHeld => ?_); clear hK K
              (try simp only [Act.put, lsa, lsz, lss])
              refine wpAnyH_ready (rs := [19]) (by kernel_rfl) (by simp) (.cons rfl (fun K hK => ?_) (.nil)); rw [if_pos (by kernel_rfl)]; refine wp_app_qs _ _ rfl W.heap.size w3.heap.size _ _ l [(ev, y)] [[.int .i64 ev, .int .i64 y.kind, .int .i64 y.fn, .int .i64 y.op, .int .i64 y.num, .string y.metric, .slice r0 y.mats.length s0, .int .i64 y.span, .slice r1 y.names.length s1, .slice r2 y.kids.length s2]] rfl rfl HL.out (Src.blk (m := 1) HNw.out rfl) rfl (fun k r q hr hq => by
                match k, hr, hq with
                | 0, hr, hq => simp only [List.getElem?_cons_zero, Option.some.injEq] at hr hq; subst hr hq; exact ⟨_, rfl, HKx.out.mono (HS.out.mono HW3.out) (Nat.le_refl _)⟩
                | k + 1, hr, hq => simp at hr) (by simp; omega) HS.out.size HW3.out ?_
              intro v2 y113 hown hg hbel; have HS := Lib.hid (HS.out.trans hbel); have HB5 := HB.out.trans (HS.out.mono HB.out.size); have hLq : Lq [(ev, y)] := ⟨fun q hq => by simp at hq; subst hq; exact ⟨HLy.out.1, HLy.out.2.1⟩, fun q hq => by simp at hq; subst hq; exact HLy.out.2.2.1, fun q hq => by simp at hq; subst hq; exact HLy.out.2.2.2⟩; have HO := Lib.hid (pOf (l ++ [(ev, y)]) v2 y113.heap.size y113 (Nat.le_refl _) (hown.qs (Nat.le_refl _) HB5.size) ((HT.out.on HB5).less HB5.size) (HLq.out.app hLq) ((HLq.out.app hLq).room (by simp; omega)) (by simp; omega)); rw [HN2.out] at HO; clear hown hg hbel HB5 hLq HL HNw; refine hK.out _ _ HS.out (fun hHeld => ?_); clear hK K
              (try simp only [Act.put, lsa, lsz, lss])
              refine wpAnyH_ready (rs := [20]) (by kernel_rfl) (by simp) (.cons rfl (fun K hK => ?_) (.nil)); rw [if_pos (by kernel_rfl)]
              go_simp
              refine HO.out.mono ?_; rintro e' y114 ⟨vm, vt, rfl, hm2, ht2, hb⟩; obtain ⟨pm2, cm2, hv, -, -, -⟩ := hm2.open; rw [HM.out] at hv; subst hv; have ht3 := ht2.ints (Nat.le_refl _); obtain ⟨pt, ct, hv, -, -, -⟩ := ht3.open; rw [List.length_append, HF.out.len, List.length_singleton] at hv; subst hv; have HT3 := Lib.hid ht3; clear hm2 ht2 ht3 HO; have HS := Lib.hid (HS.out.trans (hb.mono HS.out.size)); clear hb
              dsimp only
              refine hK.out _ _ HS.out (fun hHeld => ?_); clear hK K
              (try simp only [Act.put, lsa, lsz, lss])
              (refine htk 21 139 ?_ rfl ?_ ?_; rotate_left; (intro w hSw; clear hSw; go_simp); (try with_reducible rfl); simp only [lsz, lss])
              (refine htk 22 161 ?_ rfl ?_ ?_; rotate_left; (intro w hSw; clear hSw; go_simp); (try with_reducible rfl); simp only [lsz, lss])
              (refine htk 23 162 ?_ rfl ?_ ?_; rotate_left; (intro w hSw; clear hSw; go_simp); (try with_reducible rfl); simp only [lsz, lss])
              (refine htk 24 163 ?_ rfl ?_ ?_; rotate_left; (intro w hSw; clear hSw; go_simp); (try with_reducible rfl); simp only [lsz, lss])
              (refine htk 25 17 ?_ rfl ?_ ?_; rotate_left; (intro w hSw; clear hSw; go_simp); (try with_reducible rfl); simp only [lsz, lss])
              (refine htk 26 18 ?_ rfl ?_ ?_; rotate_left; (intro w hSw; clear hSw; go_simp); (try with_reducible rfl); simp only [lsz, lss])
              (refine htk 27 19 ?_ rfl ?_ ?_; rotate_left; (intro w hSw; clear hSw; go_simp); (try with_reducible rfl); simp only [lsz, lss])
              refine wpAnyH_done (by kernel_rfl) ?_ _; go_wp2
              go_meet
              exact ⟨_, _, _, _, rfl, rfl, rfl, HT3.out, HS.out⟩
          case rest =>
            obtain ⟨pm2, cm2, pt, ct, rfl, rfl, rfl, ht3, hb⟩ := hcut; obtain ⟨w9, rfl⟩ : ∃ z, z = wc := ⟨_, rfl⟩; have HB := Lib.hid (HB.out.trans (hb.mono HB.out.size)); have HB1 := Lib.hid (HB1.out.trans (hb.mono HB1.out.size)); have HBl := Lib.hid (HBl.out.trans (hb.mono HBl.out.size)); have HZ := Lib.hid (HZ.out.trans (hb.mono HZ.out.size)); clear hb; obtain ⟨bt, ot, rfl, hbt, ct0⟩ := ht3.getAt (k := l.length) (x := n) (by rw [List.getElem?_append_right (by rw [HF.out.len]; exact Nat.le_refl _), HF.out.len]; simp); have HCt := Lib.hid (c_at hbt ct0); clear hbt ct0 ht3; have hll : (l.length : Int) < (l.length : Int) + 1 := by omega
            clear HKx HCk HLy HN2
            go_upto_region 30 with fail
            refine wp_region_held_drew (S := fun Y => Below w9.heap.size w9 Y) (by kernel_rfl) (Below.drew (Below.refl _ _)) (fun hHeld => ?_); have HS := Lib.hid (Below.drew (Below.refl w9.heap.size w9))
            (refine htk 0 164 ?_ rfl ?_ ?_; rotate_left; (intro w hSw; clear hSw; go_simp); (try with_reducible rfl); simp only [lsz, lss])
            (refine htk 1 165 (.bool false) rfl ?_ ?_; (intro w hSw; clear hSw; first | rfl | go_simp); simp only [lsz, lss])
            (refine htk 2 166 (.bool false) rfl ?_ ?_; (intro w hSw; clear hSw; first | rfl | go_simp); simp only [lsz, lss])
            (refine htk 3 167 ?_ rfl ?_ ?_; rotate_left; (intro w hSw; clear hSw; go_simp); (try with_reducible rfl); simp only [lsz, lss])
            (refine htk 4 168 ?_ rfl ?_ ?_; rotate_left; (intro w hSw; clear hSw; go_simp); (try with_reducible rfl); simp only [lsz, lss])
            (refine htk 5 169 ?_ rfl ?_ ?_; rotate_left; (intro w hSw; clear hSw; go_simp); (try with_reducible rfl); simp only [lsz, lss])
            (refine htk 6 170 ?_ rfl ?_ ?_; rotate_left; (intro w hSw; clear hSw; go_simp); (try with_reducible rfl); simp only [lsz, lss])
            (refine htk 7 171 (.bool false) rfl ?_ ?_; (intro w hSw; clear hSw; first | rfl | go_simp); simp only [lsz, lss])
            (refine htk 8 172 (.bool false) rfl ?_ ?_; (intro w hSw; clear hSw; first | rfl | go_simp); simp only [lsz, lss])
            (refine htk 9 173 (.bool false) rfl ?_ ?_; (intro w hSw; clear hSw; first | rfl | go_simp); simp only [lsz, lss])
            (refine htk 10 174 ?_ rfl ?_ ?_; rotate_left; (intro w hSw; clear hSw; go_simp); (try with_reducible rfl); simp only [lsz, lss])
            (refine htk 11 175 ?_ rfl ?_ ?_; rotate_left; (intro w hSw; clear hSw; go_simp); (try with_reducible rfl); simp only [lsz, lss])
            (refine htk 12 176 ?_ rfl ?_ ?_; rotate_left; (intro w hSw; clear hSw; go_simp); (try with_reducible rfl); simp only [lsz, lss])
            (refine htk 13 177 ?_ rfl ?_ ?_; rotate_left; (intro w hSw; clear hSw; go_simp); (try with_reducible rfl); simp only [lsz, lss])
            (refine htk 14 178 (.int .i64 ((mm : Int) + 1)) rfl ?_ ?_; (intro w hSw; have q := HCr.out _ (HB1.out.trans (hSw.mono HB1.out.size)); go_simp); simp only [lsz, lss])
            (refine htk 15 179 (.int .i64 (mm : Int)) rfl ?_ ?_; (intro w hSw; clear hSw; go_simp; first | exact IntWalk.i64_in _ (by omega) | (simp; omega) | skip); simp only [lsz, lss])
            (refine htk 16 180 ?_ rfl ?_ ?_; rotate_left; (intro w hSw; clear hSw; go_simp); (try with_reducible rfl); simp only [lsz, lss])
            (refine htk 17 181 ?_ rfl ?_ ?_; rotate_left; (intro w hSw; clear hSw; go_simp); (try with_reducible rfl); simp only [lsz, lss])
            (refine htk 18 182 (.slice (some ⟨bi, oi, none⟩) nd.ins.length ci) rfl ?_ ?_; (intro w hSw; have q := HCi.out _ (HB1.out.trans (hSw.mono HB1.out.size)); go_simp); simp only [lsz, lss])
            (refine htk 19 183 ?_ rfl ?_ ?_; rotate_left; (intro w hSw; clear hSw; go_simp); (try with_reducible rfl); simp only [lsz, lss])
            (refine htk 20 184 ?_ rfl ?_ ?_; rotate_left; (intro w hSw; clear hSw; go_simp); (try with_reducible rfl); simp only [lsz, lss])
            (refine htk 21 185 (.int .i64 n) rfl ?_ ?_; (intro w hSw; have q := HCn.out _ (HB1.out.trans (hSw.mono HB1.out.size)); go_simp); simp only [lsz, lss])
            (refine htk 22 186 ?_ rfl ?_ ?_; rotate_left; (intro w hSw; clear hSw; go_simp); (try with_reducible rfl); simp only [lsz, lss])
            (refine htk 23 187 ?_ rfl ?_ ?_; rotate_left; (intro w hSw; clear hSw; go_simp); (try with_reducible rfl); simp only [lsz, lss])
            (refine htk 24 188 ?_ rfl ?_ ?_; rotate_left; (intro w hSw; clear hSw; go_simp); (try with_reducible rfl); simp only [lsz, lss])
            (refine htk 25 189 ?_ rfl ?_ ?_; rotate_left; (intro w hSw; clear hSw; go_simp); (try with_reducible rfl); simp only [lsz, lss])
            (refine htk 26 190 (.int .i64 n) rfl ?_ ?_; (intro w hSw; have q := HCt.out _ hSw; go_simp); simp only [lsz, lss])
            (refine htk 27 191 (.bool false) rfl ?_ ?_; (intro w hSw; clear hSw; first | rfl | go_simp); simp only [lsz, lss])
            (refine htk 28 192 (.bool false) rfl ?_ ?_; (intro w hSw; clear hSw; first | rfl | go_simp); simp only [lsz, lss])
            refine wpAnyH_done (by kernel_rfl) ?_ _; go_wp2; exact ⟨⟨x + 1, by omega, by go_num, HZ.out.trans (HS.out.mono HZ.out.size)⟩, by simp [intOf]; omega⟩
    have hki : (i : Int) < (m : Int) := by omega
    have hip : i < p.length := by have := HM.out; omega
    go_wp2_with fail
    refine (pOut p ((i : Int) + 1) _ y4.heap.size w0 HB1.out.size (HP.out.mono HB1.out (Nat.le_refl _))).mono ?_; rintro e' y9 ⟨vo, rfl, ho, hb⟩; have HB := Lib.hid (HB.out.trans (hb.mono HB.out.size)); have HB1 := Lib.hid (HB1.out.trans (hb.mono HB1.out.size)); have HBl := Lib.hid (HBl.out.trans (hb.mono HBl.out.size)); clear hb; have HAh := Lib.hid (out_ahead HF.out.check ((i : Int) + 1)); obtain ⟨o, ho2⟩ : ∃ z, ndOut p ((i : Int) + 1) = z := ⟨_, rfl⟩; rw [ho2] at ho HAh; have hoi := ho.ints (Nat.le_refl _); obtain ⟨po, co, hv, -, hco, hol⟩ := hoi.open; subst hv; unfold maxLen at hco hol; have HO := Lib.hid hoi; clear ho ho2 hoi; obtain ⟨bp, op, pm, cm, pn, cn, pk, ck, pi, ci, hpp, hbp, -, -, hcp2⟩ := HP.out.get hip; subst hpp; have HCp := Lib.hid (fun Z (hZ : Below y4.heap.size y4 Z) => nd_at9 hZ hbp hcp2); have HLf := Lib.hid (leaf_ins HF.out.check hip); clear hbp hcp2; generalize p[i] = nd at *
    go_wp2_with fail
    go_loopw [14] (fun j wr => ∃ x : Nat, x ≤ o.length ∧ j = .int .i64 x ∧ y9 = wr) (fun j _ => o.length - (intOf j).toNat)
    case atStart => exact ⟨0, Nat.zero_le _, rfl, rfl⟩
    case round =>
      obtain ⟨x, hx, rfl, rfl⟩ := hrel
      by_cases hlx : x < o.length
      · have hxi : (x : Int) < (o.length : Int) := by omega
        obtain ⟨bo, oo, rfl, hbo, co0⟩ := HO.out.get hlx; have hah := HAh.out o[x] (List.getElem_mem hlx); generalize o[x] = ov at *; have hah2 : ¬ ov ≤ (i : Int) + 1 := by omega
        clear hah; go_wp2; exact ⟨⟨x + 1, by omega, by go_num, by first | rfl | trivial⟩, by simp [intOf]; omega⟩
      · have hx2 : x = o.length := by omega
        subst hx2; clear HO HAh
        go_upto_region 21 with fail
        rcases Classical.em (nd.ex.kind = 1) with hk1 | hk1
        · have hi0 : nd.ins.length = 0 := HLf.out.1 hk1
          refine wp_region_held_drew (S := fun Y => Below y9.heap.size y9 Y) (by kernel_rfl) (Below.drew (Below.refl _ _)) (fun hHeld => ?_); have HS := Lib.hid (Below.drew (Below.refl y9.heap.size y9))
          (refine htk 0 107 ?_ rfl ?_ ?_; rotate_left; (intro w hSw; clear hSw; go_simp); (try with_reducible rfl); simp only [lsz, lss])
          (refine htk 1 108 ?_ rfl ?_ ?_; rotate_left; (intro w hSw; clear hSw; go_simp); (try with_reducible rfl); simp only [lsz, lss])
          (refine htk 2 109 ?_ rfl ?_ ?_; rotate_left; (intro w hSw; clear hSw; go_simp); (try with_reducible rfl); simp only [lsz, lss])
          (refine htk 3 110 ?_ rfl ?_ ?_; rotate_left; (intro w hSw; clear hSw; go_simp); (try with_reducible rfl); simp only [lsz, lss])
          (refine htk 4 111 ?_ rfl ?_ ?_; rotate_left; (intro w hSw; clear hSw; go_simp); (try with_reducible rfl); simp only [lsz, lss])
          (refine htk 5 112 (.int .i64 1) rfl ?_ ?_; (intro w hSw; obtain ⟨q, q0, q1, q2, q3, q4, q5, q6, q7, q8, q10⟩ := HCp.out _ (HB1.out.trans (hSw.mono HB1.out.size)); rw [hk1] at q0; go_simp); simp only [lsz, lss])
          (refine htk 6 113 (.bool true) rfl ?_ ?_; (intro w hSw; clear hSw; first | rfl | go_simp); simp only [lsz, lss])
          (refine htk 7 114 ?_ rfl ?_ ?_; rotate_left; (intro w hSw; clear hSw; go_simp); (try with_reducible rfl); simp only [lsz, lss])
          (refine htk 8 115 ?_ rfl ?_ ?_; rotate_left; (intro w hSw; clear hSw; go_simp); (try with_reducible rfl); simp only [lsz, lss])
          (refine htk 9 116 ?_ rfl ?_ ?_; rotate_left; (intro w hSw; clear hSw; go_simp); (try with_reducible rfl); simp only [lsz, lss])
          (refine htk 10 117 ?_ rfl ?_ ?_; rotate_left; (intro w hSw; clear hSw; go_simp); (try with_reducible rfl); simp only [lsz, lss])
          (refine htk 11 118 (.slice pi 0 ci) rfl ?_ ?_; (intro w hSw; obtain ⟨q, q0, q1, q2, q3, q4, q5, q6, q7, q8, q10⟩ := HCp.out _ (HB1.out.trans (hSw.mono HB1.out.size)); rw [hi0] at q10; go_simp); simp only [lsz, lss])
          (refine htk 12 119 ?_ rfl ?_ ?_; rotate_left; (intro w hSw; clear hSw; go_simp); (try with_reducible rfl); simp only [lsz, lss])
          (refine htk 13 120 (.bool true) rfl ?_ ?_; (intro w hSw; clear hSw; first | rfl | go_simp); simp only [lsz, lss])
          (refine htk 14 121 (.bool false) rfl ?_ ?_; (intro w hSw; clear hSw; first | rfl | go_simp); simp only [lsz, lss])
          refine wpAnyH_done (by kernel_rfl) ?_ _; go_wp2; exact ⟨⟨i + 1, by omega, by go_num, HBl.out.trans (HS.out.mono HBl.out.size)⟩, by simp [intOf]; omega⟩
        · have hi0 : ¬ nd.ins.length = 0 := fun h => hk1 (HLf.out.2 h)
          have hkb : (nd.ex.kind == 1) = false := by simpa using hk1
          have hib : ((nd.ins.length : Int) == 0) = false := beq_eq_false_iff_ne.2 (by omega); refine wp_region_held_drew (S := fun Y => Below y9.heap.size y9 Y) (by kernel_rfl) (Below.drew (Below.refl _ _)) (fun hHeld => ?_); have HS := Lib.hid (Below.drew (Below.refl y9.heap.size y9))
          (refine htk 0 107 ?_ rfl ?_ ?_; rotate_left; (intro w hSw; clear hSw; go_simp); (try with_reducible rfl); simp only [lsz, lss])
          (refine htk 1 108 ?_ rfl ?_ ?_; rotate_left; (intro w hSw; clear hSw; go_simp); (try with_reducible rfl); simp only [lsz, lss])
          (refine htk 2 109 ?_ rfl ?_ ?_; rotate_left; (intro w hSw; clear hSw; go_simp); (try with_reducible rfl); simp only [lsz, lss])
          (refine htk 3 110 ?_ rfl ?_ ?_; rotate_left; (intro w hSw; clear hSw; go_simp); (try with_reducible rfl); simp only [lsz, lss])
          (refine htk 4 111 ?_ rfl ?_ ?_; rotate_left; (intro w hSw; clear hSw; go_simp); (try with_reducible rfl); simp only [lsz, lss])
          (refine htk 5 112 (.int .i64 nd.ex.kind) rfl ?_ ?_; (intro w hSw; obtain ⟨q, q0, q1, q2, q3, q4, q5, q6, q7, q8, q10⟩ := HCp.out _ (HB1.out.trans (hSw.mono HB1.out.size)); go_simp); simp only [lsz, lss])
          (refine htk 6 113 (.bool false) rfl ?_ ?_; (intro w hSw; clear hSw; go_simp); simp only [lsz, lss])
          (refine htk 7 114 ?_ rfl ?_ ?_; rotate_left; (intro w hSw; clear hSw; go_simp); (try with_reducible rfl); simp only [lsz, lss])
          (refine htk 8 115 ?_ rfl ?_ ?_; rotate_left; (intro w hSw; clear hSw; go_simp); (try with_reducible rfl); simp only [lsz, lss])
          (refine htk 9 116 ?_ rfl ?_ ?_; rotate_left; (intro w hSw; clear hSw; go_simp); (try with_reducible rfl); simp only [lsz, lss])
          (refine htk 10 117 ?_ rfl ?_ ?_; rotate_left; (intro w hSw; clear hSw; go_simp); (try with_reducible rfl); simp only [lsz, lss])
          (refine htk 11 118 (.slice pi nd.ins.length ci) rfl ?_ ?_; (intro w hSw; obtain ⟨q, q0, q1, q2, q3, q4, q5, q6, q7, q8, q10⟩ := HCp.out _ (HB1.out.trans (hSw.mono HB1.out.size)); go_simp); simp only [lsz, lss])
          (refine htk 12 119 ?_ rfl ?_ ?_; rotate_left; (intro w hSw; clear hSw; go_simp); (try with_reducible rfl); simp only [lsz, lss])
          (refine htk 13 120 (.bool false) rfl ?_ ?_; (intro w hSw; clear hSw; go_simp); simp only [lsz, lss])
          (refine htk 14 121 (.bool false) rfl ?_ ?_; (intro w hSw; clear hSw; first | rfl | go_simp); simp only [lsz, lss])
          refine wpAnyH_done (by kernel_rfl) ?_ _; go_wp2; exact ⟨⟨i + 1, by omega, by go_num, HBl.out.trans (HS.out.mono HBl.out.size)⟩, by simp [intOf]; omega⟩
end Go.Proofs.YtdjdikiimhhjpaaDoor
