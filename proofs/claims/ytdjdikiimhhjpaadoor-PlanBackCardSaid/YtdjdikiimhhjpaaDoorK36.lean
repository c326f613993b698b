/- PlanBack's walk. Printed by wip/gen_pback.py. -/
import Derived.Test.YtdjdikiimhhjpaaDoorK34
import Derived.Test.YtdjdikiimhhjpaaDoorK1
set_option maxRecDepth 100000
set_option maxHeartbeats 16000000
namespace Go.Proofs.YtdjdikiimhhjpaaDoor
open Go.RowKit
set_option linter.unusedSimpArgs false
set_option linter.unusedVariables false
theorem xBack (l : List (Int × Ex)) (bs : List Bool) (pv : Option Addr) (cv : Nat) (pb : Option Addr) (cb : Nat) (W : World) (hT : TB W.heap.size W) (hX : IsQs W.heap.size W (.slice pv l.length cv) l) (nilv : pv = none → cv = 0) (hnum : ∀ q ∈ l, i64 q.1 ∧ q.2.num64)
    (hbs : IsBools W.heap.size W (.slice pb bs.length cb) bs) : Calls Tryd.prog 4 #[.slice pv l.length cv, .slice pb bs.length cb] W fun e' w' => e' = .returned (.bool true) ∧ Below W.heap.size W w' := by
  have HT := Lib.hid hT; have HX := Lib.hid hX; have HNum := Lib.hid hnum; have HBs := Lib.hid hbs; clear hT hX hnum hbs
  have hlm := HX.out.open
  obtain ⟨-, -, -, -, -, hlm⟩ := hlm
  unfold maxLen at hlm
  have HB := Lib.hid (Below.refl W.heap.size W)
  go_enter Tryd.func4, Tryd.ntmps4; (try simp only [List.append_eq, List.cons_append, List.nil_append])
  go_wp2_with fail
  refine (lLives W ((HT.out.on HB.out).less HB.out.size)).mono ?_
  rintro e' y1 ⟨rfl, hb⟩
  have HB := Lib.hid (HB.out.trans (hb.mono HB.out.size))
  clear hb
  go_wp2_with fail
  refine (kQueries l _ W.heap.size y1 HB.out.size (HX.out.mono HB.out (Nat.le_refl _))).mono ?_
  rintro e' y2 ⟨b, rfl, hlq, hb⟩
  have HB := Lib.hid (HB.out.trans (hb.mono HB.out.size))
  clear hb
  cases b
  · go_wp2
    go_ret; exact ⟨rfl, HB.out⟩
  obtain ⟨h12, hall⟩ := hlq rfl
  have HLq := Lib.hid (lq_of hall HNum.out)
  have H12 := Lib.hid h12
  clear hlq hall HNum
  by_cases h0 : firstBad l = 0
  rotate_left
  · have HP : Hid (planOf l = ([], [], firstBad l)) := Lib.hid (planOf_bad h0)
    obtain ⟨c, hc⟩ : ∃ c, firstBad l = c := ⟨_, rfl⟩; rw [hc] at h0 HP; have hcb : (c != 0) = true := by simpa using h0
    clear hc; have ZHB := Lib.hid HB.out.size; have hbz : y2.heap.size ≤ (y2.alloc (.cells #[] 42)).heap.size := by simp
    have hb0 : Below y2.heap.size y2 (y2.alloc (.cells #[] 42)) := (Below.refl _ _).alloc (Nat.le_refl _) _; have hown := OwnQ.empty W.heap.size y2; obtain ⟨rows, hsrc, hrl, hrows⟩ := (HX.out.mono (HB.out.trans (hb0.mono HB.out.size)) (Nat.le_refl _)).src nilv; have hwz := ZHB.out
    go_wp2_with (at_builtin; refine app_qs rfl _ _ rfl W.heap.size (y2.heap.size) _ _ [] l rows rfl rfl hown hsrc hrl hrows (by first | omega | (simp; omega)) hbz hwz ?_)
    intro v1 y3 hown1 hg hat hbel; clear hg hat hown hsrc hrl hrows; have HOwn : Hid (OwnQ W.heap.size (y2.heap.size) y3 v1 l) := Lib.hid hown1; have HBz := Lib.hid (Nat.le_trans hbz hbel.size); have HB := Lib.hid ((HB.out.trans (hb0.mono HB.out.size)).trans (hbel.mono ZHB.out)); clear hown1 hbel hb0 hbz; have HO := Lib.hid (pOf l v1 y3.heap.size y3 (Nat.le_refl _) (HOwn.out.qs (Nat.le_refl _) HB.out.size) ((HT.out.on HB.out).less HB.out.size) HLq.out (HLq.out.room (by omega)) (by omega)); clear HOwn HBz ZHB; rw [HP.out] at HO
    go_wp2_with fail
    refine (HO.out).mono ?_; rintro e' y4 ⟨vp, vr, rfl, hp, hr, hb⟩; have HB := Lib.hid (HB.out.trans (hb.mono HB.out.size)); clear hb; obtain ⟨pp, cp, hv, -, -, -⟩ := hp.open; have hv : vp = .slice pp 0 cp := hv; subst hv; clear HO hp hr; go_wp2; go_ret; exact ⟨rfl, HB.out⟩
  obtain ⟨p, ns, hF⟩ := back_of bs HLq.out h12 h0
  have HF := Lib.hid hF; clear hF
  obtain ⟨m, hm⟩ : ∃ m, p.length = m := ⟨_, rfl⟩
  have HM := Lib.hid hm; clear hm
  have hm1 : m ≤ 1000 := by have h1 := HF.out.many; have h2 := HM.out; omega
  have ZHB := Lib.hid HB.out.size
  have hbz : y2.heap.size ≤ (y2.alloc (.cells #[] 42)).heap.size := by simp
  have hb0 : Below y2.heap.size y2 (y2.alloc (.cells #[] 42)) := (Below.refl _ _).alloc (Nat.le_refl _) _
  have hown := OwnQ.empty W.heap.size y2
  obtain ⟨rows, hsrc, hrl, hrows⟩ := (HX.out.mono (HB.out.trans (hb0.mono HB.out.size)) (Nat.le_refl _)).src nilv
  have hwz := ZHB.out
  go_wp2_with (at_builtin; refine app_qs rfl _ _ rfl W.heap.size (y2.heap.size) _ _ [] l rows rfl rfl hown hsrc hrl hrows (by first | omega | (simp; omega)) hbz hwz ?_)
  intro v1 y3 hown1 hg hat hbel
  clear hg hat hown hsrc hrl hrows
  have HOwn : Hid (OwnQ W.heap.size (y2.heap.size) y3 v1 l) := Lib.hid hown1
  have HBz := Lib.hid (Nat.le_trans hbz hbel.size)
  have HB := Lib.hid ((HB.out.trans (hb0.mono HB.out.size)).trans (hbel.mono ZHB.out))
  clear hown1 hbel hb0 hbz
  have HO := Lib.hid (pOf l v1 y3.heap.size y3 (Nat.le_refl _) (HOwn.out.qs (Nat.le_refl _) HB.out.size) ((HT.out.on HB.out).less HB.out.size) HLq.out (HLq.out.room (by omega)) (by omega))
  clear HOwn HBz ZHB
  rw [HF.out.of] at HO
  go_wp2_with fail
  refine (HO.out).mono ?_
  rintro e' y4 ⟨vp, vr, rfl, hp, hr, hb⟩
  have HB := Lib.hid (HB.out.trans (hb.mono HB.out.size))
  clear hb
  obtain ⟨pp, cp, hv, -, hcp, -⟩ := hp.open
  rw [HM.out] at hv
  subst hv
  unfold maxLen at hcp
  obtain ⟨pr, cr, hv⟩ := ownsRow_slice hr
  rw [HF.out.len] at hv
  subst hv
  have HP := Lib.hid hp; have HR := Lib.hid hr; clear HO hp hr
  have HB1 := Lib.hid (Below.refl y4.heap.size y4)
  have ZHB := Lib.hid HB.out.size
  have ZHB1 := Lib.hid HB1.out.size
  have hbz : y4.heap.size ≤ (y4.alloc (.cells #[] 42)).heap.size := by simp
  have hb0 : Below y4.heap.size y4 (y4.alloc (.cells #[] 42)) := (Below.refl _ _).alloc (Nat.le_refl _) _
  have hown := OwnQ.empty W.heap.size y4
  obtain ⟨rows, hsrc, hrl, hrows⟩ := (HX.out.mono (HB.out.trans (hb0.mono HB.out.size)) (Nat.le_refl _)).src nilv
  have hwz := ZHB.out
  go_wp2_with (at_builtin; refine app_qs rfl _ _ rfl W.heap.size (y4.heap.size) _ _ [] l rows rfl rfl hown hsrc hrl hrows (by first | omega | (simp; omega)) hbz hwz ?_)
  intro v1 y5 hown1 hg hat hbel
  clear hg hat hown hsrc hrl hrows
  have HOwn : Hid (OwnQ W.heap.size (y4.heap.size) y5 v1 l) := Lib.hid hown1
  have HBz := Lib.hid (Nat.le_trans hbz hbel.size)
  have HB := Lib.hid ((HB.out.trans (hb0.mono HB.out.size)).trans (hbel.mono ZHB.out))
  have HB1 := Lib.hid ((HB1.out.trans (hb0.mono HB1.out.size)).trans (hbel.mono ZHB1.out))
  clear hown1 hbel hb0 hbz
  have hbz := HBz.out
  have hb0 := Below.refl y5.heap.size y5
  have hown := HOwn.out
  obtain ⟨rows, hsrc, hrl, hrows⟩ := (HX.out.mono (HB.out.trans (hb0.mono HB.out.size)) (Nat.le_refl _)).src nilv
  have hwz := ZHB.out
  go_wp2_with (at_builtin; refine app_qs rfl _ _ rfl W.heap.size (y4.heap.size) _ _ l l rows rfl rfl hown hsrc hrl hrows (by first | omega | (simp; omega)) hbz hwz ?_)
  intro v1 y6 hown1 hg hat hbel
  clear hg hat hown hsrc hrl hrows
  have HOwn : Hid (OwnQ W.heap.size (y4.heap.size) y6 v1 (l ++ l)) := Lib.hid hown1
  have HBz := Lib.hid (Nat.le_trans hbz hbel.size)
  have HB := Lib.hid ((HB.out.trans (hb0.mono HB.out.size)).trans (hbel.mono ZHB.out))
  have HB1 := Lib.hid ((HB1.out.trans (hb0.mono HB1.out.size)).trans (hbel.mono ZHB1.out))
  clear hown1 hbel hb0 hbz
  have HO := Lib.hid (pOf (l ++ l) v1 y6.heap.size y6 (Nat.le_refl _) (HOwn.out.qs (Nat.le_refl _) HB.out.size) ((HT.out.on HB.out).less HB.out.size) (HLq.out.app HLq.out) (HLq.out.room2 H12.out) (by simp; omega))
  clear HOwn HBz ZHB ZHB1
  rw [HF.out.two] at HO
  go_wp2_with fail
  refine (HO.out).mono ?_
  rintro e' y7 ⟨vp2, vr2, rfl, hp2, hr2, hb⟩
  have HB := Lib.hid (HB.out.trans (hb.mono HB.out.size))
  have HB1 := Lib.hid (HB1.out.trans (hb.mono HB1.out.size))
  clear hb
  have HP2 := Lib.hid hp2; have HR2 := Lib.hid (hr2.ints (Nat.le_refl _)); clear HO hp2 hr2
  have HB2 := Lib.hid (Below.refl y7.heap.size y7)
  go_wp2_with fail
  refine (kNodes p _ _ y7.heap.size y7 (Nat.le_refl _) (HP.out.mono HB1.out HB1.out.size) (HP2.out.mono HB2.out HB2.out.size)).mono ?_
  rintro e' y8 ⟨rfl, hb⟩
  have HB := Lib.hid (HB.out.trans (hb.mono HB.out.size))
  have HB1 := Lib.hid (HB1.out.trans (hb.mono HB1.out.size))
  have HB2 := Lib.hid (HB2.out.trans (hb.mono HB2.out.size))
  clear hb
  clear HP2
  have hnl := HF.out.len
  have ZHB := Lib.hid HB.out.size
  have ZHB1 := Lib.hid HB1.out.size
  have ZHB2 := Lib.hid HB2.out.size
  have hbz : y8.heap.size ≤ (y8.alloc (.cells #[] 3)).heap.size := by simp
  have hb0 : Below y8.heap.size y8 (y8.alloc (.cells #[] 3)) := (Below.refl _ _).alloc (Nat.le_refl _) _
  have hown := OwnI.emptyT y8
  have hsrc := (HR.out.keep (HB1.out.trans (hb0.mono HB1.out.size))).src
  go_wp2_with (at_builtin; refine app_isg (by kernel_rfl) _ _ rfl (y8.heap.size) _ _ [] ns rfl rfl hown hsrc (by first | omega | (simp; omega)) hbz ?_)
  intro v1 y9 hown1 hg hat hbel
  clear hg hat hown hsrc
  have HOwn : Hid (OwnI 3 (y8.heap.size) y9 v1 ns) := Lib.hid hown1
  have HBz := Lib.hid (Nat.le_trans hbz hbel.size)
  have HB := Lib.hid ((HB.out.trans (hb0.mono HB.out.size)).trans (hbel.mono ZHB.out))
  have HB1 := Lib.hid ((HB1.out.trans (hb0.mono HB1.out.size)).trans (hbel.mono ZHB1.out))
  have HB2 := Lib.hid ((HB2.out.trans (hb0.mono HB2.out.size)).trans (hbel.mono ZHB2.out))
  clear hown1 hbel hb0 hbz
  have hbz := HBz.out
  have hb0 := Below.refl y9.heap.size y9
  have hown := HOwn.out
  have hsrc := (HR.out.keep HB1.out).src
  go_wp2_with (at_builtin; refine app_isg (by kernel_rfl) _ _ rfl (y8.heap.size) _ _ ns ns rfl rfl hown hsrc (by first | omega | (simp; omega)) hbz ?_)
  intro v1 y10 hown1 hg hat hbel
  clear hg hat hown hsrc
  have HOwn : Hid (OwnI 3 (y8.heap.size) y10 v1 (ns ++ ns)) := Lib.hid hown1
  have HBz := Lib.hid (Nat.le_trans hbz hbel.size)
  have HB := Lib.hid ((HB.out.trans (hb0.mono HB.out.size)).trans (hbel.mono ZHB.out))
  have HB1 := Lib.hid ((HB1.out.trans (hb0.mono HB1.out.size)).trans (hbel.mono ZHB1.out))
  have HB2 := Lib.hid ((HB2.out.trans (hb0.mono HB2.out.size)).trans (hbel.mono ZHB2.out))
  clear hown1 hbel hb0 hbz
  clear hnl
  go_wp2_with fail
  refine (kIntsS (ns ++ ns) _ _ y10.heap.size y10 (Nat.le_refl _) (HR2.out.mono HB2.out HB2.out.size) (HOwn.out.ints (Nat.le_refl _))).mono ?_
  rintro e' y11 ⟨rfl, hb⟩
  have HB := Lib.hid (HB.out.trans (hb.mono HB.out.size))
  have HB1 := Lib.hid (HB1.out.trans (hb.mono HB1.out.size))
  have HB2 := Lib.hid (HB2.out.trans (hb.mono HB2.out.size))
  clear hb
  clear HR2 HOwn HBz ZHB ZHB1 ZHB2
  have HC := Lib.hid (pCheck p _ y4.heap.size y11 (HB1.out.size) (HP.out.mono HB1.out (Nat.le_refl _)))
  rw [HF.out.check] at HC
  go_wp2_with fail
  refine (HC.out).mono ?_
  rintro e' y12 ⟨rfl, hb⟩
  have HB := Lib.hid (HB.out.trans (hb.mono HB.out.size))
  have HB1 := Lib.hid (HB1.out.trans (hb.mono HB1.out.size))
  have HB2 := Lib.hid (HB2.out.trans (hb.mono HB2.out.size))
  clear hb
  clear HC
  go_wp2_with fail
  refine (pUsedN p ns _ _ y4.heap.size y12 HB1.out.size (HP.out.mono HB1.out (Nat.le_refl _)) ((HR.out.ints (Nat.le_refl _)).mono HB1.out (Nat.le_refl _)) (by have := HF.out.len; omega)).mono ?_
  rintro e' y13 ⟨vu, rfl, hu, hb⟩
  have HB := Lib.hid (HB.out.trans (hb.mono HB.out.size))
  have HB1 := Lib.hid (HB1.out.trans (hb.mono HB1.out.size))
  have HB2 := Lib.hid (HB2.out.trans (hb.mono HB2.out.size))
  clear hb
  obtain ⟨pu, cu, hv⟩ := ownsRow_slice hu
  rw [HF.out.used, HM.out] at hv
  subst hv
  clear hu HB2
  go_wp2_with fail
  go_loopw [10, 11] (fun vk j wr => ∃ i : Nat, i ≤ l.length ∧ j = .int .i64 i ∧ OwnI 3 y13.heap.size wr vk (kept ns bs i) ∧ Below y13.heap.size y13 wr) (fun _ j _ => l.length - (intOf j).toNat)
  case atStart => exact ⟨0, Nat.zero_le _, rfl, OwnI.nil, Below.refl _ _⟩
  case round =>
    obtain ⟨i, hi, rfl, hk, hbl⟩ := hrel; obtain ⟨w0, rfl⟩ : ∃ z, z = wr := ⟨_, rfl⟩; have HK := Lib.hid hk; have HBl := Lib.hid hbl; have HB := Lib.hid (HB.out.trans (hbl.mono HB.out.size)); have HB1 := Lib.hid (HB1.out.trans (hbl.mono HB1.out.size)); clear hk hbl
    by_cases hlt : i < l.length
    rotate_left
    · skip
      have hi2 : i = l.length := by omega
      subst hi2; clear HBl; obtain ⟨q, tt, hLf⟩ := HF.out.left; have HLf := Lib.hid hLf; clear hLf; obtain ⟨KL, hKL⟩ : ∃ z, kept ns bs l.length = z := ⟨_, rfl⟩; have hkl : KL.length ≤ 12 := by have h1 := kept_len ns bs l.length; have h2 := H12.out; rw [hKL] at h1; omega
      have HKL := Lib.hid hKL; rw [hKL] at HK; have hon := HLf.out.only; rw [hKL] at hon; have hus := HLf.out.used; rw [hKL] at hus; have HOn := Lib.hid hon; have HUs := Lib.hid hus; clear hKL hon hus; obtain ⟨m2, hm2⟩ : ∃ z, q.length = z := ⟨_, rfl⟩; have HM2 := Lib.hid hm2; clear hm2; have hm3 : m2 ≤ 1000 := by have h1 := HLf.out.many; have h2 := HM2.out; omega
      have HO := Lib.hid (pOnly p KL _ _ w0.heap.size w0 (Nat.le_refl _) (HP.out.mono HB1.out HB1.out.size) (HK.out.ints (Nat.le_refl _)) (by omega) HF.out.thin); rw [HOn.out] at HO
      go_wp2_with fail
      refine (HO.out).mono ?_; rintro e' y101 ⟨vq, vt, rfl, hq, ht, hb⟩; have HB := Lib.hid (HB.out.trans (hb.mono HB.out.size)); have HB1 := Lib.hid (HB1.out.trans (hb.mono HB1.out.size)); clear hb; obtain ⟨pq, cq, hv, -, hcq, -⟩ := hq.open; rw [HM2.out] at hv; subst hv; unfold maxLen at hcq; obtain ⟨pt, ct, hv, -, hct, -⟩ := ht.open; rw [HLf.out.len, HM.out] at hv; subst hv; unfold maxLen at hct; have HQ := Lib.hid hq; have HTt := Lib.hid ht; clear hq ht HO HK HOn; have HB3 := Lib.hid (Below.refl y101.heap.size y101); have HC := Lib.hid (pCheck q _ y101.heap.size y101 HB3.out.size (HQ.out.mono HB3.out (Nat.le_refl _))); rw [HLf.out.check] at HC
      go_wp2_with fail
      refine (HC.out).mono ?_; rintro e' y102 ⟨rfl, hb⟩; have HB := Lib.hid (HB.out.trans (hb.mono HB.out.size)); have HB1 := Lib.hid (HB1.out.trans (hb.mono HB1.out.size)); have HB3 := Lib.hid (HB3.out.trans (hb.mono HB3.out.size)); clear hb; clear HC
      go_wp2_with fail
      go_loopw [16, 17] (fun vk j wr => ∃ i : Nat, i ≤ l.length ∧ j = .int .i64 i ∧ OwnI 3 y102.heap.size wr vk ((kept ns bs i).map (toAt tt)) ∧ Below y102.heap.size y102 wr) (fun _ j _ => l.length - (intOf j).toNat)
      case atStart => exact ⟨0, Nat.zero_le _, rfl, OwnI.nil, Below.refl _ _⟩
      case round =>
        obtain ⟨i, hi, rfl, hk, hbl⟩ := hrel; obtain ⟨w0, rfl⟩ : ∃ z, z = wr := ⟨_, rfl⟩; have HK := Lib.hid hk; have HBl := Lib.hid hbl; have HB := Lib.hid (HB.out.trans (hbl.mono HB.out.size)); have HB1 := Lib.hid (HB1.out.trans (hbl.mono HB1.out.size)); have HB3 := Lib.hid (HB3.out.trans (hbl.mono HB3.out.size)); clear hk hbl
        by_cases hlt : i < l.length
        rotate_left
        · have hi2 : i = l.length := by omega
          subst hi2; have hk := HK.out; rw [HKL.out] at hk; have HKi := Lib.hid (hk.ints (Nat.le_refl _)); clear hk
          go_wp2_with fail
          refine (pUsedN q (KL.map (toAt tt)) _ _ w0.heap.size w0 (Nat.le_refl _) (HQ.out.mono HB3.out HB3.out.size) HKi.out (by rw [List.length_map]; omega)).mono ?_; rintro e' y103 ⟨vu, rfl, hu, hb⟩; have HB := Lib.hid (HB.out.trans (hb.mono HB.out.size)); have HB1 := Lib.hid (HB1.out.trans (hb.mono HB1.out.size)); have HB3 := Lib.hid (HB3.out.trans (hb.mono HB3.out.size)); clear hb; obtain ⟨pu, cu, hv⟩ := ownsRow_slice hu; rw [HUs.out, HM2.out] at hv; subst hv; clear hu; go_wp2; go_ret; exact ⟨rfl, HB.out⟩
        have HY := Lib.hid (fun h => kept_yes (ns := ns) (bs := bs) (i := i) h); have HN := Lib.hid (fun h => kept_no (ns := ns) (bs := bs) (i := i) h); have hkn : ((kept ns bs i).map (toAt tt)).length ≤ 12 := by have h1 := kept_len ns bs i; have h2 := H12.out; rw [List.length_map]; omega
        have Hkn := Lib.hid hkn; clear hkn
        by_cases hib : i < bs.length
        rotate_left
        · have hibi : (bs.length : Int) ≤ (i : Int) := by omega
          have hki : (i : Int) < (l.length : Int) := by omega
          have hgd : ¬ bs.getD i false = true := by rw [List.getD_eq_getElem?_getD, List.getElem?_eq_none (by omega)]; simp
          have HKn := Lib.hid (HN.out hgd); clear hgd HN HY; go_wp2; exact ⟨⟨i + 1, by omega, by go_num, by rw [HKn.out]; exact HK.out, HBl.out⟩, by simp [intOf]; omega⟩
        have hibi : ¬ (bs.length : Int) ≤ (i : Int) := by omega
        obtain ⟨bb, ob, rfl, hbb, cb0⟩ := (HBs.out.mono HB.out (Nat.le_refl _)).get hib; have hgd : bs.getD i false = bs[i] := by rw [List.getD_eq_getElem?_getD, List.getElem?_eq_getElem hib]; rfl
        have HGb := Lib.hid hgd; rw [hgd] at HY HN; clear hgd; generalize bs[i] = bi at *; cases bi
        · have hki : (i : Int) < (l.length : Int) := by omega
          go_wp2; exact ⟨⟨i + 1, by omega, by go_num, by rw [HN.out (by decide)]; exact HK.out, HBl.out⟩, by simp [intOf]; omega⟩
        have hki : (i : Int) < (l.length : Int) := by omega
        obtain ⟨k, k1, k2, k3, k4⟩ := HF.out.root i hlt; obtain ⟨b, off, rm, sm, rn, sn, rk, sk, rfl, hbn, hyx, c0, c1, c2, c3, c4, c5, c6, c7, c8, c9⟩ := (HX.out.mono HB.out (Nat.le_refl _)).get hlt; have HCq := Lib.hid (q_at9 (Nat.lt_of_lt_of_le hbn HB.out.size) c0 c1 c2 c3 c4 c5 c6 c7 c8 c9); clear c0 c1 c2 c3 c4 c5 c6 c7 c8 c9; obtain ⟨br, or, rfl, hbr, cr0⟩ := ((HR.out.ints (Nat.le_refl _)).mono HB1.out (Nat.le_refl _)).getAt k1; have HCr : Hid (∀ Z, Below w0.heap.size w0 Z → Z.cell? ⟨br, or + i, none⟩ = some (.int .i64 ((k : Int) + 1))) := Lib.hid (fun Z hZ => (hZ.cell (p := ⟨br, or + i, none⟩) (Nat.lt_of_lt_of_le hbr HB1.out.size)).trans cr0); have HYx := Lib.hid hyx; have HW0 := Lib.hid HB.out.size; clear hyx hbn hbr cr0; have HSz := Lib.hid (HLq.out.size _ (List.getElem_mem hlt)); have HgD := Lib.hid (show ns.getD i 0 = (k : Int) + 1 from by rw [List.getD_eq_getElem?_getD, k1]; rfl); obtain ⟨t, t1, t2, t3⟩ := HLf.out.root i hlt k HGb.out k1; have hkm : (k : Int) < (m : Int) := by have h1 := (List.getElem?_eq_some_iff.1 t1).1; have h2 := HLf.out.len; have h3 := HM.out; omega
        rw [HgD.out] at HY; have hYm := congrArg (List.map (toAt tt)) (HY.out (by first | rfl | trivial)); rw [List.map_append, List.map_cons, List.map_nil, t2] at hYm; have HYm := Lib.hid hYm; clear hYm HY HN HgD HGb t2; obtain ⟨bt, ot, rfl, hbt, ct0⟩ := (HTt.out.mono HB3.out (Nat.le_refl _)).getAt t1; have HCt : Hid (∀ Z, Below w0.heap.size w0 Z → Z.cell? ⟨bt, ot + k, none⟩ = some (.int .i64 t)) := Lib.hid (fun Z hZ => (hZ.cell (p := ⟨bt, ot + k, none⟩) (Nat.lt_of_lt_of_le hbt HB3.out.size)).trans ct0); clear t1 hbt ct0; have HQy := Lib.hid (pQuery q t (.slice pq m2 cq) y101.heap.size w0 HB3.out.size (HQ.out.mono HB3.out (Nat.le_refl _)) HLf.out.thin); rw [t3] at HQy; clear k1 k3 k4 t3 HSz; generalize l[i] = q0 at *; obtain ⟨ev, x⟩ := q0; simp only at HCq HYx HQy; have cr1 := HCr.out _ (Below.refl _ _); have ct1 := HCt.out _ (Below.refl _ _); obtain ⟨kl, hkl⟩ : ∃ z, (kept ns bs i).map (toAt tt) = z := ⟨_, rfl⟩; rw [hkl] at HK HYm Hkn; clear hkl; have HZ := Lib.hid (Below.refl w0.heap.size w0)
        go_wp2_with fail
        refine (HQy.out).mono ?_; rintro e' y104 ⟨cs', rfl, hx', hb⟩; have HB := Lib.hid (HB.out.trans (hb.mono HB.out.size)); have HB1 := Lib.hid (HB1.out.trans (hb.mono HB1.out.size)); have HB3 := Lib.hid (HB3.out.trans (hb.mono HB3.out.size)); have HBl := Lib.hid (HBl.out.trans (hb.mono HBl.out.size)); have HZ := Lib.hid (HZ.out.trans (hb.mono HZ.out.size)); clear hb; obtain ⟨xm, xcm, xn, xcn, xk, xck, rfl, -⟩ := hx'.cellsE; have HX1 := Lib.hid hx'; clear hx' cr1 ct1 cb0 HQy; have HY1 := Lib.hid (Below.refl y104.heap.size y104)
        go_upto_region 29 with fail
        obtain ⟨y105, hX⟩ : ∃ z, y104.alloc (.cells #[.int .i64 ev, .int .i64 x.kind, .int .i64 x.fn, .int .i64 x.op, .int .i64 x.num, .string x.metric, .slice xm x.mats.length xcm, .int .i64 x.span, .slice xn x.names.length xcn, .slice xk x.kids.length xck] 42) = z := ⟨_, rfl⟩; have nX : Blk y105 y104.heap.size 42 [.int .i64 ev, .int .i64 x.kind, .int .i64 x.fn, .int .i64 x.op, .int .i64 x.num, .string x.metric, .slice xm x.mats.length xcm, .int .i64 x.span, .slice xn x.names.length xcn, .slice xk x.kids.length xck] := by rw [← hX]; exact Blk.new y104 _ _
        have bX : Below y104.heap.size y104 y105 := by rw [← hX]; exact (Below.refl _ _).alloc (Nat.le_refl _) _
        rw [hX]; clear hX; have HB := Lib.hid (HB.out.trans (bX.mono HB.out.size)); have HB1 := Lib.hid (HB1.out.trans (bX.mono HB1.out.size)); have HB3 := Lib.hid (HB3.out.trans (bX.mono HB3.out.size)); have HBl := Lib.hid (HBl.out.trans (bX.mono HBl.out.size)); have HZ := Lib.hid (HZ.out.trans (bX.mono HZ.out.size)); have HY1 := Lib.hid (HY1.out.trans (bX.mono HY1.out.size)); clear bX; have BX := Lib.hid nX; clear nX; have HX1 := Lib.hid (HX1.out.mono HY1.out HY1.out.size); have HX2 := Lib.hid (HYx.out.mono (HZ.out.mono HW0.out) (Nat.le_trans HW0.out HZ.out.size)); clear HYx HY1
        go_cut [223] from 201 to 223 (fun s223 wx => s223 = .bool false ∧ Below y105.heap.size y105 wx)
        case first =>
          refine wp_region_held_drew (S := fun Y => Below y105.heap.size y105 Y) (by kernel_rfl) (Below.drew (Below.refl _ _)) (fun hHeld => ?_); have HS := Lib.hid (Below.drew (Below.refl y105.heap.size y105))
          (refine htk 0 201 ?_ rfl ?_ ?_; rotate_left; (intro w hSw; clear hSw; go_simp); (try with_reducible rfl); simp only [lsz, lss])
          (refine htk 1 202 (.bool false) rfl ?_ ?_; (intro w hSw; clear hSw; first | rfl | go_simp); simp only [lsz, lss])
          (refine htk 2 203 (.bool false) rfl ?_ ?_; (intro w hSw; clear hSw; first | rfl | go_simp); simp only [lsz, lss])
          (refine htk 3 204 ?_ rfl ?_ ?_; rotate_left; (intro w hSw; clear hSw; go_simp); (try with_reducible rfl); simp only [lsz, lss])
          (refine htk 4 205 (.int .i64 ev) rfl ?_ ?_; (intro w hSw; have bb := BX.out.keep hSw; have p0 := bb.cell 0 _ rfl; have p1 := bb.cell 1 _ rfl; have p2 := bb.cell 2 _ rfl; have p3 := bb.cell 3 _ rfl; have p4 := bb.cell 4 _ rfl; have p5 := bb.cell 5 _ rfl; have p6 := bb.cell 6 _ rfl; have p7 := bb.cell 7 _ rfl; have p8 := bb.cell 8 _ rfl; have p9 := bb.cell 9 _ rfl; go_simp); simp only [lsz, lss])
          (refine htk 5 206 ?_ rfl ?_ ?_; rotate_left; (intro w hSw; clear hSw; go_simp); (try with_reducible rfl); simp only [lsz, lss])
          (refine htk 6 207 ?_ rfl ?_ ?_; rotate_left; (intro w hSw; clear hSw; go_simp); (try with_reducible rfl); simp only [lsz, lss])
          (refine htk 7 208 ?_ rfl ?_ ?_; rotate_left; (intro w hSw; clear hSw; go_simp); (try with_reducible rfl); simp only [lsz, lss])
          (refine htk 8 209 ?_ rfl ?_ ?_; rotate_left; (intro w hSw; clear hSw; go_simp); (try with_reducible rfl); simp only [lsz, lss])
          (refine htk 9 210 (.int .i64 ev) rfl ?_ ?_; (intro w hSw; obtain ⟨q, q0, q1, q2, q3, q4, q5, q6, q7, q8⟩ := HCq.out _ (HZ.out.trans (hSw.mono HZ.out.size)); go_simp); simp only [lsz, lss])
          (refine htk 10 211 (.bool false) rfl ?_ ?_; (intro w hSw; clear hSw; first | rfl | go_simp); simp only [lsz, lss])
          (refine htk 11 212 (.bool false) rfl ?_ ?_; (intro w hSw; clear hSw; first | rfl | go_simp); simp only [lsz, lss])
          (refine htk 12 213 (.bool false) rfl ?_ ?_; (intro w hSw; clear hSw; first | rfl | go_simp); simp only [lsz, lss])
          (refine htk 13 214 ?_ rfl ?_ ?_; rotate_left; (intro w hSw; clear hSw; go_simp); (try with_reducible rfl); simp only [lsz, lss])
          (refine htk 14 215 (.agg #[.int .i64 x.kind, .int .i64 x.fn, .int .i64 x.op, .int .i64 x.num, .string x.metric, .slice xm x.mats.length xcm, .int .i64 x.span, .slice xn x.names.length xcn, .slice xk x.kids.length xck]) rfl ?_ ?_; (intro w hSw; have bb := BX.out.keep hSw; have p0 := bb.cell 0 _ rfl; have p1 := bb.cell 1 _ rfl; have p2 := bb.cell 2 _ rfl; have p3 := bb.cell 3 _ rfl; have p4 := bb.cell 4 _ rfl; have p5 := bb.cell 5 _ rfl; have p6 := bb.cell 6 _ rfl; have p7 := bb.cell 7 _ rfl; have p8 := bb.cell 8 _ rfl; have p9 := bb.cell 9 _ rfl; go_simp); simp only [lsz, lss])
          (refine htk 15 216 ?_ rfl ?_ ?_; rotate_left; (intro w hSw; clear hSw; go_simp); (try with_reducible rfl); simp only [lsz, lss])
          (refine htk 16 217 ?_ rfl ?_ ?_; rotate_left; (intro w hSw; clear hSw; go_simp); (try with_reducible rfl); simp only [lsz, lss])
          (refine htk 17 218 ?_ rfl ?_ ?_; rotate_left; (intro w hSw; clear hSw; go_simp); (try with_reducible rfl); simp only [lsz, lss])
          (refine htk 18 219 ?_ rfl ?_ ?_; rotate_left; (intro w hSw; clear hSw; go_simp); (try with_reducible rfl); simp only [lsz, lss])
          (refine htk 19 220 (.agg #[.int .i64 x.kind, .int .i64 x.fn, .int .i64 x.op, .int .i64 x.num, .string x.metric, .slice rm x.mats.length sm, .int .i64 x.span, .slice rn x.names.length sn, .slice rk x.kids.length sk]) rfl ?_ ?_; (intro w hSw; obtain ⟨q, q0, q1, q2, q3, q4, q5, q6, q7, q8⟩ := HCq.out _ (HZ.out.trans (hSw.mono HZ.out.size)); go_simp); simp only [lsz, lss])
          refine hrd 20 rfl (fun K hK => ?_); rw [if_pos (by kernel_rfl)]
          go_simp
          refine (kExprS x _ _ y105.heap.size _ HS.out.size (HX1.out.mono HS.out (Nat.le_refl _)) (HX2.out.mono HS.out (Nat.le_refl _))).mono ?_; rintro e' vv ⟨rfl, hb⟩; have HS := Lib.hid (HS.out.trans (hb.mono HS.out.size)); clear hb
          dsimp only
          refine hK.out _ _ HS.out (fun hHeld => ?_); clear hK K
          (try simp only [Act.put, lsa, lsz, lss])
          (refine htk 21 222 (.bool false) rfl ?_ ?_; (intro w hSw; clear hSw; first | rfl | go_simp); simp only [lsz, lss])
          (refine htk 22 223 (.bool false) rfl ?_ ?_; (intro w hSw; clear hSw; first | rfl | go_simp); simp only [lsz, lss])
          refine wpAnyH_done (by kernel_rfl) ?_ _; go_wp2
          go_meet
          exact ⟨rfl, HS.out⟩
        case rest =>
          obtain ⟨rfl, hb⟩ := hcut; obtain ⟨z9, rfl⟩ : ∃ z, z = wc := ⟨_, rfl⟩; have HB := Lib.hid (HB.out.trans (hb.mono HB.out.size)); have HB1 := Lib.hid (HB1.out.trans (hb.mono HB1.out.size)); have HB3 := Lib.hid (HB3.out.trans (hb.mono HB3.out.size)); have HBl := Lib.hid (HBl.out.trans (hb.mono HBl.out.size)); have HZ := Lib.hid (HZ.out.trans (hb.mono HZ.out.size)); clear hb; clear HX1 HX2 BX HCq HW0; have cr2 := HCr.out _ HZ.out; have ct2 := HCt.out _ HZ.out; have HKq := Lib.hid (HK.out.keep HZ.out); have hbz : y102.heap.size ≤ z9.heap.size := HBl.out.size
          go_wp2_with (at_builtin; refine app_int rfl _ _ rfl (y102.heap.size) _ kl t z9.heap.size rfl rfl (HKq.out.keep ((Below.refl _ _).alloc (Nat.le_refl _) _)) (by go_simp) (by have := Hkn.out; omega) (by simp; omega) ?_)
          intro vk' w4 hown4 hg4 hat4; have bA : Below z9.heap.size z9 (z9.alloc (.cells #[.int .i64 t] 3)) := (Below.refl _ _).alloc (Nat.le_refl _) _; have hb4 := below_app (HBl.out.trans (bA.mono HBl.out.size)) (HKq.out.keep bA) hg4 (Nat.le_refl _) (by simp; omega); have Hb4 := Lib.hid hb4; have Hown4 := Lib.hid hown4; clear hb4 hown4 hg4 hat4 bA cr2 ct2; go_wp2; exact ⟨⟨i + 1, by omega, by go_num, by rw [HYm.out]; exact Hown4.out, Hb4.out⟩, by simp [intOf]; omega⟩
    have hki : (i : Int) < (l.length : Int) := by omega
    obtain ⟨k, k1, k2, k3, k4⟩ := HF.out.root i hlt; obtain ⟨b, off, rm, sm, rn, sn, rk, sk, rfl, hbn, hyx, c0, c1, c2, c3, c4, c5, c6, c7, c8, c9⟩ := (HX.out.mono HB.out (Nat.le_refl _)).get hlt; have HCq := Lib.hid (q_at9 (Nat.lt_of_lt_of_le hbn HB.out.size) c0 c1 c2 c3 c4 c5 c6 c7 c8 c9); clear c0 c1 c2 c3 c4 c5 c6 c7 c8 c9; obtain ⟨br, or, rfl, hbr, cr0⟩ := ((HR.out.ints (Nat.le_refl _)).mono HB1.out (Nat.le_refl _)).getAt k1; have HCr : Hid (∀ Z, Below w0.heap.size w0 Z → Z.cell? ⟨br, or + i, none⟩ = some (.int .i64 ((k : Int) + 1))) := Lib.hid (fun Z hZ => (hZ.cell (p := ⟨br, or + i, none⟩) (Nat.lt_of_lt_of_le hbr HB1.out.size)).trans cr0); have HYx := Lib.hid hyx; have HW0 := Lib.hid HB.out.size; clear hyx hbn hbr cr0; have HSz := Lib.hid (HLq.out.size _ (List.getElem_mem hlt)); have HgD := Lib.hid (show ns.getD i 0 = (k : Int) + 1 from by rw [List.getD_eq_getElem?_getD, k1]; rfl); have HQy := Lib.hid (pQuery p ((k : Int) + 1) (.slice pp m cp) y4.heap.size w0 HB1.out.size (HP.out.mono HB1.out (Nat.le_refl _)) HF.out.thin); rw [k3] at HQy; have HHor : Hid (∀ Z, Below w0.heap.size w0 Z → Calls Tryd.prog 17 #[.slice pp m cp, .int .i64 ((k : Int) + 1)] Z fun e' w' => e' = .returned (.int .i64 l[i].2.hor) ∧ Below Z.heap.size Z w') := Lib.hid (fun Z hZ => by
      have h1 := pHorizon p ((k : Int) + 1) (.slice pp m cp) y4.heap.size Z (HB1.out.trans (hZ.mono HB1.out.size)).size (HP.out.mono (HB1.out.trans (hZ.mono HB1.out.size)) (Nat.le_refl _)); rw [k4] at h1; exact h1)
    have HRHor : Hid (∀ Z, Below w0.heap.size w0 Z → Calls Tryd.prog 18 #[.agg #[.int .i64 l[i].2.kind, .int .i64 l[i].2.fn, .int .i64 l[i].2.op, .int .i64 l[i].2.num, .string l[i].2.metric, .slice rm l[i].2.mats.length sm, .int .i64 l[i].2.span, .slice rn l[i].2.names.length sn, .slice rk l[i].2.kids.length sk]] Z fun e' w' => e' = .returned (.int .i64 l[i].2.hor) ∧ Below Z.heap.size Z w') := Lib.hid (fun Z hZ => rHorizon l[i].2 _ W.heap.size Z (HB.out.trans (hZ.mono HB.out.size)).size (HYx.out.mono (hZ.mono HB.out.size) (Nat.le_refl _)) (by have := HSz.out; omega)); clear k1 k3 k4 HSz; generalize l[i] = q at *; obtain ⟨ev, x⟩ := q; simp only at HCq HYx HQy HHor HRHor; have cr1 := HCr.out _ (Below.refl _ _); have HZ := Lib.hid (Below.refl w0.heap.size w0)
    go_wp2_with fail
    refine (HQy.out).mono ?_; rintro e' y14 ⟨cs', rfl, hx', hb⟩; have HB := Lib.hid (HB.out.trans (hb.mono HB.out.size)); have HB1 := Lib.hid (HB1.out.trans (hb.mono HB1.out.size)); have HBl := Lib.hid (HBl.out.trans (hb.mono HBl.out.size)); have HZ := Lib.hid (HZ.out.trans (hb.mono HZ.out.size)); clear hb; obtain ⟨xm, xcm, xn, xcn, xk, xck, rfl, -⟩ := hx'.cellsE; have HX1 := Lib.hid hx'; clear hx' cr1 HQy; have HY1 := Lib.hid (Below.refl y14.heap.size y14)
    go_upto_region 16 with fail
    obtain ⟨y15, hX⟩ : ∃ z, y14.alloc (.cells #[.int .i64 ev, .int .i64 x.kind, .int .i64 x.fn, .int .i64 x.op, .int .i64 x.num, .string x.metric, .slice xm x.mats.length xcm, .int .i64 x.span, .slice xn x.names.length xcn, .slice xk x.kids.length xck] 42) = z := ⟨_, rfl⟩; have nX : Blk y15 y14.heap.size 42 [.int .i64 ev, .int .i64 x.kind, .int .i64 x.fn, .int .i64 x.op, .int .i64 x.num, .string x.metric, .slice xm x.mats.length xcm, .int .i64 x.span, .slice xn x.names.length xcn, .slice xk x.kids.length xck] := by rw [← hX]; exact Blk.new y14 _ _
    have bX : Below y14.heap.size y14 y15 := by rw [← hX]; exact (Below.refl _ _).alloc (Nat.le_refl _) _
    rw [hX]; clear hX; have HB := Lib.hid (HB.out.trans (bX.mono HB.out.size)); have HB1 := Lib.hid (HB1.out.trans (bX.mono HB1.out.size)); have HBl := Lib.hid (HBl.out.trans (bX.mono HBl.out.size)); have HZ := Lib.hid (HZ.out.trans (bX.mono HZ.out.size)); have HY1 := Lib.hid (HY1.out.trans (bX.mono HY1.out.size)); clear bX; have BX := Lib.hid nX; clear nX; have HX1 := Lib.hid (HX1.out.mono HY1.out HY1.out.size); have HX2 := Lib.hid (HYx.out.mono (HZ.out.mono HW0.out) (Nat.le_trans HW0.out HZ.out.size)); clear HYx HY1
    go_cut [132] from 95 to 132 (fun s132 wx => s132 = .bool false ∧ Below y15.heap.size y15 wx)
    case first =>
      refine wp_region_held_drew (S := fun Y => Below y15.heap.size y15 Y) (by kernel_rfl) (Below.drew (Below.refl _ _)) (fun hHeld => ?_); have HS := Lib.hid (Below.drew (Below.refl y15.heap.size y15))
      (refine htk 0 95 ?_ rfl ?_ ?_; rotate_left; (intro w hSw; clear hSw; go_simp); (try with_reducible rfl); simp only [lsz, lss])
      (refine htk 1 96 (.bool false) rfl ?_ ?_; (intro w hSw; clear hSw; first | rfl | go_simp); simp only [lsz, lss])
      (refine htk 2 97 (.bool false) rfl ?_ ?_; (intro w hSw; clear hSw; first | rfl | go_simp); simp only [lsz, lss])
      (refine htk 3 98 ?_ rfl ?_ ?_; rotate_left; (intro w hSw; clear hSw; go_simp); (try with_reducible rfl); simp only [lsz, lss])
      (refine htk 4 99 (.int .i64 ev) rfl ?_ ?_; (intro w hSw; have bb := BX.out.keep hSw; have p0 := bb.cell 0 _ rfl; have p1 := bb.cell 1 _ rfl; have p2 := bb.cell 2 _ rfl; have p3 := bb.cell 3 _ rfl; have p4 := bb.cell 4 _ rfl; have p5 := bb.cell 5 _ rfl; have p6 := bb.cell 6 _ rfl; have p7 := bb.cell 7 _ rfl; have p8 := bb.cell 8 _ rfl; have p9 := bb.cell 9 _ rfl; go_simp); simp only [lsz, lss])
      (refine htk 5 100 ?_ rfl ?_ ?_; rotate_left; (intro w hSw; clear hSw; go_simp); (try with_reducible rfl); simp only [lsz, lss])
      (refine htk 6 101 ?_ rfl ?_ ?_; rotate_left; (intro w hSw; clear hSw; go_simp); (try with_reducible rfl); simp only [lsz, lss])
      (refine htk 7 102 ?_ rfl ?_ ?_; rotate_left; (intro w hSw; clear hSw; go_simp); (try with_reducible rfl); simp only [lsz, lss])
      (refine htk 8 103 ?_ rfl ?_ ?_; rotate_left; (intro w hSw; clear hSw; go_simp); (try with_reducible rfl); simp only [lsz, lss])
      (refine htk 9 104 (.int .i64 ev) rfl ?_ ?_; (intro w hSw; obtain ⟨q, q0, q1, q2, q3, q4, q5, q6, q7, q8⟩ := HCq.out _ (HZ.out.trans (hSw.mono HZ.out.size)); go_simp); simp only [lsz, lss])
      (refine htk 10 105 (.bool false) rfl ?_ ?_; (intro w hSw; clear hSw; first | rfl | go_simp); simp only [lsz, lss])
      (refine htk 11 106 (.bool false) rfl ?_ ?_; (intro w hSw; clear hSw; first | rfl | go_simp); simp only [lsz, lss])
      (refine htk 12 107 (.bool false) rfl ?_ ?_; (intro w hSw; clear hSw; first | rfl | go_simp); simp only [lsz, lss])
      (refine htk 13 108 ?_ rfl ?_ ?_; rotate_left; (intro w hSw; clear hSw; go_simp); (try with_reducible rfl); simp only [lsz, lss])
      (refine htk 14 109 (.agg #[.int .i64 x.kind, .int .i64 x.fn, .int .i64 x.op, .int .i64 x.num, .string x.metric, .slice xm x.mats.length xcm, .int .i64 x.span, .slice xn x.names.length xcn, .slice xk x.kids.length xck]) rfl ?_ ?_; (intro w hSw; have bb := BX.out.keep hSw; have p0 := bb.cell 0 _ rfl; have p1 := bb.cell 1 _ rfl; have p2 := bb.cell 2 _ rfl; have p3 := bb.cell 3 _ rfl; have p4 := bb.cell 4 _ rfl; have p5 := bb.cell 5 _ rfl; have p6 := bb.cell 6 _ rfl; have p7 := bb.cell 7 _ rfl; have p8 := bb.cell 8 _ rfl; have p9 := bb.cell 9 _ rfl; go_simp); simp only [lsz, lss])
      (refine htk 15 110 ?_ rfl ?_ ?_; rotate_left; (intro w hSw; clear hSw; go_simp); (try with_reducible rfl); simp only [lsz, lss])
      (refine htk 16 111 ?_ rfl ?_ ?_; rotate_left; (intro w hSw; clear hSw; go_simp); (try with_reducible rfl); simp only [lsz, lss])
      (refine htk 17 112 ?_ rfl ?_ ?_; rotate_left; (intro w hSw; clear hSw; go_simp); (try with_reducible rfl); simp only [lsz, lss])
      (refine htk 18 113 ?_ rfl ?_ ?_; rotate_left; (intro w hSw; clear hSw; go_simp); (try with_reducible rfl); simp only [lsz, lss])
      (refine htk 19 114 (.agg #[.int .i64 x.kind, .int .i64 x.fn, .int .i64 x.op, .int .i64 x.num, .string x.metric, .slice rm x.mats.length sm, .int .i64 x.span, .slice rn x.names.length sn, .slice rk x.kids.length sk]) rfl ?_ ?_; (intro w hSw; obtain ⟨q, q0, q1, q2, q3, q4, q5, q6, q7, q8⟩ := HCq.out _ (HZ.out.trans (hSw.mono HZ.out.size)); go_simp); simp only [lsz, lss])
      refine hrd 20 rfl (fun K hK => ?_); rw [if_pos (by kernel_rfl)]
      go_simp
      refine (kExprS x _ _ y15.heap.size _ HS.out.size (HX1.out.mono HS.out (Nat.le_refl _)) (HX2.out.mono HS.out (Nat.le_refl _))).mono ?_; rintro e' vv ⟨rfl, hb⟩; have HS := Lib.hid (HS.out.trans (hb.mono HS.out.size)); clear hb
      dsimp only
      refine hK.out _ _ HS.out (fun hHeld => ?_); clear hK K
      (try simp only [Act.put, lsa, lsz, lss])
      (refine htk 21 116 (.bool false) rfl ?_ ?_; (intro w hSw; clear hSw; first | rfl | go_simp); simp only [lsz, lss])
      (refine htk 22 117 (.bool false) rfl ?_ ?_; (intro w hSw; clear hSw; first | rfl | go_simp); simp only [lsz, lss])
      (refine htk 23 118 (.bool false) rfl ?_ ?_; (intro w hSw; clear hSw; first | rfl | go_simp); simp only [lsz, lss])
      (refine htk 24 119 ?_ rfl ?_ ?_; rotate_left; (intro w hSw; clear hSw; go_simp); (try with_reducible rfl); simp only [lsz, lss])
      (refine htk 25 120 ?_ rfl ?_ ?_; rotate_left; (intro w hSw; clear hSw; go_simp); (try with_reducible rfl); simp only [lsz, lss])
      (refine htk 26 121 ?_ rfl ?_ ?_; rotate_left; (intro w hSw; clear hSw; go_simp); (try with_reducible rfl); simp only [lsz, lss])
      (refine htk 27 122 ?_ rfl ?_ ?_; rotate_left; (intro w hSw; clear hSw; go_simp); (try with_reducible rfl); simp only [lsz, lss])
      (refine htk 28 123 (.int .i64 ((k : Int) + 1)) rfl ?_ ?_; (intro w hSw; have q := HCr.out _ (HZ.out.trans (hSw.mono HZ.out.size)); go_simp); simp only [lsz, lss])
      (refine htk 30 125 ?_ rfl ?_ ?_; rotate_left; (intro w hSw; clear hSw; go_simp); (try with_reducible rfl); simp only [lsz, lss])
      (refine htk 31 126 ?_ rfl ?_ ?_; rotate_left; (intro w hSw; clear hSw; go_simp); (try with_reducible rfl); simp only [lsz, lss])
      (refine htk 32 127 ?_ rfl ?_ ?_; rotate_left; (intro w hSw; clear hSw; go_simp); (try with_reducible rfl); simp only [lsz, lss])
      (refine htk 33 128 ?_ rfl ?_ ?_; rotate_left; (intro w hSw; clear hSw; go_simp); (try with_reducible rfl); simp only [lsz, lss])
      (refine htk 34 129 (.agg #[.int .i64 x.kind, .int .i64 x.fn, .int .i64 x.op, .int .i64 x.num, .string x.metric, .slice rm x.mats.length sm, .int .i64 x.span, .slice rn x.names.length sn, .slice rk x.kids.length sk]) rfl ?_ ?_; (intro w hSw; obtain ⟨q, q0, q1, q2, q3, q4, q5, q6, q7, q8⟩ := HCq.out _ (HZ.out.trans (hSw.mono HZ.out.size)); go_simp); simp only [lsz, lss])
      refine hrd 29 rfl (fun K hK => ?_); rw [if_pos (by kernel_rfl)]
      go_simp
      refine (HHor.out _ (HZ.out.trans (HS.out.mono HZ.out.size))).mono ?_; rintro e' vv ⟨rfl, hb⟩; have HS := Lib.hid (HS.out.trans (hb.mono HS.out.size)); clear hb
      dsimp only
      refine hK.out _ _ HS.out (fun hHeld => ?_); clear hK K
      (try simp only [Act.put, lsa, lsz, lss])
      refine hrd 35 rfl (fun K hK => ?_); rw [if_pos (by kernel_rfl)]
      go_simp
      refine (HRHor.out _ (HZ.out.trans (HS.out.mono HZ.out.size))).mono ?_; rintro e' vv ⟨rfl, hb⟩; have HS := Lib.hid (HS.out.trans (hb.mono HS.out.size)); clear hb
      dsimp only
      refine hK.out _ _ HS.out (fun hHeld => ?_); clear hK K
      (try simp only [Act.put, lsa, lsz, lss])
      (refine htk 36 131 (.bool false) rfl ?_ ?_; (intro w hSw; clear hSw; first | rfl | go_simp); simp only [lsz, lss])
      (refine htk 37 132 (.bool false) rfl ?_ ?_; (intro w hSw; clear hSw; first | rfl | go_simp); simp only [lsz, lss])
      refine wpAnyH_done (by kernel_rfl) ?_ _; go_wp2
      go_meet
      exact ⟨rfl, HS.out⟩
    case rest =>
      obtain ⟨rfl, hb⟩ := hcut; obtain ⟨y9, rfl⟩ : ∃ z, z = wc := ⟨_, rfl⟩; have HB := Lib.hid (HB.out.trans (hb.mono HB.out.size)); have HB1 := Lib.hid (HB1.out.trans (hb.mono HB1.out.size)); have HBl := Lib.hid (HBl.out.trans (hb.mono HBl.out.size)); have HZ := Lib.hid (HZ.out.trans (hb.mono HZ.out.size)); clear hb; clear HX1 HX2 BX HHor HRHor HCq HW0; have HY := Lib.hid (fun h => kept_yes (ns := ns) (bs := bs) (i := i) h); have HN := Lib.hid (fun h => kept_no (ns := ns) (bs := bs) (i := i) h); rw [HgD.out] at HY; clear HgD; obtain ⟨kl, hkl⟩ : ∃ z, kept ns bs i = z := ⟨_, rfl⟩; have hkn : kl.length ≤ 12 := by have h1 := kept_len ns bs i; have h2 := H12.out; rw [hkl] at h1; omega
      rw [hkl] at HK HY HN; clear hkl
      by_cases hib : i < bs.length
      · have hibi : (i : Int) < (bs.length : Int) := by omega
        obtain ⟨bb, ob, rfl, hbb, cb0⟩ := (HBs.out.mono HB.out (Nat.le_refl _)).get hib; have hgd : bs.getD i false = bs[i] := by rw [List.getD_eq_getElem?_getD, List.getElem?_eq_getElem hib]; rfl
        rw [hgd] at HY HN; clear hgd; generalize bs[i] = bi at *; cases bi
        · go_wp2
          exact ⟨⟨i + 1, by omega, by go_num, by rw [HN.out (by decide)]; exact HK.out.keep HZ.out, HBl.out⟩, by simp [intOf]; omega⟩
        · have cr2 := HCr.out _ HZ.out
          have HKq := Lib.hid (HK.out.keep HZ.out); have hbz : y13.heap.size ≤ y9.heap.size := HBl.out.size
          go_wp2_with (at_builtin; refine app_int rfl _ _ rfl (y13.heap.size) _ kl ((k : Int) + 1) y9.heap.size rfl rfl (HKq.out.keep ((Below.refl _ _).alloc (Nat.le_refl _) _)) (by go_simp) (by omega) (by simp; omega) ?_)
          intro vk' w4 hown4 hg4 hat4; have bA : Below y9.heap.size y9 (y9.alloc (.cells #[.int .i64 ((k : Int) + 1)] 3)) := (Below.refl _ _).alloc (Nat.le_refl _) _; have hb4 := below_app (HBl.out.trans (bA.mono HBl.out.size)) (HKq.out.keep bA) hg4 (Nat.le_refl _) (by simp; omega); have Hb4 := Lib.hid hb4; have Hown4 := Lib.hid hown4; clear hb4 hown4 hg4 hat4 bA cr2; go_wp2; exact ⟨⟨i + 1, by omega, by go_num, by rw [HY.out (by first | rfl | trivial)]; exact Hown4.out, Hb4.out⟩, by simp [intOf]; omega⟩
      · have hibi : ¬ (i : Int) < (bs.length : Int) := by omega
        have hgd : ¬ bs.getD i false = true := by rw [List.getD_eq_getElem?_getD, List.getElem?_eq_none (by omega)]; simp
        have HKn := Lib.hid (HN.out hgd); clear hgd HN HY; go_wp2; exact ⟨⟨i + 1, by omega, by go_num, by rw [HKn.out]; exact HK.out.keep HZ.out, HBl.out⟩, by simp [intOf]; omega⟩
end Go.Proofs.YtdjdikiimhhjpaaDoor
