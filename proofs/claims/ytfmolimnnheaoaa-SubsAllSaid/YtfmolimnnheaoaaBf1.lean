/- SubsAll's walk. -/
import Derived.Test.YtfmolimnnheaoaaBf0
import Derived.Outline
import Derived.Deep.CutRange
import Derived.Deep.CutBlock
namespace Go.Proofs.Ytfmolimnnheaoaa
open Go.RowKit
set_option linter.unusedSimpArgs false
set_option linter.unusedVariables false
open Go.Maps

def AllR (base g hq hs xq N : Nat) (W0 : World) (s8 s9 s10 s11 s12 : Value) (wr : World) : Prop :=
  ∃ (i : Nat) (put : List Int) (k a : Nat) (t : Int), i ≤ N ∧ s12 = .int .i64 i ∧ s11 = .int .i64 t ∧ s10 = .int .i64 a ∧ OwnI 2 base wr s8 put ∧ OwnI 2 base wr s9 (put.take k) ∧ Dis s8 s9 ∧ Stt base g hq hs xq i wr put k a t ∧ Below base W0 wr
def MidR (base g hq hs xq i : Nat) (W0 : World) (s8 s9 s10 s11 : Value) (wr : World) : Prop :=
  ∃ (put : List Int) (k a : Nat) (t : Int), s11 = .int .i64 t ∧ s10 = .int .i64 a ∧ OwnI 2 base wr s8 put ∧ OwnI 2 base wr s9 (put.take k) ∧ Dis s8 s9 ∧ Stt base g hq hs xq (i + 1) wr put k a t ∧ Below base W0 wr
theorem stt_start {base g hq hs xq nq ns : Nat} {W : World} {kv : Value} {bl : List Nat} {room : Int} (h : BrdM base W g hq hs nq ns (some xq) (⟨room, [], 0, 0, [⟨1, 0, 0⟩], 2⟩ : Bd) kv bl) (hn : ns ≤ 1) : Stt base g hq hs xq 0 W [] 0 0 0 :=
  ⟨nq, ns, _, kv, bl, h, ⟨⟨List.Pairwise.nil, by simp, by simp, Int.le_refl _, rfl, Int.le_refl _, by simp [lastK], ⟨⟨1, 0, 0⟩, by simp, rfl⟩, by simp, by simp, by simp [lastK]⟩, Nat.le_refl _, Nat.le_refl _, ⟨by simp, by simp⟩, Int.le_refl _, by decide, Nat.le_refl _⟩, hn, trivial⟩
theorem SttP.facts {P : Bd → Prop} {base g hq hs xq i : Nat} {W : World} {put : List Int} {k a : Nat} {t : Int} (h : SttP P base g hq hs xq i W put k a t) : a ≤ k ∧ k ≤ put.length ∧ put.length ≤ i ∧ 0 ≤ t ∧ t ≤ 9 * (i : Int) := by
  obtain ⟨nq, ns, b, kv, bl, h1, h2, h3, h4⟩ := h
  exact ⟨h2.ak, h2.kp, h2.pl, h2.t0.1, h2.t0.2⟩
theorem own_k {t base k : Nat} {w : World} {v : Value} {l : List Int} (h : OwnI t base w v l) (hk : l.length = k) : ∃ p c, v = .slice p k c ∧ k ≤ c ∧ c ≤ maxLen := by
  subst hk
  obtain ⟨p, c, h1, h2, h3, _⟩ := (h.ints (Nat.le_refl _)).open
  exact ⟨p, c, h1, h2, h3⟩
theorem Dis.cut {v : Value} {p : Option Addr} {k a c : Nat} (h : Dis v (.slice p k c)) : Dis v (.slice p a c) := fun g h1 h2 => h g h1 (by cases p <;> exact h2)
theorem OwnI.lt {t base : Nat} {w : World} {v : Value} {l : List Int} (h : OwnI t base w v l) {g : Nat} (hg : v.ownBlock = some g) : g < w.heap.size := (ownsRow_block h g hg).2
/-- Behind an append to the one list, the other one and the board are as they were. -/
theorem grow_one {P : Bd → Prop} {base g hq hs xq i : Nat} {X w' W0 : World} {put gl ul : List Int} {k a : Nat} {t : Int} {u v' u' : Value} {o : Obj} (hO : OwnI 2 base X u ul) (hO2 : OwnI 2 base X u' gl) (hD : Dis u u')
    (hS : SttP P base g hq hs xq i X put k a t) (hB : Below base W0 X) (hx : base ≤ X.heap.size) (hg : (X.alloc o).grownBy w' u.ownBlock) (hat : v'.ownBlock = u.ownBlock ∨ v'.ownBlock = some (X.heap.size + 1)) :
    OwnI 2 base w' u' gl ∧ Dis v' u' ∧ SttP P base g hq hs xq i w' put k a t ∧ Below base W0 w' ∧ base ≤ w'.heap.size := by
  have ha := (Below.refl X.heap.size X).alloc (Nat.le_refl _) o
  have hz := ha.size
  have hB' := below_app (hB.trans (ha.mono hx)) (hO.keep ha) hg (Nat.le_refl _) (by omega)
  refine ⟨(hO2.keep ha).offM (OffM.grown hg) (fun m h1 h2 => hD m h2 h1), ?_, (hS.keep ha).grown (hO.keep ha) hg, hB', Nat.le_trans hx (Nat.le_trans hz hg.size)⟩
  intro m h1 h2
  rcases hat with h | h
  · exact hD m (by rw [← h]; exact h1) h2
  · rw [h] at h1
    cases h1
    have := (hO2).lt h2
    omega
theorem told_keep {lo base : Nat} {X w' : World} {u v : Value} {ul L : List Int} {o : Obj} (h : OwnT lo X v L) (hO : OwnI 2 base X u ul) (hg : (X.alloc o).grownBy w' u.ownBlock) : OwnT lo w' v L := by
  have ha := (Below.refl X.heap.size X).alloc (Nat.le_refl _) o
  exact own_other (h.keep ha) (hO.keep ha) (by decide) hg
theorem lastK_at {put : List Int} {k j : Nat} (h : j < (put.take k).length) : (put.take k)[j] = lastK put (j + 1) := by
  have h1 : j < put.length := by rw [List.length_take] at h; omega
  unfold lastK
  rw [last_take h1, List.getElem_take]
def PolR (base g hq hs xq i : Nat) (W0 : World) (u8 : Value) (put : List Int) (k a m : Nat) (t : Int) (v2 : Value) (L : List Int) (s9 s16 : Value) (wl : World) : Prop :=
  ∃ j : Nat, j ≤ m ∧ s16 = .int .i64 j ∧ OwnI 2 base wl s9 (put.take (k + j)) ∧ OwnI 2 base wl u8 put ∧ Dis s9 u8 ∧ Stt base g hq hs xq i wl put (k + m) a t ∧ Below base W0 wl ∧ OwnT base wl v2 L ∧ base ≤ wl.heap.size
theorem pol_at {put L : List Int} {k j : Nat} {c : Int} (h : L = (put.drop k).take (max 0 c).toNat) (hj : j < L.length) : put.take (k + j + 1) = put.take (k + j) ++ [L[j]] := by
  subst h
  rw [List.length_take, List.length_drop] at hj
  rw [List.take_succ_eq_append_getElem (by omega), List.getElem_take, List.getElem_drop]
set_option maxRecDepth 100000 in
set_option maxHeartbeats 16000000 in
theorem wAll (room : Int) (l : List CallR) (v : Value) (W : World) (hroom : i64 room) (hl : Arr W.heap.size W v 7 (l.map CallR.cells)) (hok : ∀ c ∈ l, c.ok ∧ ∃ vec, IsVec 3 W.heap.size W c.res vec) :
    Calls Try.prog 3 #[.int .i64 room, v] W fun e w' => e = .returned (.bool true) ∧ Below W.heap.size W w' := by
  obtain ⟨p, cap, rfl, h1, h2, -⟩ := id hl
  have hll : (l.map CallR.cells).length = l.length := List.length_map _
  rw [hll] at h1 hl ⊢
  unfold maxLen at h2
  have hlen : (l.length : Int) ≤ 9223372036854775807 := by omega
  have HL := Lib.hid hl; have HOK := Lib.hid hok; have HR := Lib.hid hroom
  have HLL := Lib.hid hll
  clear hl hok hroom hll
  have HP := Lib.hid (pick_bd room 12 (by decide))
  have HB := Lib.hid (Below.refl W.heap.size W)
  go_enter Try.func3, Try.ntmps3; (try simp only [List.append_eq, List.cons_append, List.nil_append])
  go_wp2_with fail
  refine (bLives _).mono ?_
  rintro e w0 ⟨rfl, hb⟩
  have HB := Lib.hid (HB.out.trans (hb.mono HB.out.size)); clear hb
  go_wp2_with fail
  refine (kPick room 12 _ HR.out ⟨by omega, by omega⟩).mono ?_
  rintro e w1 ⟨rfl, rfl⟩
  obtain ⟨pk, hpk⟩ : ∃ z, pick room 12 = z := ⟨_, rfl⟩
  rw [hpk] at HP ⊢
  clear hpk
  have hp1 := HP.out
  obtain ⟨hp2, hp3⟩ := hp1
  go_wp2_with fail
  refine (bNew (room := 1 + pk) ⟨by omega, by omega⟩ _).mono ?_
  rintro e w2 ⟨g, hq, hs, rfl, hB, hb⟩
  obtain ⟨base, hbase⟩ : ∃ z, w0.heap.size = z := ⟨_, rfl⟩
  have hbs : W.heap.size ≤ base := by have := HB.out.size; omega
  rw [hbase] at hB hb
  have H := Lib.hid hB; have HB0 := Lib.hid (HB.out.trans (hb.mono (by omega))); clear hB HB
  have hbw : base ≤ w2.heap.size := by have := hb.size; omega
  clear hb hbase
  go_wp2_with fail
  refine (bOpen (mark := 0) H.out rfl ⟨by omega, by omega⟩ (by omega) hbw).mono ?_
  rintro e w3 ⟨rfl, xq, hB, ho⟩
  have H := Lib.hid (show BrdM base w3 g hq hs (0 + 1) 0 (some xq) (⟨1 + pk, [], 0, 0, [], 1⟩ : Bd) (.slice none 0 0) [] from hB)
  have HB := Lib.hid (ho.below (fun k hk => hk.1) hbw)
  have hbw := Nat.le_trans hbw HB.out.size
  have HB0 := Lib.hid (HB0.out.trans (HB.out.mono hbs))
  clear hB ho HB
  go_wp2_with fail
  have hC := bSubscribe H.out hbw (by simp) (by decide)
  rw [show joinB (⟨1 + pk, [], 0, 0, [], 1⟩ : Bd) ((⟨1 + pk, [], 0, 0, [], 1⟩ : Bd)).last = ((⟨1 + pk, [], 0, 0, [⟨1, 0, 0⟩], 2⟩ : Bd), 1, 0) from rfl] at hC
  refine hC.mono ?_
  clear hC
  rintro e w4 ⟨rfl, ns, bl, hns, hB, ho⟩
  have HB := Lib.hid (ho.below (fun k hk => hk.1) hbw)
  have hbw := Nat.le_trans hbw HB.out.size
  have HB0 := Lib.hid (HB0.out.trans (HB.out.mono hbs))
  have HS := Lib.hid (stt_start hB (by omega))
  clear hB ho HB H hns
  go_wp2_with fail
  have HC := Lib.hid (show IsCalls w4.heap.size w4 (.slice p l.length cap) (l.map CallR.cells) from ⟨Arr.mono HL.out HB0.out HB0.out.size, fun r hr => by
    obtain ⟨c, hc, rfl⟩ := List.mem_map.1 hr
    obtain ⟨-, vec, hv⟩ := HOK.out c hc
    exact ⟨c.res, vec, rfl, Arr.mono hv.1 HB0.out HB0.out.size, fun r hr => by obtain ⟨a, c, h8, h9⟩ := hv.2 r hr; exact ⟨a, c, h8, Arr.mono h9 HB0.out HB0.out.size⟩⟩⟩)
  refine (bSmallN HC.out (Nat.le_refl _)).mono ?_
  clear HC
  rintro e w5 ⟨hA, hb⟩
  rw [HLL.out] at hA
  have HS := Lib.hid (HS.out.keep hb)
  have hbw := Nat.le_trans hbw hb.size
  have HB0 := Lib.hid (HB0.out.trans (hb.mono HB0.out.size))
  clear hb
  rcases hA with ⟨⟨bb, rfl⟩, h60⟩ | rfl
  case inr =>
    go_wp2
    go_ret
    exact ⟨rfl, HB0.out⟩
  cases bb with
  | false =>
    go_wp2
    go_ret
    exact ⟨rfl, HB0.out⟩
  | true =>
    have hl60 : (l.length : Int) ≤ 60 := by omega
    obtain ⟨N, hN⟩ : ∃ z, l.length = z := ⟨_, rfl⟩
    rw [hN] at h60 hl60 HL hlen h1 ⊢
    have HN := Lib.hid hN
    clear hN HLL
    go_wp2_with fail
    go_loopw [8, 9, 10, 11, 12] (fun s8 s9 s10 s11 s12 wr => AllR base g hq hs xq N w5 s8 s9 s10 s11 s12 wr) (fun _ _ _ _ s12 _ => N - (intOf s12).toNat)
    case atStart => exact ⟨0, [], 0, 0, 0, Nat.zero_le _, rfl, rfl, rfl, OwnI.nil, OwnI.nil, (fun g h => by cases h), HS.out, Below.refl _ _⟩
    case round =>
      obtain ⟨i, put, k, a, t, hi, rfl, rfl, rfl, hO8, hO9, hd, hst, hb⟩ := hrel
      have hbw2 : base ≤ wr.heap.size := by have := hb.size; omega
      have HO8 := Lib.hid hO8; have HO9 := Lib.hid hO9; have HD := Lib.hid hd; have HST := Lib.hid hst; have HB := Lib.hid hb
      clear hO8 hO9 hd hst hb
      by_cases hlt : i < N
      · have hki : (i : Int) < (N : Int) := by omega
        obtain ⟨c, hc⟩ : ∃ c, l[i]? = some c := ⟨_, List.getElem?_eq_getElem (by have := HN.out; omega)⟩
        obtain ⟨b1, o1, rfl, hb1, hcell⟩ := Arr.at (Arr.mono HL.out (HB0.out.trans (HB.out.mono hbs)) (Nat.le_trans hbs hbw2)) i c.cells (by rw [List.getElem?_map, hc]; rfl)
        have hC := HOK.out _ (List.mem_of_getElem? hc)
        obtain ⟨ck, cq, cs, ct, ctt, cr, cn⟩ := c
        obtain ⟨hC, vec, hv⟩ := hC
        obtain ⟨pv, cv, hcr, -⟩ := id hv.1
        have hcr : cr = _ := hcr
        subst hcr
        clear hv
        obtain ⟨vl, hvl⟩ : ∃ z, vec.length = z := ⟨_, rfl⟩
        rw [hvl] at hcell
        clear hvl
        have d0 : wr.cell? ⟨b1, o1 + i * 7, none⟩ = some (.int .i64 ck) := by simpa using hcell 0 _ rfl
        have d1 : wr.cell? ⟨b1, o1 + i * 7 + 1, none⟩ = some (.int .i64 cq) := hcell 1 _ rfl
        have d2 : wr.cell? ⟨b1, o1 + i * 7 + 2, none⟩ = some (.int .i64 cs) := hcell 2 _ rfl
        have d3 : wr.cell? ⟨b1, o1 + i * 7 + 3, none⟩ = some (.int .i64 ct) := hcell 3 _ rfl
        have d4 : wr.cell? ⟨b1, o1 + i * 7 + 4, none⟩ = some (.int .i64 ctt) := hcell 4 _ rfl
        have d5 : wr.cell? ⟨b1, o1 + i * 7 + 5, none⟩ = some (.slice pv vl cv) := hcell 5 _ rfl
        have d6 : wr.cell? ⟨b1, o1 + i * 7 + 6, none⟩ = some (.int .i64 cn) := hcell 6 _ rfl
        have hbw1 : b1 < wr.heap.size := by omega
        have HCok := Lib.hid hC
        clear hcell hc hC
        have HBk := Lib.hid (Blk.new wr [.int .i64 ck, .int .i64 cq, .int .i64 cs, .int .i64 ct, .int .i64 ctt, .slice pv vl cv, .int .i64 cn] 38)
        have ho0 := (Below.refl wr.heap.size wr).alloc (Nat.le_refl _) (.cells #[.int .i64 ck, .int .i64 cq, .int .i64 cs, .int .i64 ct, .int .i64 ctt, .slice pv vl cv, .int .i64 cn] 38)
        have HO8 := Lib.hid (HO8.out.keep ho0); have HO9 := Lib.hid (HO9.out.keep ho0); have HST := Lib.hid (HST.out.keep ho0); have HB := Lib.hid (HB.out.trans (ho0.mono hbw2))
        have hbw3 := Nat.le_trans hbw2 ho0.size
        clear ho0
        go_upto_region 19 with (refine wpList_store_new rfl 38 _ _ rfl #[.int .i64 ck, .int .i64 cq, .int .i64 cs, .int .i64 ct, .int .i64 ctt, .slice pv vl cv, .int .i64 cn] _ _ rfl rfl (by kernel_rfl) rfl (by kernel_rfl) ?_)
        clear d0 d1 d2 d3 d4 d5 d6 hbw1 hb1 hbw2
        obtain ⟨xg, hxg0⟩ : ∃ z, wr.heap.size = z := ⟨_, rfl⟩
        obtain ⟨wz, hwz⟩ : ∃ z, wr.alloc (.cells #[.int .i64 ck, .int .i64 cq, .int .i64 cs, .int .i64 ct, .int .i64 ctt, .slice pv vl cv, .int .i64 cn] 38) = z := ⟨_, rfl⟩
        rw [show wr.alloc (.cells ([.int .i64 ck, .int .i64 cq, .int .i64 cs, .int .i64 ct, .int .i64 ctt, .slice pv vl cv, .int .i64 cn] : List Value).toArray 38) = wz from hwz] at HBk
        rw [hwz] at HO8 HO9 HST HB hbw3 ⊢
        rw [hxg0] at HBk ⊢
        clear hwz hxg0
        have hbw2 := hbw3
        clear hbw3
        have hxg := HBk.out.lt
        have f0 := HBk.out.cell 0 _ rfl
        go_upto_block 2 with (refine (kPick ck 11 _ HCok.out.1 ⟨by omega, by omega⟩).mono ?_; rintro e x1 ⟨rfl, rfl⟩)
        obtain ⟨pc, hpc⟩ : ∃ z, pick ck 11 = z := ⟨_, rfl⟩
        have HPC := Lib.hid (pick_bd ck 11 (by decide))
        rw [hpc] at HPC ⊢
        clear hpc f0
        go_cut [8, 9, 10, 11, 14, 15, 16, 17] from 47 to 208 (fun s8 s9 s10 s11 s14 s15 s16 s17 wx => MidR base g hq hs xq i w5 s8 s9 s10 s11 wx)
        case first =>
          have hpc := HPC.out
          obtain ⟨hpc0, hpc1⟩ := hpc
          have hfa := HST.out.facts
          obtain ⟨hak, hkp, hpi, ht0, ht1⟩ := hfa
          have hi60 : (i : Int) ≤ 60 := by omega
          have ht2 : t ≤ 540 := by omega
          by_cases h5 : pc = 5
          · subst h5
            go_wp2_with fail
            refine (stSub HST.out (by omega) hbw2).mono ?_
            rintro e x2 ⟨⟨xx, yy, rfl⟩, hS, ho⟩
            have HST := Lib.hid hS; clear hS
            have HO8 := Lib.hid (HO8.out.offB ho); have HO9 := Lib.hid (HO9.out.offB ho); have HBk := Lib.hid (HBk.out.offB ho); have HB := Lib.hid (HB.out.trans (ho.below (fun k hk => hk.1) hbw2)); have hbw2 := Nat.le_trans hbw2 ho.size; have hxg := HBk.out.lt; clear ho
            go_wp2
            go_meet
            exact ⟨put, k, a, t, rfl, rfl, HO8.out, HO9.out, HD.out, HST.out, HB.out⟩
          by_cases h6 : pc = 6
          · subst h6
            have f3 := HBk.out.cell 3 _ rfl
            go_wp2_with fail
            refine (stResume ct HST.out (by omega) hbw2).mono ?_
            rintro e x2 ⟨⟨xx, yy, rfl⟩, hS, ho⟩
            have HST := Lib.hid hS; clear hS f3
            have HO8 := Lib.hid (HO8.out.offB ho); have HO9 := Lib.hid (HO9.out.offB ho); have HBk := Lib.hid (HBk.out.offB ho); have HB := Lib.hid (HB.out.trans (ho.below (fun k hk => hk.1) hbw2)); have hbw2 := Nat.le_trans hbw2 ho.size; have hxg := HBk.out.lt; clear ho
            go_wp2
            go_meet
            exact ⟨put, k, a, t, rfl, rfl, HO8.out, HO9.out, HD.out, HST.out, HB.out⟩
          by_cases h7 : pc = 7 ∨ pc = 9 ∨ pc = 10
          · have e5 : (pc == 5) = false := by simpa using h5
            have e6 : (pc == 6) = false := by simpa using h6
            have H7 := Lib.hid h7
            clear h5 h6 h7
            go_upto_if 93 with fail
            go_cut [93] from 95 to 96 (fun s wx => s = .bool true ∧ wx = wz)
            case first =>
              rcases H7.out with rfl | rfl | rfl
              all_goals
                go_wp2
                go_meet
                exact ⟨rfl, rfl⟩
            case rest =>
              obtain ⟨rfl, rfl⟩ := hcut
              obtain ⟨wz, rfl⟩ : ∃ z, z = wc := ⟨_, rfl⟩
              clear e5 e6
              by_cases hs1 : cs = 1
              · subst hs1
                have HK := Lib.hid (show (put.take k).length = k by rw [List.length_take]; omega)
                obtain ⟨p9, c9, h9, hc1, hc2⟩ := own_k HO9.out HK.out
                subst h9
                unfold maxLen at hc2
                have f2 := HBk.out.cell 2 _ rfl
                have f5 := HBk.out.cell 6 _ rfl
                by_cases hn2 : cn.tmod 2 = 0
                · have e2 : (cn.tmod 2 == 0) = true := by simpa using hn2
                  have hac : (a : Int) ≤ (c9 : Int) := by omega
                  have hac0 : (0 : Int) ≤ (a : Int) := by omega
                  have HO9b := Lib.hid (show OwnI 2 base wz (.slice p9 a c9) (put.take a) from by
                    have h9 := HO9.out.cut (k := a) (by rw [HK.out]; exact hak)
                    rw [List.take_take, Nat.min_eq_left hak] at h9
                    exact h9)
                  go_wp2_with fail
                  refine (stBack HST.out).mono ?_
                  rintro e x2 ⟨rfl, hS, ho⟩
                  have HST := Lib.hid hS; clear hS f2 f5
                  have HO9b := Lib.hid (HO9b.out.offB ho)
                  have HO8 := Lib.hid (HO8.out.offB ho); have HO9 := Lib.hid (HO9.out.offB ho); have HBk := Lib.hid (HBk.out.offB ho); have HB := Lib.hid (HB.out.trans (ho.below (fun k hk => hk.1) hbw2)); have hbw2 := Nat.le_trans hbw2 ho.size; have hxg := HBk.out.lt; clear ho
                  go_wp2
                  exact ⟨⟨i + 1, put, a, a, t, by omega, by go_num, rfl, rfl, HO8.out, HO9b.out, HD.out.cut, HST.out.more, HB.out⟩, by simp [intOf]; omega⟩
                · have e2 : (cn.tmod 2 == 0) = false := by simpa using hn2
                  go_wp2_with fail
                  refine (kPick cn ((k : Int) - (a : Int) + 1) _ HCok.out.2.2.2.2.2 ⟨by omega, by omega⟩).mono ?_
                  rintro e x2 ⟨rfl, rfl⟩
                  obtain ⟨r, hr⟩ : ∃ z, pick cn ((k : Int) - (a : Int) + 1) = z := ⟨_, rfl⟩
                  have hrb := pick_bd cn ((k : Int) - (a : Int) + 1) (by omega)
                  rw [hr] at hrb ⊢
                  clear hr
                  obtain ⟨a', ha'⟩ : ∃ z : Nat, (z : Int) = (k : Int) - r := ⟨((k : Int) - r).toNat, by omega⟩
                  obtain rfl : r = (k : Int) - (a' : Int) := by omega
                  have haa : a ≤ a' := by omega
                  have hak2 : a' ≤ k := by omega
                  clear ha' hrb
                  go_upto_region 42 with fail
                  (try rw [show (k : Int) - ((k : Int) - (a' : Int)) = (a' : Int) by omega])
                  cases a' with
                  | zero =>
                    obtain rfl : a = 0 := by omega
                    go_wp2
                    go_meet
                    exact ⟨put, k, 0, t, rfl, rfl, HO8.out, HO9.out, HD.out, HST.out.more, HB.out⟩
                  | succ a1 =>
                    have ha1 : a1 < (put.take k).length := by rw [HK.out]; omega
                    obtain ⟨bg, og, rfl, hbg, hcell⟩ := (HO9.out.ints (Nat.le_refl _)).get (k := a1) ha1
                    have HX := Lib.hid (lastK_at ha1)
                    obtain ⟨xa, hxa⟩ : ∃ z, (put.take k)[a1] = z := ⟨_, rfl⟩
                    rw [hxa] at hcell HX
                    clear hxa
                    have hpos : (0 : Int) < ((a1 + 1 : Nat) : Int) := by omega
                    have hlt1 : a1 < k := by omega
                    have hlt2 : (a1 : Int) < (k : Int) := by omega
                    go_wp2_with fail
                    refine (stAck (a' := a1 + 1) HST.out haa hak2 HX.out hbw2).mono ?_
                    rintro e x3 ⟨rfl, hS, ho⟩
                    have HST := Lib.hid hS; clear hS f2 f5 hcell
                    have HO8 := Lib.hid (HO8.out.offB ho); have HO9 := Lib.hid (HO9.out.offB ho); have HBk := Lib.hid (HBk.out.offB ho); have HB := Lib.hid (HB.out.trans (ho.below (fun k hk => hk.1) hbw2)); have hbw2 := Nat.le_trans hbw2 ho.size; have hxg := HBk.out.lt; clear ho
                    go_wp2
                    go_meet
                    exact ⟨put, k, a1 + 1, t, rfl, by go_num, HO8.out, HO9.out, HD.out, HST.out.more, HB.out⟩
              · have e1 : (cs != 1) = true := by simpa using hs1
                have f2 := HBk.out.cell 2 _ rfl
                go_wp2_with fail
                refine (stGone HST.out hs1 HCok.out.2.2.1 hbw2).mono ?_
                rintro e x2 ⟨⟨xx, rfl⟩, hS, ho⟩
                have HST := Lib.hid hS; clear hS f2
                have HO8 := Lib.hid (HO8.out.offB ho); have HO9 := Lib.hid (HO9.out.offB ho); have HBk := Lib.hid (HBk.out.offB ho); have HB := Lib.hid (HB.out.trans (ho.below (fun k hk => hk.1) hbw2)); have hbw2 := Nat.le_trans hbw2 ho.size; have hxg := HBk.out.lt; clear ho
                have f2 := HBk.out.cell 2 _ rfl
                go_wp2_with fail
                refine (stBackN HST.out HCok.out.2.2.1).mono ?_
                rintro e x3 ⟨⟨xx, rfl⟩, hS, ho⟩
                have HST := Lib.hid hS; clear hS f2
                have HO8 := Lib.hid (HO8.out.offB ho); have HO9 := Lib.hid (HO9.out.offB ho); have HBk := Lib.hid (HBk.out.offB ho); have HB := Lib.hid (HB.out.trans (ho.below (fun k hk => hk.1) hbw2)); have hbw2 := Nat.le_trans hbw2 ho.size; have hxg := HBk.out.lt; clear ho
                have f2 := HBk.out.cell 2 _ rfl
                have f3 := HBk.out.cell 3 _ rfl
                go_wp2_with fail
                refine (stAckN ct HST.out HCok.out.2.2.1 hbw2).mono ?_
                rintro e x4 ⟨⟨xx, rfl⟩, hS, ho⟩
                have HST := Lib.hid hS; clear hS f2 f3
                have HO8 := Lib.hid (HO8.out.offB ho); have HO9 := Lib.hid (HO9.out.offB ho); have HBk := Lib.hid (HBk.out.offB ho); have HB := Lib.hid (HB.out.trans (ho.below (fun k hk => hk.1) hbw2)); have hbw2 := Nat.le_trans hbw2 ho.size; have hxg := HBk.out.lt; clear ho
                go_wp2
                exact ⟨⟨i + 1, put, k, a, t, by omega, by go_num, rfl, rfl, HO8.out, HO9.out, HD.out, HST.out.more, HB.out⟩, by simp [intOf]; omega⟩
          have e5 : (pc == 5) = false := by simpa using h5
          have e6 : (pc == 6) = false := by simpa using h6
          have e7 : (pc == 7) = false := by simp; omega
          have e9 : (pc == 9) = false := by simp; omega
          have e10 : (pc == 10) = false := by simp; omega
          clear h5 h6 h7
          by_cases h8 : pc = 8
          · subst h8
            clear e5 e6 e7 e9 e10
            have f6 := HBk.out.cell 6 _ rfl
            go_wp2_with fail
            refine (stPoll HST.out HCok.out.2.2.2.2.2 hbw2).mono ?_
            rintro e x2 ⟨v2, rfl, hT, hS, ho⟩
            have HST := Lib.hid hS; clear hS f6
            have hbw4 := hbw2
            have HO8 := Lib.hid (HO8.out.offB ho); have HO9 := Lib.hid (HO9.out.offB ho); have HBk := Lib.hid (HBk.out.offB ho); have HB := Lib.hid (HB.out.trans (ho.below (fun k hk => hk.1) hbw2)); have hbw2 := Nat.le_trans hbw2 ho.size; have hxg := HBk.out.lt; clear ho
            obtain ⟨L, hL⟩ : ∃ z, (put.drop k).take (max 0 cn).toNat = z := ⟨_, rfl⟩
            rw [hL] at hT HST
            obtain ⟨pt, c2, rfl⟩ := ownsRow_slice hT
            have HT := Lib.hid (show OwnT base _ _ L from ownsRow_base (base' := base) hT (by omega))
            have HLE := Lib.hid hL.symm
            have hm1 : L.length ≤ put.length - k := by rw [← hL, List.length_take, List.length_drop]; omega
            have hm2 : 0 ≤ cn → (L.length : Int) ≤ cn := by intro h; rw [← hL, List.length_take]; omega
            clear hT hL
            obtain ⟨m, hm⟩ : ∃ z, L.length = z := ⟨_, rfl⟩
            rw [hm] at HST HT hm1 hm2 ⊢
            have HM := Lib.hid hm
            have HM2 := Lib.hid hm2
            clear hm hm2
            have hm60 : (m : Int) ≤ 60 := by omega
            have f6 := HBk.out.cell 6 _ rfl
            go_upto_region 46 with fail
            go_cut [173] from 160 to 173 (fun s wx => s = .bool false ∧ wx = x2)
            case first =>
              by_cases hcn : 0 ≤ cn
              · have hm3 := HM2.out hcn
                have hm4 : ¬ cn < (m : Int) := by omega
                go_wp2
                go_meet
                exact ⟨rfl, rfl⟩
              · go_wp2
                go_meet
                exact ⟨rfl, rfl⟩
            case rest =>
              obtain ⟨rfl, rfl⟩ := hcut
              obtain ⟨x2, rfl⟩ : ∃ z, z = wc := ⟨_, rfl⟩
              clear f6
              go_wp2_with fail
              go_loopw [9, 16] (fun s9 s16 wl => PolR base g hq hs xq i w5 u8 put k a m t (.slice pt m c2) L s9 s16 wl) (fun _ s16 _ => m - (intOf s16).toNat)
              case atStart => exact ⟨0, Nat.zero_le _, rfl, by rw [Nat.add_zero]; exact HO9.out, HO8.out, HD.out.symm, HST.out, HB.out, HT.out, hbw2⟩
              case round =>
                obtain ⟨j, hj, rfl, hP9, hP8, hPd, hPs, hPb, hPt, hPw⟩ := hrel
                have HP9 := Lib.hid hP9; have HP8 := Lib.hid hP8; have HPd := Lib.hid hPd; have HPs := Lib.hid hPs; have HPb := Lib.hid hPb; have HPt := Lib.hid hPt
                clear hP9 hP8 hPd hPs hPb hPt
                obtain ⟨wl, hwl⟩ : ∃ z, z = wr := ⟨_, rfl⟩
                subst hwl
                by_cases hjm : j < m
                · have hji : (j : Int) < (m : Int) := by omega
                  have hjl : j < L.length := by rw [HM.out]; exact hjm
                  obtain ⟨bt, ot, rfl, hbt, hct, -⟩ := (OwnT.isT HPt.out (Nat.le_refl _)).get (List.getElem?_eq_getElem hjl)
                  have HX := Lib.hid (pol_at HLE.out hjl)
                  obtain ⟨xa, hxa⟩ : ∃ z, L[j] = z := ⟨_, rfl⟩
                  rw [hxa] at hct HX
                  clear hxa hjl
                  have hkj : (put.take (k + j)).length ≤ 1000000 := by rw [List.length_take]; omega
                  go_wp2_with (at_builtin; refine app_i64 rfl _ _ rfl base _ (put.take (k + j)) xa wl.heap.size rfl rfl (HP9.out.keep ((Below.refl _ _).alloc (Nat.le_refl _) _)) (by go_simp) hkj (by simp; omega) ?_)
                  intro v' w4 hown4 hg4 hat4
                  have hg := grow_one HP9.out HP8.out HPd.out HPs.out HPb.out hPw hg4 hat4
                  have HT4 := Lib.hid (told_keep HPt.out HP9.out hg4)
                  have HO4 := Lib.hid hown4
                  have HG := Lib.hid hg
                  clear hown4 hg4 hat4 hg hct
                  go_wp2
                  exact ⟨⟨j + 1, by omega, by go_num, by rw [← Nat.add_assoc, HX.out]; exact HO4.out, HG.out.1, HG.out.2.1, HG.out.2.2.1, HG.out.2.2.2.1, HT4.out, HG.out.2.2.2.2⟩, by simp [intOf]; omega⟩
                · have hjm2 : j = m := by omega
                  subst hjm2
                  have hji : ¬ ((j : Int) < (j : Int)) := by omega
                  go_wp2
                  go_meet
                  exact ⟨put, k + j, a, t, rfl, rfl, HP8.out, HP9.out, HPd.out.symm, HPs.out.more, HPb.out⟩
          · have e8 : (pc == 8) = false := by simpa using h8
            clear h8
            have f6 := HBk.out.cell 6 _ rfl
            go_wp2_with fail
            refine (kPick cn 9 _ HCok.out.2.2.2.2.2 ⟨by omega, by omega⟩).mono ?_
            rintro e x2 ⟨rfl, rfl⟩
            obtain ⟨p9, hp9⟩ : ∃ z, pick cn 9 = z := ⟨_, rfl⟩
            have hpb := pick_bd cn 9 (by decide)
            rw [hp9] at hpb ⊢
            clear hp9
            obtain ⟨hpb0, hpb1⟩ := hpb
            go_wp2_with fail
            refine (bTold (t + 1 + p9) _).mono ?_
            rintro e x3 ⟨rfl, hb⟩
            have HST := Lib.hid (HST.out.keep hb)
            have ho := OffM.of (M := BTyM base wz) hb
            clear hb f6
            have HO8 := Lib.hid (HO8.out.offB ho); have HO9 := Lib.hid (HO9.out.offB ho); have HBk := Lib.hid (HBk.out.offB ho); have HB := Lib.hid (HB.out.trans (ho.below (fun k hk => hk.1) hbw2)); have hbw2 := Nat.le_trans hbw2 ho.size; have hxg := HBk.out.lt; clear ho
            go_wp2_with fail
            refine (stPut (p := p9) HST.out ⟨hpb0, hpb1⟩ (by omega) hbw2).mono ?_
            rintro e x4 ⟨hS, ho⟩
            have HO8 := Lib.hid (HO8.out.offB ho); have HO9 := Lib.hid (HO9.out.offB ho); have HBk := Lib.hid (HBk.out.offB ho); have HB := Lib.hid (HB.out.trans (ho.below (fun k hk => hk.1) hbw2)); have hbw2 := Nat.le_trans hbw2 ho.size; have hxg := HBk.out.lt; clear ho
            rcases hS with ⟨rfl, hS⟩ | ⟨rfl, hS⟩
            · have HST := Lib.hid hS; clear hS
              go_wp2_with (at_builtin; refine app_i64 rfl _ _ rfl base _ put (t + 1 + p9) x4.heap.size rfl rfl (HO8.out.keep ((Below.refl _ _).alloc (Nat.le_refl _) _)) (by go_simp) (by omega) (by simp; omega) ?_)
              intro v' w4 hown4 hg4 hat4
              have hg := grow_one HO8.out HO9.out HD.out HST.out HB.out hbw2 hg4 hat4
              have HO8 := Lib.hid hown4
              have HG := Lib.hid hg
              clear hown4 hg4 hat4 hg
              go_wp2
              go_meet
              exact ⟨put ++ [t + 1 + p9], k, a, t + 1 + p9, rfl, rfl, HO8.out, by rw [List.take_append_of_le_length hkp]; exact HG.out.1, HG.out.2.1, HG.out.2.2.1, HG.out.2.2.2.1⟩
            · have HST := Lib.hid hS; clear hS
              go_wp2_with fail
              refine (stRoom HST.out).mono ?_
              rintro e x5 ⟨⟨xx, hx0, rfl⟩, hb⟩
              have HST := Lib.hid (HST.out.keep hb)
              have ho := OffM.of (M := BTyM base x4) hb
              clear hb
              have HO8 := Lib.hid (HO8.out.offB ho); have HO9 := Lib.hid (HO9.out.offB ho); have HBk := Lib.hid (HBk.out.offB ho); have HB := Lib.hid (HB.out.trans (ho.below (fun k hk => hk.1) hbw2)); have hbw2 := Nat.le_trans hbw2 ho.size; have hxg := HBk.out.lt; clear ho
              go_wp2
              go_meet
              exact ⟨put, k, a, t + 1 + p9, rfl, rfl, HO8.out, HO9.out, HD.out, HST.out.any, HB.out⟩
        case rest =>
          obtain ⟨put, k, a, t, rfl, rfl, hO8, hO9, hd, hst, hb⟩ := hcut
          obtain ⟨wz, hwz⟩ : ∃ z, z = wc := ⟨_, rfl⟩
          subst hwz
          have HO8 := Lib.hid hO8; have HO9 := Lib.hid hO9; have HD := Lib.hid hd; have HST := Lib.hid hst; have HB := Lib.hid hb
          clear hO8 hO9 hd hst hb
          have hfa := HST.out.facts
          obtain ⟨hak, hkp, hpi, ht0, ht1⟩ := hfa
          have HK := Lib.hid (show (put.take k).length = k by rw [List.length_take]; omega)
          obtain ⟨n, hn⟩ : ∃ z, put.length = z := ⟨_, rfl⟩
          obtain ⟨p9, c9, h9, hc1, hc2⟩ := own_k HO9.out HK.out
          obtain ⟨p8, c8, h8, hd1, hd2⟩ := own_k HO8.out hn
          subst h9 h8
          rw [hn] at hkp hpi
          have HN2 := Lib.hid hn
          clear hn hc1 hc2 hd1 hd2
          have hk60 : (k : Int) ≤ 61 := by omega
          have hn60 : (n : Int) ≤ 61 := by omega
          go_wp2_with fail
          go_loopw [18] (fun s18 wl => ∃ j n : Nat, j ≤ k ∧ s18 = .int .i64 j ∧ wl = wz.drewN n) (fun s18 _ => k - (intOf s18).toNat)
          case atStart => exact ⟨0, 0, Nat.zero_le _, rfl, rfl⟩
          case round =>
            obtain ⟨j, nd, hj, rfl, rfl⟩ := hrel
            have hbd := below_drewN (Below.refl wz.heap.size wz) nd
            by_cases hjk : j < k
            · have hji : (j : Int) < (k : Int) := by omega
              have hjn : (j : Int) < (n : Int) := by omega
              have hj0 : (0 : Int) ≤ (j : Int) := by omega
              have hjl : j < (put.take k).length := by rw [HK.out]; exact hjk
              have hjl2 : j < put.length := by rw [HN2.out]; omega
              obtain ⟨b9, o9, rfl, hb9, hc9⟩ := ((HO9.out.keep hbd).ints (Nat.le_refl _)).get hjl
              obtain ⟨b8, o8, rfl, hb8, hc8⟩ := ((HO8.out.keep hbd).ints (Nat.le_refl _)).get hjl2
              rw [List.getElem_take] at hc9
              obtain ⟨xa, hxa⟩ : ∃ z, put[j] = z := ⟨_, rfl⟩
              rw [hxa] at hc8 hc9
              have hxx : (xa != xa) = false := by simp
              have hge : ¬ (n : Int) ≤ (j : Int) := by omega
              have hge2 : decide ((n : Int) ≤ (j : Int)) = false := decide_eq_false hge
              have hge3 : decide (n ≤ j) = false := decide_eq_false (by omega)
              have hge4 : ¬ n ≤ j := by omega
              clear hxa hjl hjl2
              obtain ⟨wd, hwd⟩ : ∃ z, wz.drewN nd = z := ⟨_, rfl⟩
              rw [hwd] at hbd hb9 hb8 hc8 hc9 ⊢
              go_wp2_with fail
              go_quiet (fail)
              go_wp2
              rw [← hwd]
              exact ⟨⟨j + 1, _, by omega, by go_num, World.drewN_drewN _ _ _⟩, by simp [intOf]; omega⟩
            · have hjk2 : j = k := by omega
              subst hjk2
              have hji : ¬ ((j : Int) < (j : Int)) := by omega
              have hO8' := HO8.out.keep hbd; have hO9' := HO9.out.keep hbd; have hS' := HST.out.keep hbd; have hB' := below_drewN HB.out nd
              have HO8 := Lib.hid hO8'; have HO9 := Lib.hid hO9'; have HST := Lib.hid hS'; have HB := Lib.hid hB'
              clear hO8' hO9' hS' hB' hbd
              go_wp2
              exact ⟨⟨i + 1, put, j, a, t, by omega, by go_num, rfl, rfl, HO8.out, HO9.out, HD.out, HST.out, HB.out⟩, by simp [intOf]; omega⟩
      · have hiN : i = N := by omega
        subst hiN
        have hki : ¬ ((i : Int) < (i : Int)) := by omega
        have hfa := HST.out.facts
        obtain ⟨hak, hkp, hpi, ht0, ht1⟩ := hfa
        have HK := Lib.hid (show (put.take k).length = k by rw [List.length_take]; omega)
        obtain ⟨n, hn⟩ : ∃ z, put.length = z := ⟨_, rfl⟩
        obtain ⟨p9, c9, h9, hc1, hc2⟩ := own_k HO9.out HK.out
        obtain ⟨p8, c8, h8, hd1, hd2⟩ := own_k HO8.out hn
        subst h9 h8
        go_wp2_with fail
        refine (stPoll (m := 1073741824) HST.out ⟨by omega, by omega⟩ hbw2).mono ?_
        rintro e x2 ⟨v2, rfl, hT, hS, ho⟩
        have HB := Lib.hid (HB.out.trans (ho.below (fun k hk => hk.1) hbw2))
        rw [show (put.drop k).take (max 0 (1073741824 : Int)).toNat = put.drop k from List.take_of_length_le (by rw [List.length_drop]; omega)] at hT
        obtain ⟨pt, c2, rfl⟩ := ownsRow_slice hT
        rw [List.length_drop, hn]
        clear hT hS ho
        have hsum : (k : Int) + ((n - k : Nat) : Int) = (n : Int) := by omega
        have hk60 : (k : Int) ≤ 61 := by omega
        have hn60 : ((n - k : Nat) : Int) ≤ 61 := by omega
        clear hn
        go_wp2
        go_ret
        exact ⟨by simp, HB0.out.trans (HB.out.mono hbs)⟩
end Go.Proofs.Ytfmolimnnheaoaa
