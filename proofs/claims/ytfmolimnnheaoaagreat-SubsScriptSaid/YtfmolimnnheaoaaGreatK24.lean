/- SubsScript: what the law does. Printed by wip/gen_hs4.py. -/
import Derived.Test.YtfmolimnnheaoaaGreatK22
import Derived.Test.YtfmolimnnheaoaaGreatK23
import Derived.Test.YtfmolimnnheaoaaGreatK1
namespace Go.Proofs.YtfmolimnnheaoaaGreat
open Go.RowKit
set_option linter.unusedSimpArgs false
set_option linter.unusedVariables false

theorem StJ.lenQ {base g : Nat} {W : World} {b : GB} {qv sv : Value} {Q : List QE} (h : StJ base g W b qv sv Q) : Q.length = b.q.length := by rw [h.q, List.length_map]
def LoopR (base gA gB N : Nat) (W : World) (s : Value) (wr : World) : Prop := ∃ (k : Nat) (b : GB), k ≤ N ∧ s = .int .i64 k ∧ Duo base gA gB k wr b b (fun _ => False) (fun _ => False) ∧ Below base W wr
def MidR (base gA gB gX k : Nat) (W : World) (cs : List Value) (s11 s12 s13 s14 s15 s16 : Value) (wx : World) : Prop :=
  ∃ (b : GB) (e n : Int) (L1 L2 : List TV), s11 = .int .i64 e ∧ s12 = .int .i64 e ∧ s13 = .int .i64 n ∧ s14 = .int .i64 n ∧ IsTd wx.heap.size base wx s15 L1 ∧ IsTd wx.heap.size base wx s16 L2 ∧ L1.map Prod.fst = L2.map Prod.fst ∧
    Duo base gA gB (k + 1) wx b b (fun k => k = gX) (fun k => k = gX) ∧ Blk wx gX 36 cs ∧ Below base W wx
set_option maxRecDepth 100000 in
set_option maxHeartbeats 32000000 in
theorem wScript (room : Int) (l : List CallR) (v : Value) (W : World) (hroom : i64 room) (hl : Arr W.heap.size W v 7 (l.map CallR.cells)) (hok : ∀ c ∈ l, c.ok ∧ ∃ rs, IsRes W.heap.size W c.res rs) :
    Calls Tryz.prog 3 #[.int .i64 room, v] W fun e w' => e = .returned (.bool true) ∧ Below W.heap.size W w' := by
  obtain ⟨p, cap, rfl, h1, h2, -⟩ := id hl
  have hll : (l.map CallR.cells).length = l.length := List.length_map _
  rw [hll] at h1 hl ⊢
  unfold maxLen at h2
  have hlen : (l.length : Int) ≤ 9223372036854775807 := by omega
  have HL := Lib.hid hl; have HOK := Lib.hid hok
  clear hl hok hroom hll
  have HB := Lib.hid (Below.refl W.heap.size W)
  go_enter Tryz.func3, Tryz.ntmps3; (try simp only [List.append_eq, List.cons_append, List.nil_append])
  go_wp2_with fail
  refine (bLives _).mono ?_
  rintro e w0 ⟨rfl, hb⟩
  have HB := Lib.hid (HB.out.trans (hb.mono HB.out.size)); clear hb
  by_cases hr : 1 ≤ room ∧ room ≤ 4096
  case neg =>
    have HN := Lib.hid hr
    clear hr
    go_wp2_with fail
    refine (bNewBad HN.out _).mono ?_
    rintro e w1 ⟨rfl, rfl⟩
    go_wp2_with fail
    refine (rNewBad HN.out _).mono ?_
    rintro e w2 ⟨rfl, rfl⟩
    go_wp2
    go_ret
    exact ⟨rfl, HB.out⟩
  have HN := Lib.hid hr
  clear hr
  go_wp2_with fail
  refine (gNew (base := W.heap.size) HN.out w0 HB.out.size).mono ?_
  rintro e w1 ⟨gA, FA, rfl, hA, -, hb⟩
  have HA := Lib.hid hA
  have HB1 := Lib.hid (HB.out.trans (hb.mono HB.out.size))
  clear hA hb
  go_wp2_with fail
  refine (rNew (base := W.heap.size) HN.out w1 HB1.out.size).mono ?_
  rintro e w2 ⟨gB, FB, rfl, hB, hn, hb⟩
  have HD := Lib.hid (Duo.ofNew HA.out hB hb hn)
  have HB2 := Lib.hid (HB1.out.trans (hb.mono HB1.out.size))
  clear hB hn hb HA HB1 HB
  go_wp2_with fail
  refine (gSmall (n := W.heap.size) (Arr.mono HL.out HB2.out (Nat.le_refl _)) (fun c hc => by obtain ⟨-, rs, h⟩ := HOK.out c hc; exact ⟨rs, h.mono HB2.out (Nat.le_refl _)⟩) HB2.out.size).mono ?_
  rintro e w3 ⟨⟨bb, rfl, h60⟩, hb⟩
  have HD := Lib.hid (HD.out.keep hb)
  have HB := Lib.hid (HB2.out.trans (hb.mono HB2.out.size))
  clear hb HB2
  cases bb with
  | false =>
    clear h60
    go_wp2
    go_ret
    exact ⟨rfl, HB.out⟩
  | true =>
    have h60 := h60 rfl
    have hl60 : (l.length : Int) ≤ 60 := by omega
    obtain ⟨N, hN⟩ : ∃ z, l.length = z := ⟨_, rfl⟩
    rw [hN] at h60 hl60 HL hlen h1 ⊢
    have HN := Lib.hid hN
    clear hN
    obtain ⟨base, hbase⟩ : ∃ z, W.heap.size = z := ⟨_, rfl⟩
    have HBS := Lib.hid hbase
    rw [hbase] at HL HD HB HOK
    clear hbase
    go_wp2_with fail
    go_loopw [9] (fun s wr => LoopR base gA gB N W s wr) (fun s _ => N - (intOf s).toNat)
    case atStart => exact ⟨0, _, Nat.zero_le _, rfl, HD.out, HB.out⟩
    case round =>
      obtain ⟨k, b, hk, rfl, hd, hb⟩ := hrel
      have HD := Lib.hid hd; have HB := Lib.hid hb
      have hbw : base ≤ wr.heap.size := by have := hb.size; have := HBS.out; omega
      clear hd hb
      by_cases hlt : k < N
      · have hki : (k : Int) < (N : Int) := by omega
        obtain ⟨c, hc⟩ : ∃ c, l[k]? = some c := ⟨_, List.getElem?_eq_getElem (by have := HN.out; omega)⟩
        obtain ⟨b1, o1, rfl, hb1, hcell⟩ := Arr.at (Arr.mono HL.out HB.out (Nat.le_refl _)) k c.cells (by rw [List.getElem?_map, hc]; rfl)
        have hC := HOK.out _ (List.mem_of_getElem? hc)
        obtain ⟨ck, cq, cs, ct, ctt, cr, cn⟩ := c
        obtain ⟨hC, rs, hv⟩ := hC
        have HR := Lib.hid ((ResAt.of_arg hv (Nat.le_refl _) (by have := HBS.out; omega)).keep (by have h := HB.out; rw [← HBS.out] at h; exact h))
        obtain ⟨pv, cv, hcr, -, -⟩ := HR.out.open
        have hcr : cr = _ := hcr
        subst hcr
        clear hv
        obtain ⟨vl, hvl⟩ : ∃ z, rs.length = z := ⟨_, rfl⟩
        rw [hvl] at hcell HR
        clear hvl
        have d0 : wr.cell? ⟨b1, o1 + k * 7, none⟩ = some (.int .i64 ck) := by simpa using hcell 0 _ rfl
        have d1 : wr.cell? ⟨b1, o1 + k * 7 + 1, none⟩ = some (.int .i64 cq) := hcell 1 _ rfl
        have d2 : wr.cell? ⟨b1, o1 + k * 7 + 2, none⟩ = some (.int .i64 cs) := hcell 2 _ rfl
        have d3 : wr.cell? ⟨b1, o1 + k * 7 + 3, none⟩ = some (.int .i64 ct) := hcell 3 _ rfl
        have d4 : wr.cell? ⟨b1, o1 + k * 7 + 4, none⟩ = some (.int .i64 ctt) := hcell 4 _ rfl
        have d5 : wr.cell? ⟨b1, o1 + k * 7 + 5, none⟩ = some (.slice pv vl cv) := hcell 5 _ rfl
        have d6 : wr.cell? ⟨b1, o1 + k * 7 + 6, none⟩ = some (.int .i64 cn) := hcell 6 _ rfl
        have hbw1 : b1 < wr.heap.size := by omega
        have HCok := Lib.hid hC
        clear hcell hc hC
        have HBk := Lib.hid (Blk.new wr [.int .i64 ck, .int .i64 cq, .int .i64 cs, .int .i64 ct, .int .i64 ctt, .slice pv vl cv, .int .i64 cn] 36)
        have ho0 := (Below.refl wr.heap.size wr).alloc (Nat.le_refl _) (.cells #[.int .i64 ck, .int .i64 cq, .int .i64 cs, .int .i64 ct, .int .i64 ctt, .slice pv vl cv, .int .i64 cn] 36)
        have HD := Lib.hid (HD.out.hold (KA' := fun k => k = wr.heap.size) (KB' := fun k => k = wr.heap.size) ho0 (fun k hk => .inr ⟨Nat.le_of_eq hk.symm, hk ▸ HBk.out.lt⟩) (fun k hk => .inr ⟨Nat.le_of_eq hk.symm, hk ▸ HBk.out.lt⟩))
        have HB := Lib.hid (HB.out.trans (ho0.mono hbw)); have HR := Lib.hid (HR.out.keep ho0)
        have hbz := Nat.le_trans hbw ho0.size
        clear ho0
        go_upto_region 14 with (refine wpList_store_new rfl 36 _ _ rfl #[.int .i64 ck, .int .i64 cq, .int .i64 cs, .int .i64 ct, .int .i64 ctt, .slice pv vl cv, .int .i64 cn] _ _ rfl rfl (by kernel_rfl) rfl (by kernel_rfl) ?_)
        clear d0 d1 d2 d3 d4 d5 d6 hbw1 hb1 hbw
        obtain ⟨gX, hgX⟩ : ∃ z, wr.heap.size = z := ⟨_, rfl⟩
        obtain ⟨wz, hwz⟩ : ∃ z, wr.alloc (.cells #[.int .i64 ck, .int .i64 cq, .int .i64 cs, .int .i64 ct, .int .i64 ctt, .slice pv vl cv, .int .i64 cn] 36) = z := ⟨_, rfl⟩
        rw [show wr.alloc (.cells ([.int .i64 ck, .int .i64 cq, .int .i64 cs, .int .i64 ct, .int .i64 ctt, .slice pv vl cv, .int .i64 cn] : List Value).toArray 36) = wz from hwz] at HBk
        rw [hwz] at HD HB HR hbz ⊢
        rw [hgX] at HBk HD ⊢
        clear hwz hgX
        have f0 := HBk.out.cell 0 _ rfl
        go_upto_block 2 with (refine (kPick ck 11 _ HCok.out.1 ⟨by omega, by omega⟩).mono ?_; rintro e x1 ⟨rfl, rfl⟩)
        obtain ⟨pc, hpc⟩ : ∃ z, pick ck 11 = z := ⟨_, rfl⟩
        have HPC := Lib.hid (pick_bd ck 11 (by decide))
        rw [hpc] at HPC ⊢
        clear hpc f0
        go_cut [11, 12, 13, 14, 15, 16] from 44 to 204 (fun s11 s12 s13 s14 s15 s16 wx => MidR base gA gB gX k W [.int .i64 ck, .int .i64 cq, .int .i64 cs, .int .i64 ct, .int .i64 ctt, .slice pv vl cv, .int .i64 cn] s11 s12 s13 s14 s15 s16 wx)
        case first =>
          have hnum := HD.out.numA
          obtain ⟨hnum1, hnum2⟩ := hnum
          have hk60 : k ≤ 60 := by omega
          have hk9k : k + 1 ≤ 10000 := by omega
          have hid9 : b.id + 1 ≤ 10000 := by omega
          by_cases hc0 : pc = 0
          · subst hc0
            go_upto_region 17 with fail
            refine wp_region_held_drew (S := fun w => Blk w gX 36 [.int .i64 ck, .int .i64 cq, .int .i64 cs, .int .i64 ct, .int .i64 ctt, .slice pv vl cv, .int .i64 cn]) (by kernel_rfl) (HBk.out.keep (Below.drew (Below.refl _ _))) (fun hHeld => ?_)
            have HS := Lib.hid (HBk.out.keep (Below.drew (Below.refl _ _)))
            have HD2 := Lib.hid (HD.out.keep (Below.drew (Below.refl _ _)))
            have HB2 := Lib.hid (HB.out.trans ((Below.drew (Below.refl wz.heap.size wz)).mono hbz))
            have HR2 := Lib.hid (HR.out.keep (Below.drew (Below.refl _ _)))
            try clear hHeld
            have hSS := HS.out
            obtain ⟨X2, hX2⟩ : ∃ z, wz.drew = z := ⟨_, rfl⟩
            rw [hX2] at HS HD2 HB2 HR2 hSS ⊢
            clear hX2
            (refine htk 0 71 (.pointer (some ⟨gA, 0, none⟩)) rfl ?_ ?_; (intro w hSw; clear hSw; first | rfl | go_simp); simp only [lsz, lss])
            (refine htk 1 72 (.pointer (some ⟨gX, 1, none⟩)) rfl ?_ ?_; (intro w hSw; clear hSw; first | rfl | go_simp); simp only [lsz, lss])
            (refine htk 2 73 (.int .i64 cq) rfl ?_ ?_; (intro w hSw; have f0 := hSw.cell 1 _ rfl; clear hSw; go_simp); simp only [lsz, lss])
            (refine htk 3 74 (.pointer (some ⟨gX, 3, none⟩)) rfl ?_ ?_; (intro w hSw; clear hSw; first | rfl | go_simp); simp only [lsz, lss])
            (refine htk 4 75 (.int .i64 ct) rfl ?_ ?_; (intro w hSw; have f0 := hSw.cell 3 _ rfl; clear hSw; go_simp); simp only [lsz, lss])
            (refine htk 6 77 (.pointer (some ⟨gB, 0, none⟩)) rfl ?_ ?_; (intro w hSw; clear hSw; first | rfl | go_simp); simp only [lsz, lss])
            (refine htk 7 78 (.pointer (some ⟨gX, 1, none⟩)) rfl ?_ ?_; (intro w hSw; clear hSw; first | rfl | go_simp); simp only [lsz, lss])
            (refine htk 8 79 (.int .i64 cq) rfl ?_ ?_; (intro w hSw; have f0 := hSw.cell 1 _ rfl; clear hSw; go_simp); simp only [lsz, lss])
            (refine htk 9 80 (.pointer (some ⟨gX, 3, none⟩)) rfl ?_ ?_; (intro w hSw; clear hSw; first | rfl | go_simp); simp only [lsz, lss])
            (refine htk 10 81 (.int .i64 ct) rfl ?_ ?_; (intro w hSw; have f0 := hSw.cell 3 _ rfl; clear hSw; go_simp); simp only [lsz, lss])
            refine hrd 5 rfl (fun K hK => ?_)
            rw [if_pos (by kernel_rfl)]
            go_simp
            refine (Duo.runA HD2.out (i' := (k + 1)) (b' := (openG b cq ct).1) (R := fun e => e = .returned (.int .i64 (openG b cq ct).2)) (fun _ _ _ _ _ _ h => gOpen h HCok.out.2.1 hk9k)).mono ?_
            rintro e w9 ⟨rfl, hd9, hk9⟩
            have HD9 := Lib.hid hd9
            have HS9 := Lib.hid (hk9.blk HS.out rfl)
            have HR9 := Lib.hid (hk9.res HR2.out)
            have HB9 := Lib.hid (HB2.out.trans (hk9.below (by have := HB2.out.size; have := HBS.out; omega)))
            have hSS9 := HS9.out
            clear hd9 hk9
            refine hK.out _ _ HS9.out (fun hHeld => ?_)
            clear hK K
            (try simp only [Act.put, lsa, lsz, lss])
            refine hrd 11 rfl (fun K hK => ?_)
            rw [if_pos (by kernel_rfl)]
            go_simp
            refine (Duo.runB HD9.out (c' := (openG b cq ct).1) (R := fun e => e = .returned (.int .i64 (openG b cq ct).2)) (fun _ _ _ h => rOpen h (by have := h.lenQ; omega))).mono ?_
            rintro e w8 ⟨rfl, hd9, hk9⟩
            have HD8 := Lib.hid (hd9)
            have HS8 := Lib.hid (hk9.blk HS9.out rfl)
            have HB8 := Lib.hid (HB9.out.trans (hk9.below (by have := HB9.out.size; have := HBS.out; omega)))
            have hSS8 := HS8.out
            clear hd9 hk9
            refine hK.out _ _ HS8.out (fun hHeld => ?_)
            clear hK K
            (try simp only [Act.put, lsa, lsz, lss])
            (refine htk 12 11 (.int .i64 (openG b cq ct).2) rfl ?_ ?_; (intro w hSw; clear hSw; first | rfl | go_simp); simp only [lsz, lss])
            (refine htk 13 12 (.int .i64 (openG b cq ct).2) rfl ?_ ?_; (intro w hSw; clear hSw; first | rfl | go_simp); simp only [lsz, lss])
            refine wpAnyH_done (by kernel_rfl) ?_ _
            go_wp2
            go_meet
            exact ⟨(openG b cq ct).1, (openG b cq ct).2, 0, [], [], rfl, rfl, rfl, rfl, IsTd.nil, IsTd.nil, rfl, HD8.out, HS8.out, HB8.out⟩
          by_cases hc1 : pc = 1
          · subst hc1
            go_upto_region 19 with fail
            refine wp_region_held_drew (S := fun w => Blk w gX 36 [.int .i64 ck, .int .i64 cq, .int .i64 cs, .int .i64 ct, .int .i64 ctt, .slice pv vl cv, .int .i64 cn]) (by kernel_rfl) (HBk.out.keep (Below.drew (Below.refl _ _))) (fun hHeld => ?_)
            have HS := Lib.hid (HBk.out.keep (Below.drew (Below.refl _ _)))
            have HD2 := Lib.hid (HD.out.keep (Below.drew (Below.refl _ _)))
            have HB2 := Lib.hid (HB.out.trans ((Below.drew (Below.refl wz.heap.size wz)).mono hbz))
            have HR2 := Lib.hid (HR.out.keep (Below.drew (Below.refl _ _)))
            try clear hHeld
            have hSS := HS.out
            obtain ⟨X2, hX2⟩ : ∃ z, wz.drew = z := ⟨_, rfl⟩
            rw [hX2] at HS HD2 HB2 HR2 hSS ⊢
            clear hX2
            (refine htk 0 85 (.pointer (some ⟨gA, 0, none⟩)) rfl ?_ ?_; (intro w hSw; clear hSw; first | rfl | go_simp); simp only [lsz, lss])
            (refine htk 1 86 (.pointer (some ⟨gX, 1, none⟩)) rfl ?_ ?_; (intro w hSw; clear hSw; first | rfl | go_simp); simp only [lsz, lss])
            (refine htk 2 87 (.int .i64 cq) rfl ?_ ?_; (intro w hSw; have f0 := hSw.cell 1 _ rfl; clear hSw; go_simp); simp only [lsz, lss])
            (refine htk 4 89 (.pointer (some ⟨gB, 0, none⟩)) rfl ?_ ?_; (intro w hSw; clear hSw; first | rfl | go_simp); simp only [lsz, lss])
            (refine htk 5 90 (.pointer (some ⟨gX, 1, none⟩)) rfl ?_ ?_; (intro w hSw; clear hSw; first | rfl | go_simp); simp only [lsz, lss])
            (refine htk 6 91 (.int .i64 cq) rfl ?_ ?_; (intro w hSw; have f0 := hSw.cell 1 _ rfl; clear hSw; go_simp); simp only [lsz, lss])
            refine hrd 3 rfl (fun K hK => ?_)
            rw [if_pos (by kernel_rfl)]
            go_simp
            refine (Duo.runA HD2.out (i' := k) (b' := (closeG b cq).1) (R := fun e => e = .returned (.int .i64 (closeG b cq).2)) (fun _ _ _ _ _ _ h => gClose h HCok.out.2.1)).mono ?_
            rintro e w9 ⟨rfl, hd9, hk9⟩
            have HD9 := Lib.hid hd9
            have HS9 := Lib.hid (hk9.blk HS.out rfl)
            have HR9 := Lib.hid (hk9.res HR2.out)
            have HB9 := Lib.hid (HB2.out.trans (hk9.below (by have := HB2.out.size; have := HBS.out; omega)))
            have hSS9 := HS9.out
            clear hd9 hk9
            refine hK.out _ _ HS9.out (fun hHeld => ?_)
            clear hK K
            (try simp only [Act.put, lsa, lsz, lss])
            refine hrd 7 rfl (fun K hK => ?_)
            rw [if_pos (by kernel_rfl)]
            go_simp
            refine (Duo.runB HD9.out (c' := (closeG b cq).1) (R := fun e => e = .returned (.int .i64 (closeG b cq).2)) (fun _ _ _ h => rClose h)).mono ?_
            rintro e w8 ⟨rfl, hd9, hk9⟩
            have HD8 := Lib.hid (hd9.more (Nat.le_succ k) (by omega))
            have HS8 := Lib.hid (hk9.blk HS9.out rfl)
            have HB8 := Lib.hid (HB9.out.trans (hk9.below (by have := HB9.out.size; have := HBS.out; omega)))
            have hSS8 := HS8.out
            clear hd9 hk9
            refine hK.out _ _ HS8.out (fun hHeld => ?_)
            clear hK K
            (try simp only [Act.put, lsa, lsz, lss])
            (refine htk 8 11 (.int .i64 (closeG b cq).2) rfl ?_ ?_; (intro w hSw; clear hSw; first | rfl | go_simp); simp only [lsz, lss])
            (refine htk 9 12 (.int .i64 (closeG b cq).2) rfl ?_ ?_; (intro w hSw; clear hSw; first | rfl | go_simp); simp only [lsz, lss])
            refine wpAnyH_done (by kernel_rfl) ?_ _
            go_wp2
            go_meet
            exact ⟨(closeG b cq).1, (closeG b cq).2, 0, [], [], rfl, rfl, rfl, rfl, IsTd.nil, IsTd.nil, rfl, HD8.out, HS8.out, HB8.out⟩
          by_cases hc5 : pc = 5
          · subst hc5
            have f1 := HBk.out.cell 1 _ rfl
            go_wp2_with fail
            refine (Duo.runA HD.out (i' := k + 1) (b' := (subscribeG b cq).1) (R := fun e => e = .returned (.tuple #[.int .i64 (subscribeG b cq).2.1, .int .i64 (subscribeG b cq).2.2])) (fun _ _ _ _ _ _ h => gSubscribe h HCok.out.2.1 hk9k)).mono ?_
            rintro e w9 ⟨rfl, hd9, hk9⟩
            have HD9 := Lib.hid hd9
            have HS9 := Lib.hid (hk9.blk HBk.out rfl)
            have HB9 := Lib.hid (HB.out.trans (hk9.below hbz))
            clear hd9 hk9 f1
            have f1 := HS9.out.cell 1 _ rfl
            go_wp2_with fail
            refine (Duo.runB HD9.out (c' := (subscribeG b cq).1) (R := fun e => e = .returned (.tuple #[.int .i64 (subscribeG b cq).2.1, .int .i64 (subscribeG b cq).2.2])) (fun _ _ _ h => rSubscribe h hid9)).mono ?_
            rintro e w8 ⟨rfl, hd9, hk9⟩
            have HD8 := Lib.hid hd9
            have HS8 := Lib.hid (hk9.blk HS9.out rfl)
            have HB8 := Lib.hid (HB9.out.trans (hk9.below (by have := HB9.out.size; have := HBS.out; omega)))
            clear hd9 hk9 f1
            go_wp2
            go_meet
            exact ⟨(subscribeG b cq).1, (subscribeG b cq).2.2, (subscribeG b cq).2.1, [], [], rfl, rfl, rfl, rfl, IsTd.nil, IsTd.nil, rfl, HD8.out, HS8.out, HB8.out⟩
          by_cases hc6 : pc = 6
          · subst hc6
            have f1 := HBk.out.cell 1 _ rfl
            have f3 := HBk.out.cell 3 _ rfl
            go_wp2_with fail
            refine (Duo.runA HD.out (i' := k + 1) (b' := (resumeG b cq ct).1) (R := fun e => e = .returned (.tuple #[.int .i64 (resumeG b cq ct).2.1, .int .i64 (resumeG b cq ct).2.2])) (fun _ _ _ _ _ _ h => gResume h HCok.out.2.1 hk9k)).mono ?_
            rintro e w9 ⟨rfl, hd9, hk9⟩
            have HD9 := Lib.hid hd9
            have HS9 := Lib.hid (hk9.blk HBk.out rfl)
            have HB9 := Lib.hid (HB.out.trans (hk9.below hbz))
            clear hd9 hk9 f1 f3
            have f1 := HS9.out.cell 1 _ rfl
            have f3 := HS9.out.cell 3 _ rfl
            go_wp2_with fail
            refine (Duo.runB HD9.out (c' := (resumeG b cq ct).1) (R := fun e => e = .returned (.tuple #[.int .i64 (resumeG b cq ct).2.1, .int .i64 (resumeG b cq ct).2.2])) (fun _ _ _ h => rResume h hid9)).mono ?_
            rintro e w8 ⟨rfl, hd9, hk9⟩
            have HD8 := Lib.hid hd9
            have HS8 := Lib.hid (hk9.blk HS9.out rfl)
            have HB8 := Lib.hid (HB9.out.trans (hk9.below (by have := HB9.out.size; have := HBS.out; omega)))
            clear hd9 hk9 f1 f3
            go_wp2
            go_meet
            exact ⟨(resumeG b cq ct).1, (resumeG b cq ct).2.2, (resumeG b cq ct).2.1, [], [], rfl, rfl, rfl, rfl, IsTd.nil, IsTd.nil, rfl, HD8.out, HS8.out, HB8.out⟩
          by_cases hc7 : pc = 7
          · subst hc7
            go_upto_region 27 with fail
            refine wp_region_held_drew (S := fun w => Blk w gX 36 [.int .i64 ck, .int .i64 cq, .int .i64 cs, .int .i64 ct, .int .i64 ctt, .slice pv vl cv, .int .i64 cn]) (by kernel_rfl) (HBk.out.keep (Below.drew (Below.refl _ _))) (fun hHeld => ?_)
            have HS := Lib.hid (HBk.out.keep (Below.drew (Below.refl _ _)))
            have HD2 := Lib.hid (HD.out.keep (Below.drew (Below.refl _ _)))
            have HB2 := Lib.hid (HB.out.trans ((Below.drew (Below.refl wz.heap.size wz)).mono hbz))
            have HR2 := Lib.hid (HR.out.keep (Below.drew (Below.refl _ _)))
            try clear hHeld
            have hSS := HS.out
            obtain ⟨X2, hX2⟩ : ∃ z, wz.drew = z := ⟨_, rfl⟩
            rw [hX2] at HS HD2 HB2 HR2 hSS ⊢
            clear hX2
            (refine htk 0 131 (.pointer (some ⟨gA, 0, none⟩)) rfl ?_ ?_; (intro w hSw; clear hSw; first | rfl | go_simp); simp only [lsz, lss])
            (refine htk 1 132 (.pointer (some ⟨gX, 2, none⟩)) rfl ?_ ?_; (intro w hSw; clear hSw; first | rfl | go_simp); simp only [lsz, lss])
            (refine htk 2 133 (.int .i64 cs) rfl ?_ ?_; (intro w hSw; have f0 := hSw.cell 2 _ rfl; clear hSw; go_simp); simp only [lsz, lss])
            (refine htk 4 135 (.pointer (some ⟨gB, 0, none⟩)) rfl ?_ ?_; (intro w hSw; clear hSw; first | rfl | go_simp); simp only [lsz, lss])
            (refine htk 5 136 (.pointer (some ⟨gX, 2, none⟩)) rfl ?_ ?_; (intro w hSw; clear hSw; first | rfl | go_simp); simp only [lsz, lss])
            (refine htk 6 137 (.int .i64 cs) rfl ?_ ?_; (intro w hSw; have f0 := hSw.cell 2 _ rfl; clear hSw; go_simp); simp only [lsz, lss])
            refine hrd 3 rfl (fun K hK => ?_)
            rw [if_pos (by kernel_rfl)]
            go_simp
            refine (Duo.runA HD2.out (i' := k) (b' := (unsubG b cs).1) (R := fun e => e = .returned (.int .i64 (unsubG b cs).2)) (fun _ _ _ _ _ _ h => gUnsub h HCok.out.2.2.1)).mono ?_
            rintro e w9 ⟨rfl, hd9, hk9⟩
            have HD9 := Lib.hid hd9
            have HS9 := Lib.hid (hk9.blk HS.out rfl)
            have HR9 := Lib.hid (hk9.res HR2.out)
            have HB9 := Lib.hid (HB2.out.trans (hk9.below (by have := HB2.out.size; have := HBS.out; omega)))
            have hSS9 := HS9.out
            clear hd9 hk9
            refine hK.out _ _ HS9.out (fun hHeld => ?_)
            clear hK K
            (try simp only [Act.put, lsa, lsz, lss])
            refine hrd 7 rfl (fun K hK => ?_)
            rw [if_pos (by kernel_rfl)]
            go_simp
            refine (Duo.runB HD9.out (c' := (unsubG b cs).1) (R := fun e => e = .returned (.int .i64 (unsubG b cs).2)) (fun _ _ _ h => rUnsub h)).mono ?_
            rintro e w8 ⟨rfl, hd9, hk9⟩
            have HD8 := Lib.hid (hd9.more (Nat.le_succ k) (by omega))
            have HS8 := Lib.hid (hk9.blk HS9.out rfl)
            have HB8 := Lib.hid (HB9.out.trans (hk9.below (by have := HB9.out.size; have := HBS.out; omega)))
            have hSS8 := HS8.out
            clear hd9 hk9
            refine hK.out _ _ HS8.out (fun hHeld => ?_)
            clear hK K
            (try simp only [Act.put, lsa, lsz, lss])
            (refine htk 8 11 (.int .i64 (unsubG b cs).2) rfl ?_ ?_; (intro w hSw; clear hSw; first | rfl | go_simp); simp only [lsz, lss])
            (refine htk 9 12 (.int .i64 (unsubG b cs).2) rfl ?_ ?_; (intro w hSw; clear hSw; first | rfl | go_simp); simp only [lsz, lss])
            refine wpAnyH_done (by kernel_rfl) ?_ _
            go_wp2
            go_meet
            exact ⟨(unsubG b cs).1, (unsubG b cs).2, 0, [], [], rfl, rfl, rfl, rfl, IsTd.nil, IsTd.nil, rfl, HD8.out, HS8.out, HB8.out⟩
          by_cases hc8 : pc = 8
          · subst hc8
            have f2 := HBk.out.cell 2 _ rfl
            have f6 := HBk.out.cell 6 _ rfl
            go_wp2_with fail
            refine (Duo.pollA HD.out HCok.out.2.2.1 HCok.out.2.2.2.2.2).mono ?_
            rintro e w9 ⟨v1, L1, rfl, ho1, he1, hd9, hk9⟩
            have HD9 := Lib.hid hd9
            have HS9 := Lib.hid (hk9.blk HBk.out rfl)
            have HB9 := Lib.hid (HB.out.trans (hk9.below hbz))
            have HO1 := Lib.hid ho1; have HE1 := Lib.hid he1
            clear hd9 hk9 f2 f6 ho1 he1
            have f2 := HS9.out.cell 2 _ rfl
            have f6 := HS9.out.cell 6 _ rfl
            go_wp2_with fail
            refine (Duo.pollB HD9.out HCok.out.2.2.2.2.2).mono ?_
            rintro e w8 ⟨v2, L2, rfl, ho2, he2, hd9, hk9⟩
            have HD8 := Lib.hid ((hd9.hold (Below.refl _ _) (fun k hk => .inl hk) (fun k hk => .inl (.inl hk))).more (Nat.le_succ k) (by omega))
            have HS8 := Lib.hid (hk9.blk HS9.out (.inl rfl))
            have HB8 := Lib.hid (HB9.out.trans (hk9.below (by have := HB9.out.size; have := HBS.out; omega)))
            have HT1 := Lib.hid ((hk9.isTd (HO1.out.isTd (Nat.le_refl _)) (Nat.le_refl _) (fun k e => .inr e)).more hk9.size)
            have HT2 := Lib.hid (ho2.isTd (Nat.le_refl _))
            have HE2 := Lib.hid (HE1.out.trans he2.symm)
            clear hd9 hk9 f2 f6 ho2 he2
            obtain ⟨q1, c1, hq1, -⟩ := HT1.out.open
            obtain ⟨q2, c2, hq2, -⟩ := HT2.out.open
            subst hq1 hq2
            go_wp2
            go_meet
            exact ⟨(pollG b cs cn).1, (pollG b cs cn).2.2, 0, L1, L2, rfl, rfl, rfl, rfl, HT1.out, HT2.out, HE2.out, HD8.out, HS8.out, HB8.out⟩
          by_cases hc9 : pc = 9
          · subst hc9
            go_upto_region 32 with fail
            refine wp_region_held_drew (S := fun w => Blk w gX 36 [.int .i64 ck, .int .i64 cq, .int .i64 cs, .int .i64 ct, .int .i64 ctt, .slice pv vl cv, .int .i64 cn]) (by kernel_rfl) (HBk.out.keep (Below.drew (Below.refl _ _))) (fun hHeld => ?_)
            have HS := Lib.hid (HBk.out.keep (Below.drew (Below.refl _ _)))
            have HD2 := Lib.hid (HD.out.keep (Below.drew (Below.refl _ _)))
            have HB2 := Lib.hid (HB.out.trans ((Below.drew (Below.refl wz.heap.size wz)).mono hbz))
            have HR2 := Lib.hid (HR.out.keep (Below.drew (Below.refl _ _)))
            try clear hHeld
            have hSS := HS.out
            obtain ⟨X2, hX2⟩ : ∃ z, wz.drew = z := ⟨_, rfl⟩
            rw [hX2] at HS HD2 HB2 HR2 hSS ⊢
            clear hX2
            (refine htk 0 161 (.pointer (some ⟨gA, 0, none⟩)) rfl ?_ ?_; (intro w hSw; clear hSw; first | rfl | go_simp); simp only [lsz, lss])
            (refine htk 1 162 (.pointer (some ⟨gX, 2, none⟩)) rfl ?_ ?_; (intro w hSw; clear hSw; first | rfl | go_simp); simp only [lsz, lss])
            (refine htk 2 163 (.int .i64 cs) rfl ?_ ?_; (intro w hSw; have f0 := hSw.cell 2 _ rfl; clear hSw; go_simp); simp only [lsz, lss])
            (refine htk 4 165 (.pointer (some ⟨gB, 0, none⟩)) rfl ?_ ?_; (intro w hSw; clear hSw; first | rfl | go_simp); simp only [lsz, lss])
            (refine htk 5 166 (.pointer (some ⟨gX, 2, none⟩)) rfl ?_ ?_; (intro w hSw; clear hSw; first | rfl | go_simp); simp only [lsz, lss])
            (refine htk 6 167 (.int .i64 cs) rfl ?_ ?_; (intro w hSw; have f0 := hSw.cell 2 _ rfl; clear hSw; go_simp); simp only [lsz, lss])
            refine hrd 3 rfl (fun K hK => ?_)
            rw [if_pos (by kernel_rfl)]
            go_simp
            refine (Duo.runA HD2.out (i' := k) (b' := (backG b cs).1) (R := fun e => e = .returned (.int .i64 (backG b cs).2)) (fun _ _ _ _ _ _ h => gBack h HCok.out.2.2.1)).mono ?_
            rintro e w9 ⟨rfl, hd9, hk9⟩
            have HD9 := Lib.hid hd9
            have HS9 := Lib.hid (hk9.blk HS.out rfl)
            have HR9 := Lib.hid (hk9.res HR2.out)
            have HB9 := Lib.hid (HB2.out.trans (hk9.below (by have := HB2.out.size; have := HBS.out; omega)))
            have hSS9 := HS9.out
            clear hd9 hk9
            refine hK.out _ _ HS9.out (fun hHeld => ?_)
            clear hK K
            (try simp only [Act.put, lsa, lsz, lss])
            refine hrd 7 rfl (fun K hK => ?_)
            rw [if_pos (by kernel_rfl)]
            go_simp
            refine (Duo.runB HD9.out (c' := (backG b cs).1) (R := fun e => e = .returned (.int .i64 (backG b cs).2)) (fun _ _ _ h => rBack h)).mono ?_
            rintro e w8 ⟨rfl, hd9, hk9⟩
            have HD8 := Lib.hid (hd9.more (Nat.le_succ k) (by omega))
            have HS8 := Lib.hid (hk9.blk HS9.out rfl)
            have HB8 := Lib.hid (HB9.out.trans (hk9.below (by have := HB9.out.size; have := HBS.out; omega)))
            have hSS8 := HS8.out
            clear hd9 hk9
            refine hK.out _ _ HS8.out (fun hHeld => ?_)
            clear hK K
            (try simp only [Act.put, lsa, lsz, lss])
            (refine htk 8 11 (.int .i64 (backG b cs).2) rfl ?_ ?_; (intro w hSw; clear hSw; first | rfl | go_simp); simp only [lsz, lss])
            (refine htk 9 12 (.int .i64 (backG b cs).2) rfl ?_ ?_; (intro w hSw; clear hSw; first | rfl | go_simp); simp only [lsz, lss])
            refine wpAnyH_done (by kernel_rfl) ?_ _
            go_wp2
            go_meet
            exact ⟨(backG b cs).1, (backG b cs).2, 0, [], [], rfl, rfl, rfl, rfl, IsTd.nil, IsTd.nil, rfl, HD8.out, HS8.out, HB8.out⟩
          by_cases hc10 : pc = 10
          · subst hc10
            go_upto_region 34 with fail
            refine wp_region_held_drew (S := fun w => Blk w gX 36 [.int .i64 ck, .int .i64 cq, .int .i64 cs, .int .i64 ct, .int .i64 ctt, .slice pv vl cv, .int .i64 cn]) (by kernel_rfl) (HBk.out.keep (Below.drew (Below.refl _ _))) (fun hHeld => ?_)
            have HS := Lib.hid (HBk.out.keep (Below.drew (Below.refl _ _)))
            have HD2 := Lib.hid (HD.out.keep (Below.drew (Below.refl _ _)))
            have HB2 := Lib.hid (HB.out.trans ((Below.drew (Below.refl wz.heap.size wz)).mono hbz))
            have HR2 := Lib.hid (HR.out.keep (Below.drew (Below.refl _ _)))
            try clear hHeld
            have hSS := HS.out
            obtain ⟨X2, hX2⟩ : ∃ z, wz.drew = z := ⟨_, rfl⟩
            rw [hX2] at HS HD2 HB2 HR2 hSS ⊢
            clear hX2
            (refine htk 0 171 (.pointer (some ⟨gA, 0, none⟩)) rfl ?_ ?_; (intro w hSw; clear hSw; first | rfl | go_simp); simp only [lsz, lss])
            (refine htk 1 172 (.pointer (some ⟨gX, 2, none⟩)) rfl ?_ ?_; (intro w hSw; clear hSw; first | rfl | go_simp); simp only [lsz, lss])
            (refine htk 2 173 (.int .i64 cs) rfl ?_ ?_; (intro w hSw; have f0 := hSw.cell 2 _ rfl; clear hSw; go_simp); simp only [lsz, lss])
            (refine htk 3 174 (.pointer (some ⟨gX, 3, none⟩)) rfl ?_ ?_; (intro w hSw; clear hSw; first | rfl | go_simp); simp only [lsz, lss])
            (refine htk 4 175 (.int .i64 ct) rfl ?_ ?_; (intro w hSw; have f0 := hSw.cell 3 _ rfl; clear hSw; go_simp); simp only [lsz, lss])
            (refine htk 6 177 (.pointer (some ⟨gB, 0, none⟩)) rfl ?_ ?_; (intro w hSw; clear hSw; first | rfl | go_simp); simp only [lsz, lss])
            (refine htk 7 178 (.pointer (some ⟨gX, 2, none⟩)) rfl ?_ ?_; (intro w hSw; clear hSw; first | rfl | go_simp); simp only [lsz, lss])
            (refine htk 8 179 (.int .i64 cs) rfl ?_ ?_; (intro w hSw; have f0 := hSw.cell 2 _ rfl; clear hSw; go_simp); simp only [lsz, lss])
            (refine htk 9 180 (.pointer (some ⟨gX, 3, none⟩)) rfl ?_ ?_; (intro w hSw; clear hSw; first | rfl | go_simp); simp only [lsz, lss])
            (refine htk 10 181 (.int .i64 ct) rfl ?_ ?_; (intro w hSw; have f0 := hSw.cell 3 _ rfl; clear hSw; go_simp); simp only [lsz, lss])
            refine hrd 5 rfl (fun K hK => ?_)
            rw [if_pos (by kernel_rfl)]
            go_simp
            refine (Duo.runA HD2.out (i' := k) (b' := (ackG b cs ct).1) (R := fun e => e = .returned (.int .i64 (ackG b cs ct).2)) (fun _ _ _ _ _ _ h => gAck h HCok.out.2.2.1)).mono ?_
            rintro e w9 ⟨rfl, hd9, hk9⟩
            have HD9 := Lib.hid hd9
            have HS9 := Lib.hid (hk9.blk HS.out rfl)
            have HR9 := Lib.hid (hk9.res HR2.out)
            have HB9 := Lib.hid (HB2.out.trans (hk9.below (by have := HB2.out.size; have := HBS.out; omega)))
            have hSS9 := HS9.out
            clear hd9 hk9
            refine hK.out _ _ HS9.out (fun hHeld => ?_)
            clear hK K
            (try simp only [Act.put, lsa, lsz, lss])
            refine hrd 11 rfl (fun K hK => ?_)
            rw [if_pos (by kernel_rfl)]
            go_simp
            refine (Duo.runB HD9.out (c' := (ackG b cs ct).1) (R := fun e => e = .returned (.int .i64 (ackG b cs ct).2)) (fun _ _ _ h => rAck h)).mono ?_
            rintro e w8 ⟨rfl, hd9, hk9⟩
            have HD8 := Lib.hid (hd9.more (Nat.le_succ k) (by omega))
            have HS8 := Lib.hid (hk9.blk HS9.out rfl)
            have HB8 := Lib.hid (HB9.out.trans (hk9.below (by have := HB9.out.size; have := HBS.out; omega)))
            have hSS8 := HS8.out
            clear hd9 hk9
            refine hK.out _ _ HS8.out (fun hHeld => ?_)
            clear hK K
            (try simp only [Act.put, lsa, lsz, lss])
            (refine htk 12 11 (.int .i64 (ackG b cs ct).2) rfl ?_ ?_; (intro w hSw; clear hSw; first | rfl | go_simp); simp only [lsz, lss])
            (refine htk 13 12 (.int .i64 (ackG b cs ct).2) rfl ?_ ?_; (intro w hSw; clear hSw; first | rfl | go_simp); simp only [lsz, lss])
            refine wpAnyH_done (by kernel_rfl) ?_ _
            go_wp2
            go_meet
            exact ⟨(ackG b cs ct).1, (ackG b cs ct).2, 0, [], [], rfl, rfl, rfl, rfl, IsTd.nil, IsTd.nil, rfl, HD8.out, HS8.out, HB8.out⟩
          have e0 : (pc == 0) = false := by simpa using hc0
          have e1 : (pc == 1) = false := by simpa using hc1
          have e5 : (pc == 5) = false := by simpa using hc5
          have e6 : (pc == 6) = false := by simpa using hc6
          have e7 : (pc == 7) = false := by simpa using hc7
          have e8 : (pc == 8) = false := by simpa using hc8
          have e9 : (pc == 9) = false := by simpa using hc9
          have e10 : (pc == 10) = false := by simpa using hc10
          clear hc0 hc1 hc5 hc6 hc7 hc8 hc9 hc10
          go_upto_region 15 with fail
          refine wp_region_held_drew (S := fun w => Blk w gX 36 [.int .i64 ck, .int .i64 cq, .int .i64 cs, .int .i64 ct, .int .i64 ctt, .slice pv vl cv, .int .i64 cn]) (by kernel_rfl) (HBk.out.keep (Below.drew (Below.refl _ _))) (fun hHeld => ?_)
          have HS := Lib.hid (HBk.out.keep (Below.drew (Below.refl _ _)))
          have HD2 := Lib.hid (HD.out.keep (Below.drew (Below.refl _ _)))
          have HB2 := Lib.hid (HB.out.trans ((Below.drew (Below.refl wz.heap.size wz)).mono hbz))
          have HR2 := Lib.hid (HR.out.keep (Below.drew (Below.refl _ _)))
          try clear hHeld
          have hSS := HS.out
          obtain ⟨X2, hX2⟩ : ∃ z, wz.drew = z := ⟨_, rfl⟩
          rw [hX2] at HS HD2 HB2 HR2 hSS ⊢
          clear hX2
          (refine htk 0 57 (.pointer (some ⟨gA, 0, none⟩)) rfl ?_ ?_; (intro w hSw; clear hSw; first | rfl | go_simp); simp only [lsz, lss])
          (refine htk 1 58 (.pointer (some ⟨gX, 1, none⟩)) rfl ?_ ?_; (intro w hSw; clear hSw; first | rfl | go_simp); simp only [lsz, lss])
          (refine htk 2 59 (.int .i64 cq) rfl ?_ ?_; (intro w hSw; have f0 := hSw.cell 1 _ rfl; clear hSw; go_simp); simp only [lsz, lss])
          (refine htk 3 60 (.pointer (some ⟨gX, 4, none⟩)) rfl ?_ ?_; (intro w hSw; clear hSw; first | rfl | go_simp); simp only [lsz, lss])
          (refine htk 4 61 (.agg #[.int .i64 ctt, .slice pv vl cv]) rfl ?_ ?_; (intro w hSw; have f0 := hSw.cell 4 _ rfl; have f1 := hSw.cell 5 _ rfl; clear hSw; go_simp); simp only [lsz, lss])
          (refine htk 6 63 (.pointer (some ⟨gB, 0, none⟩)) rfl ?_ ?_; (intro w hSw; clear hSw; first | rfl | go_simp); simp only [lsz, lss])
          (refine htk 7 64 (.pointer (some ⟨gX, 1, none⟩)) rfl ?_ ?_; (intro w hSw; clear hSw; first | rfl | go_simp); simp only [lsz, lss])
          (refine htk 8 65 (.int .i64 cq) rfl ?_ ?_; (intro w hSw; have f0 := hSw.cell 1 _ rfl; clear hSw; go_simp); simp only [lsz, lss])
          (refine htk 9 66 (.pointer (some ⟨gX, 4, none⟩)) rfl ?_ ?_; (intro w hSw; clear hSw; first | rfl | go_simp); simp only [lsz, lss])
          (refine htk 10 67 (.agg #[.int .i64 ctt, .slice pv vl cv]) rfl ?_ ?_; (intro w hSw; have f0 := hSw.cell 4 _ rfl; have f1 := hSw.cell 5 _ rfl; clear hSw; go_simp); simp only [lsz, lss])
          refine hrd 5 rfl (fun K hK => ?_)
          rw [if_pos (by kernel_rfl)]
          go_simp
          refine (Duo.runA HD2.out (i' := k) (b' := (putG checkV b cq ⟨ctt, rs⟩).1) (R := fun e => e = .returned (.int .i64 (putG checkV b cq ⟨ctt, rs⟩).2)) (fun _ _ _ _ _ _ h => gPut h HCok.out.2.1 HR2.out)).mono ?_
          rintro e w9 ⟨rfl, hd9, hk9⟩
          have HD9 := Lib.hid hd9
          have HS9 := Lib.hid (hk9.blk HS.out rfl)
          have HR9 := Lib.hid (hk9.res HR2.out)
          have HB9 := Lib.hid (HB2.out.trans (hk9.below (by have := HB2.out.size; have := HBS.out; omega)))
          have hSS9 := HS9.out
          clear hd9 hk9
          refine hK.out _ _ HS9.out (fun hHeld => ?_)
          clear hK K
          (try simp only [Act.put, lsa, lsz, lss])
          refine hrd 11 rfl (fun K hK => ?_)
          rw [if_pos (by kernel_rfl)]
          go_simp
          refine (Duo.runB HD9.out (c' := (putG checkV b cq ⟨ctt, rs⟩).1) (R := fun e => e = .returned (.int .i64 (putG checkV b cq ⟨ctt, rs⟩).2)) (fun _ _ _ h => rPut h HR9.out)).mono ?_
          rintro e w8 ⟨rfl, hd9, hk9⟩
          have HD8 := Lib.hid (hd9.more (Nat.le_succ k) (by omega))
          have HS8 := Lib.hid (hk9.blk HS9.out rfl)
          have HB8 := Lib.hid (HB9.out.trans (hk9.below (by have := HB9.out.size; have := HBS.out; omega)))
          have hSS8 := HS8.out
          clear hd9 hk9
          refine hK.out _ _ HS8.out (fun hHeld => ?_)
          clear hK K
          (try simp only [Act.put, lsa, lsz, lss])
          (refine htk 12 11 (.int .i64 (putG checkV b cq ⟨ctt, rs⟩).2) rfl ?_ ?_; (intro w hSw; clear hSw; first | rfl | go_simp); simp only [lsz, lss])
          (refine htk 13 12 (.int .i64 (putG checkV b cq ⟨ctt, rs⟩).2) rfl ?_ ?_; (intro w hSw; clear hSw; first | rfl | go_simp); simp only [lsz, lss])
          refine wpAnyH_done (by kernel_rfl) ?_ _
          go_wp2
          go_meet
          exact ⟨(putG checkV b cq ⟨ctt, rs⟩).1, (putG checkV b cq ⟨ctt, rs⟩).2, 0, [], [], rfl, rfl, rfl, rfl, IsTd.nil, IsTd.nil, rfl, HD8.out, HS8.out, HB8.out⟩
        case rest =>
          obtain ⟨b', e, n, L1, L2, rfl, rfl, rfl, rfl, ht1, ht2, he, hd, hbk, hb⟩ := hcut
          have HD2 := Lib.hid hd; have HB2 := Lib.hid hb; have HT1 := Lib.hid ht1; have HT2 := Lib.hid ht2; have HE := Lib.hid he
          have f1 := hbk.cell 1 _ rfl
          have HBk2 := Lib.hid hbk
          have hee : (e != e) = false := by simp
          have hnn : (n != n) = false := by simp
          clear hd hb ht1 ht2 he hbk
          go_wp2_with fail
          refine (kToldG HT1.out HT2.out HE.out (Nat.le_refl _)).mono ?_
          rintro e' w5 ⟨rfl, hb⟩
          have HD5 := Lib.hid (HD2.out.keep hb); have HB5 := Lib.hid (HB2.out.trans (hb.mono (by have := HB2.out.size; have := HBS.out; omega)))
          have HBk5 := Lib.hid (HBk2.out.keep hb)
          clear hb f1
          have f1 := HBk5.out.cell 1 _ rfl
          go_wp2_with fail
          refine (Duo.sameB HD5.out HCok.out.2.1).mono ?_
          rintro e' w6 ⟨rfl, hb⟩
          have HD6 := Lib.hid (HD5.out.hold (KA' := fun _ => False) (KB' := fun _ => False) hb (fun _ h => h.elim) (fun _ h => h.elim)); have HB6 := Lib.hid (HB5.out.trans (hb.mono (by have := HB5.out.size; have := HBS.out; omega)))
          clear hb f1
          go_wp2
          exact ⟨⟨k + 1, b', by omega, by go_num, HD6.out, HB6.out⟩, by simp [intOf]; omega⟩
      · have hk' : k = N := by omega
        subst hk'
        have hki : ¬ ((k : Int) < (k : Int)) := by omega
        go_wp2
        go_ret
        exact ⟨rfl, by rw [HBS.out]; exact HB.out⟩
end Go.Proofs.YtfmolimnnheaoaaGreat
