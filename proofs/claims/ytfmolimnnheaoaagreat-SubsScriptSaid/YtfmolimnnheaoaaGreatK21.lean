/- kit.Told on times without results; told. -/
import Derived.Test.YtfmolimnnheaoaaGreatK15
import Derived.Deep.QuietTactic
import Derived.Test.YtfmolimnnheaoaaGreatK1
namespace Go.Proofs.YtfmolimnnheaoaaGreat
open Go.RowKit
set_option linter.unusedSimpArgs false
set_option linter.unusedVariables false
open Go.Maps

set_option maxRecDepth 100000 in
theorem bTold (t : Int) (W : World) : Calls Tryz.prog 29 #[.int .i64 t] W fun e w' => e = .returned (.agg #[.int .i64 t, .slice none 0 0]) ∧ Below W.heap.size W w' := by
  go_enter Tryz.func29, Tryz.ntmps29; (try simp only [List.append_eq, List.cons_append, List.nil_append])
  go_wp2_with (refine wpList_store_new rfl 34 _ _ rfl #[.int .i64 t, .slice none 0 0] _ _ rfl rfl (by kernel_rfl) rfl (by kernel_rfl) ?_)
  exact bodyPost_agg (d := _) rfl rfl (World.alloc_heap_new W _) Tryz.underlying34 rfl (by kernel_rfl) rfl ⟨rfl, (Below.refl _ _).alloc (Nat.le_refl _) _⟩
set_option maxRecDepth 100000 in
theorem kVec0 (W : World) : Calls Tryz.prog 46 #[.slice none 0 0, .slice none 0 0] W fun e w' => e = .returned (.bool true) ∧ w' = W := by
  go_enter Tryz.func46, Tryz.ntmps46; (try simp only [List.append_eq, List.cons_append, List.nil_append])
  go_wp2
  go_loopw [5] (fun j wr => j = .int .i64 0 ∧ wr = W) (fun _ _ => 0)
  case atStart => exact ⟨rfl, rfl⟩
  case round =>
    obtain ⟨rfl, hw⟩ := hrel
    subst hw
    go_wp2
    go_ret
    exact ⟨rfl, rfl⟩
set_option maxRecDepth 100000 in
set_option maxHeartbeats 4000000 in
theorem kTold {n : Nat} {v u : Value} {l m : List Int} {W : World} (hl : IsT n W v l) (hm : IsT n W u m) (hn : n ≤ W.heap.size) (hlen : l.length ≤ 100000) :
    Calls Tryz.prog 27 #[v, u] W fun e w' => e = .returned (.bool (decide (l = m))) ∧ Below W.heap.size W w' := by
  obtain ⟨p, cap, rfl, hcap1, hcap2⟩ := hl.open
  obtain ⟨p2, cap2, rfl, hcap3, hcap4⟩ := hm.open
  by_cases hne : l.length = m.length
  · have Hl := Lib.hid hl; have Hm := Lib.hid hm; have Hn := Lib.hid hn
    rw [hne] at hlen
    have Hne := Lib.hid hne
    obtain ⟨N, hN⟩ : ∃ z, m.length = z := ⟨_, rfl⟩
    rw [hne, hN]
    rw [hN] at hlen
    have HN := Lib.hid hN
    clear hl hm hn hne hN hcap1 hcap2 hcap3 hcap4
    go_enter Tryz.func27, Tryz.ntmps27; (try simp only [List.append_eq, List.cons_append, List.nil_append])
    go_wp2
    go_loopw [5] (fun j wr => ∃ k : Nat, k ≤ N ∧ j = .int .i64 k ∧ l.take k = m.take k ∧ Below W.heap.size W wr) (fun j _ => N - (intOf j).toNat)
    case atStart => exact ⟨0, Nat.zero_le _, rfl, rfl, Below.refl _ _⟩
    case round =>
      obtain ⟨k, hk, rfl, htk, hb⟩ := hrel
      have Htk := Lib.hid htk; have HB := Lib.hid hb
      clear htk hb
      by_cases hlt : k < N
      · have hki : (k : Int) < (N : Int) := by omega
        obtain ⟨x, hx⟩ : ∃ x, l[k]? = some x := ⟨_, List.getElem?_eq_getElem (by have := Hne.out; have := HN.out; omega)⟩
        obtain ⟨y, hy⟩ : ∃ y, m[k]? = some y := ⟨_, List.getElem?_eq_getElem (by have := HN.out; omega)⟩
        obtain ⟨b1, o1, rfl, hb1, d0, d1⟩ := (Hl.out.mono (HB.out.mono Hn.out) (Nat.le_refl _)).get hx
        obtain ⟨b2, o2, rfl, hb2, e0, e1⟩ := (Hm.out.mono (HB.out.mono Hn.out) (Nat.le_refl _)).get hy
        have hsz := HB.out.size
        have hn1 := Hn.out
        have hw1 : b1 < wr.heap.size := by omega
        have hw2 : b2 < wr.heap.size := by omega
        have HX := Lib.hid hx; have HY := Lib.hid hy
        clear hx hy
        by_cases hxy : x = y
        · subst hxy
          have hxx : (x != x) = false := by simp
          go_wp2_with fail
          go_quiet ((go_at_call 46; exact Calls.quiet_of_same (kVec0 _)))
          go_wp2
          exact ⟨⟨k + 1, by omega, by go_num, by rw [List.take_add_one, List.take_add_one, HX.out, HY.out, Htk.out], below_drewN HB.out _⟩, by simp [intOf]; omega⟩
        · have hne2 : (x != y) = true := by simpa using hxy
          go_wp2_with fail
          go_quiet (fail)
          go_wp2
          go_ret
          exact ⟨by
            have h1 : l ≠ m := fun e => by
              have h2 := HX.out
              rw [e, HY.out] at h2
              exact hxy (Option.some.inj h2).symm
            rw [decide_eq_false h1]; rfl, below_drewN HB.out _⟩
      · have hk' : k = N := by omega
        subst hk'
        have hki : ¬ ((k : Int) < (k : Int)) := by omega
        go_wp2
        go_ret
        exact ⟨by
          have h1 := Htk.out
          rw [List.take_of_length_le (by have := Hne.out; have := HN.out; omega), List.take_of_length_le (by have := HN.out; omega)] at h1
          rw [decide_eq_true h1]; rfl, HB.out⟩
  · have hni : ¬ (l.length : Int) = (m.length : Int) := by omega
    have hdl : decide (l = m) = false := decide_eq_false (fun e => hne (by rw [e]))
    rw [hdl]
    clear hl hm
    go_enter Tryz.func27, Tryz.ntmps27; (try simp only [List.append_eq, List.cons_append, List.nil_append])
    go_wp2
    go_ret
    exact ⟨rfl, Below.refl _ _⟩
end Go.Proofs.YtfmolimnnheaoaaGreat

/- law26.lives. Printed by wip/gen_blives.py. -/
namespace Go.Proofs.YtfmolimnnheaoaaGreat
open Go.RowKit
set_option linter.unusedSimpArgs false
set_option linter.unusedVariables false
open Go.Maps

theorem isT_two (X : World) (a b : Int) : IsT (X.alloc (.cells #[.int .i64 a, .slice none 0 0, .int .i64 b, .slice none 0 0] 34)).heap.size (X.alloc (.cells #[.int .i64 a, .slice none 0 0, .int .i64 b, .slice none 0 0] 34)) (.slice (some ⟨X.heap.size, 0, none⟩) 2 2) [a, b] := by
  refine ⟨_, 2, rfl, by simp, by unfold maxLen; omega, fun _ => ⟨X.heap.size, 0, rfl, by simp, fun k r hr j x hx => ?_⟩⟩
  have hB := Blk.new X [.int .i64 a, .slice none 0 0, .int .i64 b, .slice none 0 0] 34
  match k, hr with
  | 0, hr =>
    simp at hr; subst hr
    match j, hx with
    | 0, hx => exact hB.cell 0 x (by simpa [toldC] using hx)
    | 1, hx => exact hB.cell 1 x (by simpa [toldC] using hx)
    | j + 2, hx => simp [toldC] at hx
  | 1, hr =>
    simp at hr; subst hr
    match j, hx with
    | 0, hx => exact hB.cell 2 x (by simpa [toldC] using hx)
    | 1, hx => exact hB.cell 3 x (by simpa [toldC] using hx)
    | j + 2, hx => simp [toldC] at hx
  | k + 2, hr => simp at hr
set_option maxRecDepth 100000 in
set_option maxHeartbeats 16000000 in
theorem bLives (W : World) : Calls Tryz.prog 4 #[] W fun e w' => e = .returned (.bool true) ∧ Below W.heap.size W w' := by
  have HB := Lib.hid (Below.refl W.heap.size W)
  go_enter Tryz.func4, Tryz.ntmps4; (try simp only [List.append_eq, List.cons_append, List.nil_append])
  go_wp2_with fail
  refine (bNew (room := 2) ⟨by omega, by omega⟩ _).mono ?_
  rintro e w0 ⟨g, hq, hs, rfl, hB, hb⟩
  have H := Lib.hid hB; have HB := Lib.hid hb; clear hB hb
  go_wp2_with fail
  refine (bOpen (mark := 5) H.out rfl ⟨by omega, by omega⟩ (by omega) HB.out.size).mono ?_
  rintro e w00 ⟨rfl, xq, hB, ho⟩
  have H := Lib.hid (show BrdM W.heap.size w00 g hq hs (0 + 1) 0 (some xq) (⟨2, [], 5, 5, [], 1⟩ : Bd) (.slice none 0 0) [] from hB)
  have HB := Lib.hid (HB.out.trans (ho.below (fun k hk => hk.1) HB.out.size))
  clear hB ho
  go_wp2_with fail
  have hC := bSubscribe H.out HB.out.size (by decide) (by decide)
  rw [show joinB (⟨2, [], 5, 5, [], 1⟩ : Bd) ((⟨2, [], 5, 5, [], 1⟩ : Bd)).last = ((⟨2, [], 5, 5, [⟨1, 5, 5⟩], 2⟩ : Bd), 1, 0) from rfl] at hC
  refine hC.mono ?_
  clear hC
  rintro e w01 ⟨rfl, ns, bl, hns, hB, ho⟩
  have H := Lib.hid hB
  have HB := Lib.hid (HB.out.trans (ho.below (fun k hk => hk.1) HB.out.size))
  clear hB ho
  go_wp2_with fail
  refine (bTold 10 _).mono ?_
  rintro e w1 ⟨rfl, hb⟩
  have H := Lib.hid (H.out.keep hb)
  have HB := Lib.hid (HB.out.trans (hb.mono HB.out.size))
  (try have HO := Lib.hid (ownsRow_keep HO.out hb))
  clear hb
  go_wp2_with fail
  have hC := bPut (t := 10) H.out (by simp [Rise]) (by simp) HB.out.size
  rw [show putB (⟨2, [], 5, 5, [⟨1, 5, 5⟩], 2⟩ : Bd) 10 = ((⟨2, [10], 10, 5, [⟨1, 5, 5⟩], 2⟩ : Bd), 0) from rfl] at hC
  refine hC.mono ?_
  clear hC
  rintro e w2 ⟨rfl, kv, hB, ho⟩
  have H := Lib.hid hB
  have HB := Lib.hid (HB.out.trans (ho.below (fun k hk => hk.1) HB.out.size))
  clear hB ho
  go_wp2_with fail
  refine (bTold 15 _).mono ?_
  rintro e w3 ⟨rfl, hb⟩
  have H := Lib.hid (H.out.keep hb)
  have HB := Lib.hid (HB.out.trans (hb.mono HB.out.size))
  (try have HO := Lib.hid (ownsRow_keep HO.out hb))
  clear hb
  go_wp2_with fail
  have hC := bPut (t := 15) H.out (by simp [Rise]) (by simp) HB.out.size
  rw [show putB (⟨2, [10], 10, 5, [⟨1, 5, 5⟩], 2⟩ : Bd) 15 = ((⟨2, [10, 15], 15, 5, [⟨1, 5, 5⟩], 2⟩ : Bd), 0) from rfl] at hC
  refine hC.mono ?_
  clear hC
  rintro e w4 ⟨rfl, kv, hB, ho⟩
  have H := Lib.hid hB
  have HB := Lib.hid (HB.out.trans (ho.below (fun k hk => hk.1) HB.out.size))
  clear hB ho
  go_wp2_with fail
  refine (bTold 20 _).mono ?_
  rintro e w5 ⟨rfl, hb⟩
  have H := Lib.hid (H.out.keep hb)
  have HB := Lib.hid (HB.out.trans (hb.mono HB.out.size))
  (try have HO := Lib.hid (ownsRow_keep HO.out hb))
  clear hb
  go_wp2_with fail
  have hC := bPut (t := 20) H.out (by simp [Rise]) (by simp) HB.out.size
  rw [show putB (⟨2, [10, 15], 15, 5, [⟨1, 5, 5⟩], 2⟩ : Bd) 20 = ((⟨2, [10, 15], 15, 5, [⟨1, 5, 5⟩], 2⟩ : Bd), 9) from rfl] at hC
  refine hC.mono ?_
  clear hC
  rintro e w6 ⟨rfl, kv, hB, ho⟩
  have H := Lib.hid hB
  have HB := Lib.hid (HB.out.trans (ho.below (fun k hk => hk.1) HB.out.size))
  clear hB ho
  go_wp2_with fail
  have hC := bPoll (n := 1) (m := 9) H.out ⟨by omega, by omega⟩ ⟨by omega, by omega⟩ (by simp [Rise]) HB.out.size
  rw [show pollB (⟨2, [10, 15], 15, 5, [⟨1, 5, 5⟩], 2⟩ : Bd) 1 9 = ((⟨2, [10, 15], 15, 5, [⟨1, 15, 5⟩], 2⟩ : Bd), [10, 15], 0) from rfl] at hC
  refine hC.mono ?_
  clear hC
  rintro e w7 ⟨v, rfl, hO, hB, ho⟩
  have H := Lib.hid hB; have HO := Lib.hid hO
  have HB := Lib.hid (HB.out.trans (ho.below (fun k hk => hk.1) HB.out.size))
  clear hB ho hO
  go_wp2_with fail
  refine (bTold 10 _).mono ?_
  rintro e w8 ⟨rfl, hb⟩
  have H := Lib.hid (H.out.keep hb)
  have HB := Lib.hid (HB.out.trans (hb.mono HB.out.size))
  (try have HO := Lib.hid (ownsRow_keep HO.out hb))
  clear hb
  go_wp2_with fail
  refine (bTold 15 _).mono ?_
  rintro e w9 ⟨rfl, hb⟩
  have H := Lib.hid (H.out.keep hb)
  have HB := Lib.hid (HB.out.trans (hb.mono HB.out.size))
  (try have HO := Lib.hid (ownsRow_keep HO.out hb))
  clear hb
  go_wp2_with fail
  have hT0 := OwnT.isT (l := [10, 15]) (ownsRow_keep HO.out ((Below.refl _ _).alloc (Nat.le_refl _) (.cells #[.int .i64 10, .slice none 0 0, .int .i64 15, .slice none 0 0] 34))) (Nat.le_refl _)
  have hC := kTold hT0 (isT_two _ 10 15) (Nat.le_refl _) (by simp)
  rw [show decide (([10, 15] : List Int) = [10, 15]) = true from rfl] at hC
  refine hC.mono ?_
  clear hC hT0
  rintro e w10 ⟨rfl, hb⟩
  have hb2 := ((Below.refl _ _).alloc (Nat.le_refl _) (.cells #[.int .i64 10, .slice none 0 0, .int .i64 15, .slice none 0 0] 34)).trans (hb.mono (by simp))
  have H := Lib.hid (H.out.keep hb2)
  have HB := Lib.hid (HB.out.trans (hb2.mono HB.out.size))
  clear hb hb2
  go_wp2_with fail
  have hC := bAck (n := 1) (t := 10) H.out ⟨by omega, by omega⟩ (by simp [Rise]) HB.out.size
  rw [show ackB (⟨2, [10, 15], 15, 5, [⟨1, 15, 5⟩], 2⟩ : Bd) 1 10 = ((⟨2, [15], 15, 10, [⟨1, 15, 10⟩], 2⟩ : Bd), 0) from rfl] at hC
  refine hC.mono ?_
  clear hC
  rintro e w11 ⟨kv, rfl, hB, ho⟩
  have H := Lib.hid hB
  have HB := Lib.hid (HB.out.trans (ho.below (fun k hk => hk.1) HB.out.size))
  clear hB ho
  go_wp2_with fail
  refine (bTold 20 _).mono ?_
  rintro e w12 ⟨rfl, hb⟩
  have H := Lib.hid (H.out.keep hb)
  have HB := Lib.hid (HB.out.trans (hb.mono HB.out.size))
  (try have HO := Lib.hid (ownsRow_keep HO.out hb))
  clear hb
  go_wp2_with fail
  have hC := bPut (t := 20) H.out (by simp [Rise]) (by simp) HB.out.size
  rw [show putB (⟨2, [15], 15, 10, [⟨1, 15, 10⟩], 2⟩ : Bd) 20 = ((⟨2, [15, 20], 20, 10, [⟨1, 15, 10⟩], 2⟩ : Bd), 0) from rfl] at hC
  refine hC.mono ?_
  clear hC
  rintro e w13 ⟨rfl, kv, hB, ho⟩
  have H := Lib.hid hB
  have HB := Lib.hid (HB.out.trans (ho.below (fun k hk => hk.1) HB.out.size))
  clear hB ho
  go_wp2_with fail
  refine (bKept H.out).mono ?_
  rintro e w14 ⟨v, rfl, hO, hb⟩
  have HO := Lib.hid hO
  have H := Lib.hid (H.out.keep hb)
  have HB := Lib.hid (HB.out.trans (hb.mono HB.out.size))
  clear hO hb
  go_wp2_with fail
  refine (bTold 15 _).mono ?_
  rintro e w15 ⟨rfl, hb⟩
  have H := Lib.hid (H.out.keep hb)
  have HB := Lib.hid (HB.out.trans (hb.mono HB.out.size))
  (try have HO := Lib.hid (ownsRow_keep HO.out hb))
  clear hb
  go_wp2_with fail
  refine (bTold 20 _).mono ?_
  rintro e w16 ⟨rfl, hb⟩
  have H := Lib.hid (H.out.keep hb)
  have HB := Lib.hid (HB.out.trans (hb.mono HB.out.size))
  (try have HO := Lib.hid (ownsRow_keep HO.out hb))
  clear hb
  go_wp2_with fail
  have hT0 := OwnT.isT (l := [15, 20]) (ownsRow_keep HO.out ((Below.refl _ _).alloc (Nat.le_refl _) (.cells #[.int .i64 15, .slice none 0 0, .int .i64 20, .slice none 0 0] 34))) (Nat.le_refl _)
  have hC := kTold hT0 (isT_two _ 15 20) (Nat.le_refl _) (by simp)
  rw [show decide (([15, 20] : List Int) = [15, 20]) = true from rfl] at hC
  refine hC.mono ?_
  clear hC hT0
  rintro e w17 ⟨rfl, hb⟩
  have hb2 := ((Below.refl _ _).alloc (Nat.le_refl _) (.cells #[.int .i64 15, .slice none 0 0, .int .i64 20, .slice none 0 0] 34)).trans (hb.mono (by simp))
  have H := Lib.hid (H.out.keep hb2)
  have HB := Lib.hid (HB.out.trans (hb2.mono HB.out.size))
  clear hb hb2
  go_wp2_with fail
  have hC := bResume (t := 5) H.out HB.out.size (by decide) (by omega)
  rw [show resumeB (⟨2, [15, 20], 20, 10, [⟨1, 15, 10⟩], 2⟩ : Bd) 5 = ((⟨2, [15, 20], 20, 10, [⟨1, 15, 10⟩], 2⟩ : Bd), 0, 8) from rfl] at hC
  refine hC.mono ?_
  clear hC
  rintro e w18 ⟨rfl, nsa, bl, hnsa, hB, ho⟩
  have H := Lib.hid hB
  have HB := Lib.hid (HB.out.trans (ho.below (fun k hk => hk.1) HB.out.size))
  clear hB ho
  go_wp2_with fail
  have hC := bResume (t := 10) H.out HB.out.size (by decide) (by omega)
  rw [show resumeB (⟨2, [15, 20], 20, 10, [⟨1, 15, 10⟩], 2⟩ : Bd) 10 = ((⟨2, [15, 20], 20, 10, [⟨1, 15, 10⟩, ⟨2, 10, 10⟩], 3⟩ : Bd), 2, 0) from rfl] at hC
  refine hC.mono ?_
  clear hC
  rintro e w19 ⟨rfl, nsb, bl, hnsb, hB, ho⟩
  have H := Lib.hid hB
  have HB := Lib.hid (HB.out.trans (ho.below (fun k hk => hk.1) HB.out.size))
  clear hB ho
  go_wp2_with fail
  have hC := bPoll (n := 2) (m := 9) H.out ⟨by omega, by omega⟩ ⟨by omega, by omega⟩ (by simp [Rise]) HB.out.size
  rw [show pollB (⟨2, [15, 20], 20, 10, [⟨1, 15, 10⟩, ⟨2, 10, 10⟩], 3⟩ : Bd) 2 9 = ((⟨2, [15, 20], 20, 10, [⟨1, 15, 10⟩, ⟨2, 20, 10⟩], 3⟩ : Bd), [15, 20], 0) from rfl] at hC
  refine hC.mono ?_
  clear hC
  rintro e w20 ⟨v, rfl, hO, hB, ho⟩
  have H := Lib.hid hB; have HO := Lib.hid hO
  have HB := Lib.hid (HB.out.trans (ho.below (fun k hk => hk.1) HB.out.size))
  clear hB ho hO
  go_wp2_with fail
  refine (bTold 15 _).mono ?_
  rintro e w21 ⟨rfl, hb⟩
  have H := Lib.hid (H.out.keep hb)
  have HB := Lib.hid (HB.out.trans (hb.mono HB.out.size))
  (try have HO := Lib.hid (ownsRow_keep HO.out hb))
  clear hb
  go_wp2_with fail
  refine (bTold 20 _).mono ?_
  rintro e w22 ⟨rfl, hb⟩
  have H := Lib.hid (H.out.keep hb)
  have HB := Lib.hid (HB.out.trans (hb.mono HB.out.size))
  (try have HO := Lib.hid (ownsRow_keep HO.out hb))
  clear hb
  go_wp2_with fail
  have hT0 := OwnT.isT (l := [15, 20]) (ownsRow_keep HO.out ((Below.refl _ _).alloc (Nat.le_refl _) (.cells #[.int .i64 15, .slice none 0 0, .int .i64 20, .slice none 0 0] 34))) (Nat.le_refl _)
  have hC := kTold hT0 (isT_two _ 15 20) (Nat.le_refl _) (by simp)
  rw [show decide (([15, 20] : List Int) = [15, 20]) = true from rfl] at hC
  refine hC.mono ?_
  clear hC hT0
  rintro e w23 ⟨rfl, hb⟩
  have hb2 := ((Below.refl _ _).alloc (Nat.le_refl _) (.cells #[.int .i64 15, .slice none 0 0, .int .i64 20, .slice none 0 0] 34)).trans (hb.mono (by simp))
  have H := Lib.hid (H.out.keep hb2)
  have HB := Lib.hid (HB.out.trans (hb2.mono HB.out.size))
  clear hb hb2
  go_wp2
  go_ret
  exact ⟨rfl, HB.out⟩
end Go.Proofs.YtfmolimnnheaoaaGreat
