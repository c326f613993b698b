/- GridSteps: the walk. -/
import Derived.Test.YtdmojmadklckbaaGr15
import Derived.Deep.CutRange
import Derived.Test.YtdmojmadklckbaaGr19
namespace Go.Proofs.Ytdmojmadklckbaa
open Go.RowKit
set_option linter.unusedSimpArgs false
set_option linter.unusedVariables false

/-- What the law speaks of. -/
structure InSteps (ev x y z late : Int) (e : Ex) (tl ll : Nat) : Prop where
  chk : checkQuery ev e = 0
  ev30 : 30 ≤ ev
  x0 : 0 ≤ x
  xy : x ≤ y
  yz : y ≤ z
  z1 : z ≤ 100000
  tl1 : tl ≤ 100
  ll1 : ll ≤ 10
  l0 : 0 ≤ late
  l1 : late ≤ 1099511627776

theorem own_two {base t : Nat} {w : World} {v : Value} {a b : List Int} (h : w.ownsRow base t 1 v (a.length + b.length) (a.map (fun i => .int .i64 i) ++ b.map fun i => .int .i64 i)) : IsInts w.heap.size w v (a ++ b) :=
  OwnI.ints (t := t) (base := base) (by unfold OwnI; rw [List.length_append, List.map_append]; exact h) (Nat.le_refl _)
/-- One of a list, as a list. -/
theorem IsQs.sub {n : Nat} {w : World} {b off len cap : Nat} {l : List (Int × Ex)} (h : IsQs n w (.slice (some ⟨b, off, none⟩) len cap) l) {k c : Nat} (hk : k < l.length) (hc : 1 ≤ c) (hc2 : c ≤ maxLen) :
    IsQs n w (.slice (some ⟨b, off + k * 10, none⟩) 1 c) [l[k]] := by
  obtain ⟨rows, h1, h2, h3⟩ := h
  obtain ⟨b', off', hp, hb, hcl⟩ := h1.at k (rows[k]'(by omega)) (by simp)
  cases hp
  refine ⟨[rows[k]'(by omega)], ⟨_, c, rfl, hc, hc2, fun _ => ⟨b, _, rfl, hb, fun j r hr i x hx => ?_⟩⟩, rfl, fun j r q hr hq => ?_⟩
  · cases j with
    | zero =>
      simp at hr; subst hr
      have := hcl i x hx
      rw [Nat.zero_mul, Nat.add_zero]; exact this
    | succ j => simp at hr
  · cases j with
    | zero => simp at hr hq; subst hr hq; exact h3 k _ _ (by simp) (by simp)
    | succ j => simp at hr

set_option maxRecDepth 100000 in
set_option maxHeartbeats 8000000 in
theorem wSteps (ev x y z late : Int) (e : Ex) (cs : List Value) (l : List (Int × Ex)) (vl : Value) (ts : List Int) (vt : Value) (n : Nat) (w : World) (hn : n ≤ w.heap.size) (he : IsEx n w e cs)
    (hx : i64 x) (hy : i64 y) (hz : i64 z) (hla : i64 late) (hl : IsQs n w vl l) (hln : NilOk vl) (ht : IsInts n w vt ts) (htn : NilOk vt) :
    Calls Try.prog 6 #[.agg (.int .i64 ev :: cs).toArray, .int .i64 x, .int .i64 y, .int .i64 z, vt, .int .i64 late, vl] w (LawTrue w) := by
  have He := Lib.hid he
  have Hqc := Lib.hid he.qc
  obtain ⟨pm, cm, pn, cn, pk, ck, rfl, -⟩ := he.cellsE
  clear he
  have hlo := hl.open
  have hto := ht.open
  obtain ⟨pl, cl, rfl, hcl1, hcl2, hll⟩ := hlo
  obtain ⟨pt, ct, rfl, _, _, htl⟩ := hto
  have HLl := Lib.hid hl; clear hl
  have HTt := Lib.hid ht; clear ht
  have HLn := Lib.hid hln; clear hln
  have HTn := Lib.hid htn; clear htn
  have HX := Lib.hid hx; clear hx
  have HY := Lib.hid hy; clear hy
  have HZ := Lib.hid hz; clear hz
  have HLA := Lib.hid hla; clear hla
  unfold maxLen at hll htl hcl2
  have HL := Lib.hid (fun wx => lLives wx)
  go_enter Try.func6, Try.ntmps6; (try simp only [List.append_eq, List.cons_append, List.nil_append])
  go_upto_region 0 with fail
  go_cut [7, 14] from 7 to 7 (fun s7 s14 wx => s7 = .pointer (some ⟨w.heap.size, 0, none⟩) ∧ s14 = .bool false ∧ Below w.heap.size w wx ∧ Blk wx w.heap.size 28 [.int .i64 ev, .int .i64 e.kind, .int .i64 e.fn, .int .i64 e.op, .int .i64 e.num, .string e.metric, .slice pm e.mats.length cm, .int .i64 e.span, .slice pn e.names.length cn, .slice pk e.kids.length ck])
  case first =>
    go_wp2
    go_meet
    exact ⟨rfl, rfl, (Below.refl _ _).alloc (Nat.le_refl _) _, Blk.new _ _ _⟩
  case rest =>
    obtain ⟨rfl, rfl, hw0, hq⟩ := hcut
    obtain ⟨W, rfl⟩ : ∃ W : World, W = wc := ⟨_, rfl⟩
    have HW0 := Lib.hid hw0; clear hw0
    have d0 := hq.cell 0 _ rfl; have d1 := hq.cell 1 _ rfl; have d2 := hq.cell 2 _ rfl; have d3 := hq.cell 3 _ rfl; have d4 := hq.cell 4 _ rfl; have d5 := hq.cell 5 _ rfl; have d6 := hq.cell 6 _ rfl; have d7 := hq.cell 7 _ rfl; have d8 := hq.cell 8 _ rfl; have d9 := hq.cell 9 _ rfl
    have hlq := hq.lt
    have HQ := Lib.hid hq; clear hq
    have HB := Lib.hid (Below.refl W.heap.size W)
    have hnW : n ≤ W.heap.size := by have := HW0.out.size; omega
    cases hlt : light e 100 with
    | false =>
      skip
      go_wp2_with (first
        | (go_at_call 7; refine (HL.out _).mono ?_; rintro e' w1 ⟨rfl, hb⟩; have HB := Lib.hid (HB.out.trans (hb.mono HB.out.size)); clear hb; have hs1 := HB.out.size; clear d0 d1 d2 d3 d4 d5 d6 d7 d8 d9; have hq1 := HQ.out.mono HB.out HQ.out.lt; have d0 := hq1.cell 0 _ rfl; have d1 := hq1.cell 1 _ rfl; have d2 := hq1.cell 2 _ rfl; have d3 := hq1.cell 3 _ rfl; have d4 := hq1.cell 4 _ rfl; have d5 := hq1.cell 5 _ rfl; have d6 := hq1.cell 6 _ rfl; have d7 := hq1.cell 7 _ rfl; have d8 := hq1.cell 8 _ rfl; have d9 := hq1.cell 9 _ rfl; clear hq1)
        | (go_at_call 8; refine (kLight e _ 100 n _ (by omega) (by decide) (by decide) (He.out.mono ((HW0.out.trans (HB.out.mono HW0.out.size)).mono hn) (Nat.le_refl _))).mono ?_; rintro e' w2 ⟨rfl, hb⟩; rw [hlt]; have HB := Lib.hid (HB.out.trans (hb.mono HB.out.size)); clear hb; have hs2 := HB.out.size; clear d0 d1 d2 d3 d4 d5 d6 d7 d8 d9; have hq1 := HQ.out.mono HB.out HQ.out.lt; have d0 := hq1.cell 0 _ rfl; have d1 := hq1.cell 1 _ rfl; have d2 := hq1.cell 2 _ rfl; have d3 := hq1.cell 3 _ rfl; have d4 := hq1.cell 4 _ rfl; have d5 := hq1.cell 5 _ rfl; have d6 := hq1.cell 6 _ rfl; have d7 := hq1.cell 7 _ rfl; have d8 := hq1.cell 8 _ rfl; have d9 := hq1.cell 9 _ rfl; clear hq1))
      all_goals go_ret
      all_goals exact ⟨rfl, HW0.out.trans (HB.out.mono HW0.out.size)⟩
    | true =>
      skip
      have hsz := light_size hlt (by decide)
      go_upto_region 3 with (go_at_call 7; refine (HL.out _).mono ?_; rintro e' w1 ⟨rfl, hb⟩; have HB := Lib.hid (HB.out.trans (hb.mono HB.out.size)); clear hb; have hs1 := HB.out.size; clear d0 d1 d2 d3 d4 d5 d6 d7 d8 d9; have hq1 := HQ.out.mono HB.out HQ.out.lt; have d0 := hq1.cell 0 _ rfl; have d1 := hq1.cell 1 _ rfl; have d2 := hq1.cell 2 _ rfl; have d3 := hq1.cell 3 _ rfl; have d4 := hq1.cell 4 _ rfl; have d5 := hq1.cell 5 _ rfl; have d6 := hq1.cell 6 _ rfl; have d7 := hq1.cell 7 _ rfl; have d8 := hq1.cell 8 _ rfl; have d9 := hq1.cell 9 _ rfl; clear hq1)
      go_cut [82] from 82 to 82 (fun s82 wx => (∃ b, s82 = .bool b ∧ (b = false → InSteps ev x y z late e ts.length l.length)) ∧ Below W.heap.size W wx)
      case first =>
        skip
        by_cases hck : checkQuery ev e = 0
        · go_wp2_with (first
            | (go_at_call 8; refine (kLight e _ 100 n _ (by omega) (by decide) (by decide) (He.out.mono ((HW0.out.trans (HB.out.mono HW0.out.size)).mono hn) (Nat.le_refl _))).mono ?_; rintro e' w2 ⟨rfl, hb⟩; rw [hlt]; have HB := Lib.hid (HB.out.trans (hb.mono HB.out.size)); clear hb; have hs2 := HB.out.size; clear d0 d1 d2 d3 d4 d5 d6 d7 d8 d9; have hq1 := HQ.out.mono HB.out HQ.out.lt; have d0 := hq1.cell 0 _ rfl; have d1 := hq1.cell 1 _ rfl; have d2 := hq1.cell 2 _ rfl; have d3 := hq1.cell 3 _ rfl; have d4 := hq1.cell 4 _ rfl; have d5 := hq1.cell 5 _ rfl; have d6 := hq1.cell 6 _ rfl; have d7 := hq1.cell 7 _ rfl; have d8 := hq1.cell 8 _ rfl; have d9 := hq1.cell 9 _ rfl; clear hq1)
            | (go_at_call 9; refine (rCheck ev e _ n _ (by omega) (He.out.mono ((HW0.out.trans (HB.out.mono HW0.out.size)).mono hn) (Nat.le_refl _)) (by omega)).mono ?_; rintro e' w3 ⟨rfl, hb⟩; rw [hck]; have HB := Lib.hid (HB.out.trans (hb.mono HB.out.size)); clear hb; have hs2 := HB.out.size; clear d0 d1 d2 d3 d4 d5 d6 d7 d8 d9; have hq1 := HQ.out.mono HB.out HQ.out.lt; have d0 := hq1.cell 0 _ rfl; have d1 := hq1.cell 1 _ rfl; have d2 := hq1.cell 2 _ rfl; have d3 := hq1.cell 3 _ rfl; have d4 := hq1.cell 4 _ rfl; have d5 := hq1.cell 5 _ rfl; have d6 := hq1.cell 6 _ rfl; have d7 := hq1.cell 7 _ rfl; have d8 := hq1.cell 8 _ rfl; have d9 := hq1.cell 9 _ rfl; clear hq1))
          all_goals go_meet
          all_goals refine ⟨⟨_, rfl, fun hb => ?_⟩, HB.out⟩
          all_goals first | (simp at hb; done) | (simp only [decide_eq_false_iff_not] at hb; exact ⟨hck, by omega, by omega, by omega, by omega, by omega, by omega, by omega, by omega, by omega⟩) | skip
        · have hck' : (checkQuery ev e != 0) = true := by simpa using hck
          go_wp2_with (first
            | (go_at_call 8; refine (kLight e _ 100 n _ (by omega) (by decide) (by decide) (He.out.mono ((HW0.out.trans (HB.out.mono HW0.out.size)).mono hn) (Nat.le_refl _))).mono ?_; rintro e' w2 ⟨rfl, hb⟩; rw [hlt]; have HB := Lib.hid (HB.out.trans (hb.mono HB.out.size)); clear hb; have hs2 := HB.out.size; clear d0 d1 d2 d3 d4 d5 d6 d7 d8 d9; have hq1 := HQ.out.mono HB.out HQ.out.lt; have d0 := hq1.cell 0 _ rfl; have d1 := hq1.cell 1 _ rfl; have d2 := hq1.cell 2 _ rfl; have d3 := hq1.cell 3 _ rfl; have d4 := hq1.cell 4 _ rfl; have d5 := hq1.cell 5 _ rfl; have d6 := hq1.cell 6 _ rfl; have d7 := hq1.cell 7 _ rfl; have d8 := hq1.cell 8 _ rfl; have d9 := hq1.cell 9 _ rfl; clear hq1)
            | (go_at_call 9; refine (rCheck ev e _ n _ (by omega) (He.out.mono ((HW0.out.trans (HB.out.mono HW0.out.size)).mono hn) (Nat.le_refl _)) (by omega)).mono ?_; rintro e' w3 ⟨rfl, hb⟩; have HB := Lib.hid (HB.out.trans (hb.mono HB.out.size)); clear hb; have hs2 := HB.out.size; clear d0 d1 d2 d3 d4 d5 d6 d7 d8 d9; have hq1 := HQ.out.mono HB.out HQ.out.lt; have d0 := hq1.cell 0 _ rfl; have d1 := hq1.cell 1 _ rfl; have d2 := hq1.cell 2 _ rfl; have d3 := hq1.cell 3 _ rfl; have d4 := hq1.cell 4 _ rfl; have d5 := hq1.cell 5 _ rfl; have d6 := hq1.cell 6 _ rfl; have d7 := hq1.cell 7 _ rfl; have d8 := hq1.cell 8 _ rfl; have d9 := hq1.cell 9 _ rfl; clear hq1))
          all_goals go_meet
          all_goals exact ⟨⟨_, rfl, fun hb => by simp at hb⟩, HB.out⟩
      case rest =>
        obtain ⟨⟨b, rfl, hG⟩, hbc⟩ := hcut
        obtain ⟨W1, rfl⟩ : ∃ W1 : World, W1 = wc := ⟨_, rfl⟩
        clear HB
        have HB := Lib.hid hbc; clear hbc
        have hs1 := HB.out.size
        clear d0 d1 d2 d3 d4 d5 d6 d7 d8 d9; have hq1 := HQ.out.mono HB.out HQ.out.lt; have d0 := hq1.cell 0 _ rfl; have d1 := hq1.cell 1 _ rfl; have d2 := hq1.cell 2 _ rfl; have d3 := hq1.cell 3 _ rfl; have d4 := hq1.cell 4 _ rfl; have d5 := hq1.cell 5 _ rfl; have d6 := hq1.cell 6 _ rfl; have d7 := hq1.cell 7 _ rfl; have d8 := hq1.cell 8 _ rfl; have d9 := hq1.cell 9 _ rfl; clear hq1
        cases b with
        | true =>
          skip
          go_wp2
          go_ret
          exact ⟨rfl, HW0.out.trans (HB.out.mono HW0.out.size)⟩
        | false =>
          skip
          have hG := hG rfl
          have HG := Lib.hid hG
          obtain ⟨hck, g30, gx0, gxy, gyz, gz1, gt, gl, gl0, gl1⟩ := hG
          have hev1 := check_ev hck
          obtain ⟨i0, hi, hz0, hz1, hz2⟩ := info_parts infoL
          have CB := Lib.hid (fun (a b : Int) X (ha : i64 a) (h : Below W.heap.size W X) => show Calls Try.prog _ _ X (fun e' w' => ∃ v, e' = .returned v ∧ OwnI 2 X.heap.size w' v (betL ev a b) ∧ Below W.heap.size W w' ∧ Below X.heap.size X w') from (gBetween ev a b e _ X Hqc.out ha).mono (fun e' w' ⟨v, h1, h2, h3⟩ => ⟨v, h1, h2, h.trans (h3.mono h.size), h3⟩))
          clear hck
          go_upto_region 5 with fail
          go_cut [15] from 15 to 15 (fun s15 wx => IsInts wx.heap.size wx s15 (betL ev x z) ∧ Below W.heap.size W wx)
          case first =>
            have hX := HB.out
            have hl1 := betL_le ev x y
            have hl2 := betL_le ev y z
            clear d0 d1 d2 d3 d4 d5 d6 d7 d8 d9
            go_region_held3 (fun w' => w'.cell? ⟨w.heap.size, 0, none⟩ = some (.int .i64 ev) ∧ w'.cell? ⟨w.heap.size, 1, none⟩ = some (.int .i64 e.kind) ∧ w'.cell? ⟨w.heap.size, 2, none⟩ = some (.int .i64 e.fn) ∧ w'.cell? ⟨w.heap.size, 3, none⟩ = some (.int .i64 e.op) ∧ w'.cell? ⟨w.heap.size, 4, none⟩ = some (.int .i64 e.num) ∧ w'.cell? ⟨w.heap.size, 5, none⟩ = some (.string e.metric) ∧ w'.cell? ⟨w.heap.size, 6, none⟩ = some (.slice pm e.mats.length cm) ∧ w'.cell? ⟨w.heap.size, 7, none⟩ = some (.int .i64 e.span) ∧ w'.cell? ⟨w.heap.size, 8, none⟩ = some (.slice pn e.names.length cn) ∧ w'.cell? ⟨w.heap.size, 9, none⟩ = some (.slice pk e.kids.length ck))
              ((first | exact (HQ.out.mono (by assumption) HQ.out.lt).ten | exact (HQ.out.mono (Below.drew (by assumption)) HQ.out.lt).ten | exact (HQ.out.mono (Below.alloc (by assumption) hs1 _) HQ.out.lt).ten | exact (HQ.out.mono (Below.alloc hA1 hA1.size _) HQ.out.lt).ten))
              ((first
                | (go_at_call 19; ((with_reducible refine (CB.out x y _ HX.out (by first | assumption | exact Below.drew (by assumption) | exact Below.alloc (by assumption) hs1 _ | exact Below.drew (Below.alloc (by assumption) hs1 _))).mono ?_); rintro e' _ ⟨v1, rfl, ho1, hA1, hA2⟩))
                | (go_at_call 19; ((with_reducible refine (CB.out y z _ HY.out (by first | assumption | exact Below.drew (by assumption))).mono ?_); rintro e' _ ⟨v2, rfl, ho2, hA3, hA4⟩))
                | (rw [if_pos (by rfl)]; refine wp_append_src _ _ _ _ rfl W.heap.size 2 i0 _ 1 8 Try.underlying46 hi hz0 hz1 hz2 rfl (by decide) (.slice (some ⟨W1.heap.size, 0, none⟩) 0 0) 0 [] rfl (ownsRow_base (ownsRow_keep (own_noneI W1 _ 1).drew hA2) hs1) v1 (betL ev x y).length _ rfl (Src.of_own ho1) (ints_one _) (by unfold maxLen; omega) (by omega) hA1.size ?_; intro v3 w3 hown3 hgr3 _; have hA5 := below_app hA1 (ownsRow_base (ownsRow_keep (own_noneI W1 2 1).drew hA2) hs1) hgr3 (Nat.le_refl _) hA1.size; rw [Nat.zero_add, List.nil_append] at hown3)
                | (rw [if_pos (by rfl)]; refine wp_clone _ _ _ _ rfl 2 i0 _ 1 8 Try.underlying46 hi hz0 hz1 hz2 rfl (by decide) rfl v1 (betL ev x y).length _ rfl (Src.of_own ho1) (ints_one _) (by unfold maxLen; omega) (by omega) ?_; intro v3 w3 hown3 hb; have hown3 := ownsRow_base hown3 hA1.size; have hA5 := hA1.trans (hb.mono hA1.size); clear hb)
                | (rw [if_pos (by rfl)]; have hown3' := ownsRow_keep hown3 hA4; refine wp_append_src _ _ _ _ rfl W.heap.size 2 i0 _ 1 8 Try.underlying46 hi hz0 hz1 hz2 rfl (by decide) v3 _ _ rfl hown3' v2 (betL ev y z).length _ rfl (Src.of_own ho2) (ints_one _) (by unfold maxLen; omega) (by omega) hA3.size ?_; intro v4 w4 hown4 hgr4 _; have hA6 := below_app hA3 hown3' hgr4 (Nat.le_refl _) hA3.size)))
            all_goals go_wp2
            all_goals go_meet
            all_goals refine ⟨?_, hA6⟩
            all_goals rw [← betL_split ⟨g30, hev1.2⟩ gx0 gxy gyz gz1]
            all_goals exact own_two hown4
          case rest =>
            skip
            obtain ⟨hi15, hb5⟩ := hcut
            obtain ⟨W5, rfl⟩ : ∃ W5 : World, W5 = wc := ⟨_, rfl⟩
            clear d0 d1 d2 d3 d4 d5 d6 d7 d8 d9
            have hs5 := hb5.size
            have HQ5 := Lib.hid (HQ.out.mono hb5 HQ.out.lt)
            have HB5 := Lib.hid hb5; clear hb5
            obtain ⟨all, hall⟩ : ∃ all, betL ev x z = all := ⟨_, rfl⟩
            have Hlen := Lib.hid (betL_len (ev := ev) (x := x) (z := z) ⟨g30, hev1.2⟩ gx0 (by omega) gz1)
            have Hat := Lib.hid (fun t (h : t ∈ betL ev x z) => betL_at ⟨g30, hev1.2⟩ gx0 (by omega) gz1 h)
            rw [hall] at hi15 Hlen Hat
            have Hall := Lib.hid hall; clear hall
            obtain ⟨pa, ca, rfl, _, _, hal⟩ := hi15.open
            have HI15 := Lib.hid hi15; clear hi15
            unfold maxLen at hal
            have CB5 := Lib.hid (fun (a b : Int) X (ha : i64 a) (h : Below W5.heap.size W5 X) => show Calls Try.prog _ _ X (fun e' w' => ∃ v, e' = .returned v ∧ IsInts w'.heap.size w' v (betL ev a b) ∧ IsInts w'.heap.size w' (.slice pa all.length ca) all ∧ Below W5.heap.size W5 w' ∧ Below X.heap.size X w') from (gBetween ev a b e _ X Hqc.out ha).mono (fun e' w' ⟨v, h1, h2, h3⟩ => ⟨v, h1, h2.ints (Nat.le_refl _), HI15.out.mono (h.trans (h3.mono h.size)) (by have := h.size; have := h3.size; omega), h.trans (h3.mono h.size), h3⟩))
            have hd1 := div_bd g30 gx0 (by omega)
            have hd2 := div_bd g30 (show 0 ≤ z by omega) gz1
            go_upto_region 6 with fail
            go_cut [114] from 114 to 114 (fun s114 wx => s114 = .bool false ∧ Below W5.heap.size W5 wx)
            case first =>
              have hX := Below.refl W5.heap.size W5
              have hev0 : (ev == 0) = false := by simp; omega
              have hev1' : ¬ ev = 0 := by omega
              have hdz : IntKind.i64.wrap (z.tdiv ev) = z / ev := IntWalk.i64_quo _ _ ⟨by omega, by omega, by omega⟩
              have hdx : IntKind.i64.wrap (x.tdiv ev) = x / ev := IntWalk.i64_quo _ _ ⟨by omega, by omega, by omega⟩
              have hsb : IntKind.i64.wrap (z / ev - x / ev) = z / ev - x / ev := IntWalk.i64_in _ (by omega)
              have hne : ((all.length : Int) != z / ev - x / ev) = false := by rw [Hlen.out]; simp
              go_region_held3 (fun w' => w'.cell? ⟨w.heap.size, 0, none⟩ = some (.int .i64 ev) ∧ w'.cell? ⟨w.heap.size, 1, none⟩ = some (.int .i64 e.kind) ∧ w'.cell? ⟨w.heap.size, 2, none⟩ = some (.int .i64 e.fn) ∧ w'.cell? ⟨w.heap.size, 3, none⟩ = some (.int .i64 e.op) ∧ w'.cell? ⟨w.heap.size, 4, none⟩ = some (.int .i64 e.num) ∧ w'.cell? ⟨w.heap.size, 5, none⟩ = some (.string e.metric) ∧ w'.cell? ⟨w.heap.size, 6, none⟩ = some (.slice pm e.mats.length cm) ∧ w'.cell? ⟨w.heap.size, 7, none⟩ = some (.int .i64 e.span) ∧ w'.cell? ⟨w.heap.size, 8, none⟩ = some (.slice pn e.names.length cn) ∧ w'.cell? ⟨w.heap.size, 9, none⟩ = some (.slice pk e.kids.length ck))
                ((first | exact (HQ5.out.mono (by assumption) HQ5.out.lt).ten | exact (HQ5.out.mono (Below.drew (by assumption)) HQ5.out.lt).ten))
                ((first
                  | (go_at_call 19; refine (CB5.out _ _ _ HX.out (by first | assumption | exact Below.drew (by assumption))).mono ?_; rintro e' _ ⟨v1, rfl, ho1, ho2, hA1, hA2⟩; rw [Hall.out] at ho1)
                  | (go_at_call 18; refine (timesYes2 _ _ _ _ _ (Nat.le_refl _) ho2 ho1).mono ?_; rintro e' _ ⟨rfl, hb⟩; have hA3 := hA1.trans (hb.mono hA1.size); clear hb)))
              all_goals go_wp2
              all_goals go_meet
              all_goals exact ⟨rfl, hA3⟩
            case rest =>
              obtain ⟨rfl, hb6⟩ := hcut
              obtain ⟨W6, rfl⟩ : ∃ W6 : World, W6 = wc := ⟨_, rfl⟩
              have HB6 := Lib.hid hb6; clear hb6
              have HP := Lib.hid (fun X (h : Below W5.heap.size W5 X) => (HW0.out.trans ((HB5.out.trans (h.mono hs5)).mono HW0.out.size)))
              have HTS := Lib.hid (fun X (h : Below W5.heap.size W5 X) => (HTt.out.mono ((HP.out X h).mono hn) (Nat.le_refl _)).srcP HTn.out)
              go_upto_region 9 with fail
              go_loopw [16] (fun s16 wr => ∃ k : Nat, k ≤ all.length ∧ s16 = .int .i64 k ∧ Below W5.heap.size W5 wr) (fun s16 _ => all.length - (intOf s16).toNat)
              case atStart => exact ⟨0, Nat.zero_le _, rfl, HB6.out⟩
              case round =>
                obtain ⟨k, hk, rfl, hb⟩ := hrel
                have HC := Lib.hid hb; clear hb
                have hsr := HC.out.size
                by_cases hlk : k < all.length
                · have hbt := Hat.out all[k] (List.getElem_mem hlk)
                  obtain ⟨b, off, rfl, hbn, hcell⟩ := (HI15.out.mono HC.out (Nat.le_refl _)).get hlk
                  obtain ⟨t, ht⟩ : ∃ t, all[k] = t := ⟨_, rfl⟩
                  rw [ht] at hbt hcell
                  clear ht
                  obtain ⟨b1, b2, b3, b4, b5, b6, b7, b8⟩ := hbt
                  have HQr := Lib.hid (HQ5.out.mono HC.out HQ5.out.lt)
                  have HS := Lib.hid (fun X (h : Below wr.heap.size wr X) => show X.cell? ⟨b, off + k, none⟩ = some (.int .i64 t) ∧ X.cell? ⟨w.heap.size, 0, none⟩ = some (.int .i64 ev) ∧ X.cell? ⟨w.heap.size, 1, none⟩ = some (.int .i64 e.kind) ∧ X.cell? ⟨w.heap.size, 2, none⟩ = some (.int .i64 e.fn) ∧ X.cell? ⟨w.heap.size, 3, none⟩ = some (.int .i64 e.op) ∧ X.cell? ⟨w.heap.size, 4, none⟩ = some (.int .i64 e.num) ∧ X.cell? ⟨w.heap.size, 5, none⟩ = some (.string e.metric) ∧ X.cell? ⟨w.heap.size, 6, none⟩ = some (.slice pm e.mats.length cm) ∧ X.cell? ⟨w.heap.size, 7, none⟩ = some (.int .i64 e.span) ∧ X.cell? ⟨w.heap.size, 8, none⟩ = some (.slice pn e.names.length cn) ∧ X.cell? ⟨w.heap.size, 9, none⟩ = some (.slice pk e.kids.length ck) from ⟨(h.cell (p := ⟨b, off + k, none⟩) (Nat.lt_of_lt_of_le hbn hsr)).trans hcell, (HQr.out.mono h HQr.out.lt).ten⟩)
                  have Hi1 : Hid (i64 (t - 1)) := show i64 (t - 1) by unfold i64; omega
                  have Hi2 : Hid (i64 t) := show i64 t by unfold i64; omega
                  have hn7 : nextV ev (t - 1) = .tuple #[.int .i64 t, .bool true] := by unfold nextV; rw [b7]
                  have CN := Lib.hid (fun X (h : Below wr.heap.size wr X) => show Calls Try.prog _ _ X (fun e' w' => e' = .returned (.tuple #[.int .i64 t, .bool true]) ∧ Below wr.heap.size wr w') from (gNext ev (t - 1) e _ X Hqc.out Hi1.out).mono (fun e' w' ⟨h1, h2⟩ => ⟨by rw [h1, hn7], h.trans (h2.mono h.size)⟩))
                  have CL1 := Lib.hid (fun X (h : Below wr.heap.size wr X) => show Calls Try.prog _ _ X (fun e' w' => e' = .returned (.int .i64 t) ∧ Below wr.heap.size wr w') from (gLast ev t e _ X Hqc.out Hi2.out).mono (fun e' w' ⟨h1, h2⟩ => ⟨by rw [h1, b5], h.trans (h2.mono h.size)⟩))
                  have CL2 := Lib.hid (fun X (h : Below wr.heap.size wr X) => show Calls Try.prog _ _ X (fun e' w' => e' = .returned (.int .i64 (t - ev)) ∧ Below wr.heap.size wr w') from (gLast ev (t - 1) e _ X Hqc.out Hi1.out).mono (fun e' w' ⟨h1, h2⟩ => ⟨by rw [h1, b6], h.trans (h2.mono h.size)⟩))
                  have CF := Lib.hid (fun X (h : Below wr.heap.size wr X) => show Calls Try.prog _ _ X (fun e' w' => e' = .returned (.int .i64 (t / ev)) ∧ Below wr.heap.size wr w') from (gFirst ev (t - 1) e _ X Hqc.out Hi1.out).mono (fun e' w' ⟨h1, h2⟩ => ⟨by rw [h1, b8], h.trans (h2.mono h.size)⟩))
                  have hev0 : (ev == 0) = false := by simp; omega
                  have hev1' : ¬ ev = 0 := by omega
                  have ht1 : IntKind.i64.wrap (t - 1) = t - 1 := IntWalk.i64_in _ (by omega)
                  have ht2 : IntKind.i64.wrap (t - ev) = t - ev := IntWalk.i64_in _ (by omega)
                  have htd : IntKind.i64.wrap (t.tdiv ev) = t / ev := IntWalk.i64_quo _ _ ⟨by omega, by omega, by omega⟩
                  have htm : t.tmod ev = 0 := by rw [Int.tmod_eq_emod_of_nonneg (by omega)]; exact b4
                  clear hn7 b4 b5 b6 b7 b8
                  have hX := Below.refl wr.heap.size wr
                  go_upto_region 11 with fail
                  go_region_held3 (fun w' => w'.cell? ⟨b, off + k, none⟩ = some (.int .i64 t) ∧ w'.cell? ⟨w.heap.size, 0, none⟩ = some (.int .i64 ev) ∧ w'.cell? ⟨w.heap.size, 1, none⟩ = some (.int .i64 e.kind) ∧ w'.cell? ⟨w.heap.size, 2, none⟩ = some (.int .i64 e.fn) ∧ w'.cell? ⟨w.heap.size, 3, none⟩ = some (.int .i64 e.op) ∧ w'.cell? ⟨w.heap.size, 4, none⟩ = some (.int .i64 e.num) ∧ w'.cell? ⟨w.heap.size, 5, none⟩ = some (.string e.metric) ∧ w'.cell? ⟨w.heap.size, 6, none⟩ = some (.slice pm e.mats.length cm) ∧ w'.cell? ⟨w.heap.size, 7, none⟩ = some (.int .i64 e.span) ∧ w'.cell? ⟨w.heap.size, 8, none⟩ = some (.slice pn e.names.length cn) ∧ w'.cell? ⟨w.heap.size, 9, none⟩ = some (.slice pk e.kids.length ck))
                    ((first | exact HS.out _ (by assumption) | exact HS.out _ (Below.drew (by assumption))))
                    ((go_at_call 15; refine (CN.out _ (by first | assumption | exact Below.drew (by assumption))).mono ?_; rintro e' _ ⟨rfl, hA1⟩))
                  all_goals go_upto_region 12 with fail
                  all_goals go_region_held3 (fun w' => w'.cell? ⟨b, off + k, none⟩ = some (.int .i64 t) ∧ w'.cell? ⟨w.heap.size, 0, none⟩ = some (.int .i64 ev) ∧ w'.cell? ⟨w.heap.size, 1, none⟩ = some (.int .i64 e.kind) ∧ w'.cell? ⟨w.heap.size, 2, none⟩ = some (.int .i64 e.fn) ∧ w'.cell? ⟨w.heap.size, 3, none⟩ = some (.int .i64 e.op) ∧ w'.cell? ⟨w.heap.size, 4, none⟩ = some (.int .i64 e.num) ∧ w'.cell? ⟨w.heap.size, 5, none⟩ = some (.string e.metric) ∧ w'.cell? ⟨w.heap.size, 6, none⟩ = some (.slice pm e.mats.length cm) ∧ w'.cell? ⟨w.heap.size, 7, none⟩ = some (.int .i64 e.span) ∧ w'.cell? ⟨w.heap.size, 8, none⟩ = some (.slice pn e.names.length cn) ∧ w'.cell? ⟨w.heap.size, 9, none⟩ = some (.slice pk e.kids.length ck))
                    ((first | exact HS.out _ (by assumption) | exact HS.out _ (Below.drew (by assumption))))
                    ((first
                      | (go_at_call 23; ((with_reducible refine (CL1.out _ (by first | assumption | exact Below.drew (by assumption))).mono ?_); rintro e' _ ⟨rfl, hA2⟩))
                      | (go_at_call 23; ((with_reducible refine (CL2.out _ (by first | assumption | exact Below.drew (by assumption))).mono ?_); rintro e' _ ⟨rfl, hA3⟩))
                      | (go_at_call 20; refine (CF.out _ (by first | assumption | exact Below.drew (by assumption))).mono ?_; rintro e' _ ⟨rfl, hA4⟩)))
                  all_goals go_wp2
                  all_goals exact ⟨⟨k + 1, by omega, by go_num, HC.out.trans (hA4.mono hsr)⟩, by simp [intOf]; omega⟩
                · have hk' : k = all.length := by omega
                  subst hk'
                  go_upto_region 16 with fail
                  go_loopw [19, 20] (fun s19 s20 wr2 => ∃ (k : Nat) (i : Int), k ≤ ts.length ∧ i + 1 = k ∧ s20 = .int .i64 i ∧ OwnI 2 W5.heap.size wr2 s19 (ts.drop k).reverse ∧ Below W5.heap.size W5 wr2) (fun _ s20 _ => (intOf s20 + 1).toNat)
                  case atStart => exact ⟨ts.length, (ts.length : Int) - 1, Nat.le_refl _, by omega, rfl, by rw [List.drop_length]; exact World.ownsRow_nil _ _ _ _, HC.out⟩
                  case round =>
                    obtain ⟨k2, i, hk2, hik, rfl, hown, hb⟩ := hrel
                    obtain ⟨wr2, rfl⟩ : ∃ wr2 : World, wr2 = wr := ⟨_, rfl⟩
                    have Hown := Lib.hid hown; clear hown
                    have HD := Lib.hid hb; clear hb
                    have hsr2 := HD.out.size
                    cases k2 with
                    | succ j =>
                      obtain rfl : i = (j : Int) := by omega
                      have hlj : j < ts.length := by omega
                      obtain ⟨b, off, rfl, hbn, hcell⟩ := (HTt.out.mono ((HP.out _ HD.out).mono hn) (Nat.le_refl _)).get hlj
                      have Hst := Lib.hid (rev_step hlj)
                      have hrl : ((ts.drop (j + 1)).reverse).length ≤ ts.length := by simp
                      clear hik
                      go_wp2_with (at_builtin; refine wpList_append_src _ rfl _ _ _ rfl W5.heap.size 2 i0 _ 1 8 Try.underlying46 hi hz0 hz1 hz2 rfl (by decide) _ _ ((ts.drop (j + 1)).reverse.map fun i => .int .i64 i) rfl (ownsRow_keep Hown.out ((Below.refl _ _).alloc (Nat.le_refl _) _)) _ 1 [.int .i64 ts[j]] rfl (.inr ⟨_, 1, rfl, rfl, one_new wr2 _ _⟩) (by intro u hu; simp at hu; subst hu; rfl) (by unfold maxLen; omega) (by omega) (by simp; omega) ?_; intro v3 w3 hown3 hgr3 hat3)
                      refine ⟨⟨j, (j : Int) - 1, by omega, by omega, rfl, ?_, below_app (HD.out.alloc hsr2 _) (ownsRow_keep Hown.out ((Below.refl _ _).alloc (Nat.le_refl _) _)) hgr3 (Nat.le_refl _) (by simp; omega)⟩, by simp [intOf]⟩
                      rw [Hst.out]
                      unfold OwnI
                      rw [List.length_append, List.map_append]
                      exact hown3
                    | zero =>
                      obtain rfl : i = -1 := by omega
                      clear hik hk2
                      rw [List.drop_zero] at Hown
                      have hrl : ts.reverse.length = ts.length := List.length_reverse
                      have Hrl := Lib.hid hrl; clear hrl
                      have HE2 := Lib.hid (Below.refl wr2.heap.size wr2)
                      have hse := HE2.out.size
                      obtain ⟨mA, hmA⟩ : ∃ x, markT late ts = x := ⟨_, rfl⟩
                      obtain ⟨mE, hmE⟩ : ∃ x, markE late ts = x := ⟨_, rfl⟩
                      obtain ⟨mC, hmC⟩ : ∃ x, markT late (ts.reverse ++ [7]) = x := ⟨_, rfl⟩
                      obtain ⟨mG, hmG⟩ : ∃ x, markE late (ts.reverse ++ [7]) = x := ⟨_, rfl⟩
                      obtain ⟨mD, hmD⟩ : ∃ x, markT (late / 2) ts = x := ⟨_, rfl⟩
                      obtain ⟨mH, hmH⟩ : ∃ x, markE (late / 2) ts = x := ⟨_, rfl⟩
                      have HM1 : Hid (mE = 0 ∨ mE = 2) := by show _ ∨ _; rw [← hmE]; exact markE_01 _ _
                      have HM2 : Hid (mE = 0 → mG = 0 ∧ mH = 0 ∧ mA ≤ mC ∧ mA ≤ mD) := by
                        show _ → _
                        rw [← hmE, ← hmG, ← hmH, ← hmA, ← hmC, ← hmD]
                        exact fun h => ⟨(mark_more h).1, (mark_half h).1, (mark_more h).2, (mark_half h).2⟩
                      have HR1 := Lib.hid hmA; have HR2 := Lib.hid hmE; have HR3 := Lib.hid hmC; have HR4 := Lib.hid hmG; have HR5 := Lib.hid hmD; have HR6 := Lib.hid hmH
                      clear hmA hmE hmC hmG hmD hmH
                      have HLA2 : Hid (i64 (late / 2)) := show i64 (late / 2) by unfold i64; omega
                      go_upto_region 20 with (first
                        | (at_builtin; refine wpList_clone _ rfl _ _ _ rfl 2 i0 _ 1 8 Try.underlying46 hi hz0 hz1 hz2 rfl (by decide) rfl (.slice pt ts.length ct) ts.length (ts.map fun i => .int .i64 i) rfl (HTS.out _ HD.out) (ints_one _) (by unfold maxLen; omega) (by omega) ?_; intro v5 w5 hown5 hb; have HO5 := Lib.hid hown5; clear hown5; have HE2 := Lib.hid (HE2.out.trans (hb.mono HE2.out.size)); clear hb; have hse := HE2.out.size)
                        | (go_at_call 17; refine (gMark late ts _ _ _ HLA.out (OwnI.ints (t := 2) HO5.out (Nat.le_refl _))).mono ?_; rintro e' w' ⟨rfl, rfl⟩; rw [HR1.out, HR2.out]))
                      go_upto_region 21 with (go_at_call 17; refine (gMark late ts.reverse _ wr2.heap.size _ HLA.out ((Hown.out.ints (Nat.le_refl _)).mono HE2.out (Nat.le_refl _))).mono ?_; rintro e' w' ⟨rfl, rfl⟩; rw [markT_rev, markE_rev, HR1.out, HR2.out])
                      go_upto_region 22 with (first
                        | (at_builtin; refine wpList_append_src _ rfl _ _ _ rfl W5.heap.size 2 i0 _ 1 8 Try.underlying46 hi hz0 hz1 hz2 rfl (by decide) _ _ (ts.reverse.map fun i => .int .i64 i) rfl (ownsRow_keep Hown.out (HE2.out.alloc hse _)) _ 1 [.int .i64 7] rfl (.inr ⟨_, 1, rfl, rfl, one_new w5 _ _⟩) (by intro u hu; simp at hu; subst hu; rfl) (by have := Hrl.out; unfold maxLen; omega) (by have := Hrl.out; omega) (by simp; omega) ?_; intro v7 w7 hown7 hgr7 hat7; have HF := Lib.hid (below_app ((HD.out.trans (HE2.out.mono hsr2)).alloc (by omega) _) (ownsRow_keep Hown.out (HE2.out.alloc hse _)) hgr7 (Nat.le_refl _) (by simp; omega)); have HO7 := Lib.hid (own_two (a := ts.reverse) (b := [7]) hown7); clear hown7 hgr7 hat7; have hsf := HF.out.size)
                        | (go_at_call 17; refine (gMark late (ts.reverse ++ [7]) _ _ _ HLA.out HO7.out).mono ?_; rintro e' w' ⟨rfl, rfl⟩; rw [HR3.out, HR4.out]))
                      go_upto_region 23 with (first
                        | (at_builtin; refine wpList_clone _ rfl _ _ _ rfl 2 i0 _ 1 8 Try.underlying46 hi hz0 hz1 hz2 rfl (by decide) rfl (.slice pt ts.length ct) ts.length (ts.map fun i => .int .i64 i) rfl (HTS.out _ HF.out) (ints_one _) (by unfold maxLen; omega) (by omega) ?_; intro v9 w9 hown9 hb; have HO9 := Lib.hid hown9; clear hown9; have HF := Lib.hid (HF.out.trans (hb.mono hsf)); clear hb; have hsf := HF.out.size)
                        | (go_at_call 17; refine (gMark (late / 2) ts _ _ _ HLA2.out (OwnI.ints (t := 2) HO9.out (Nat.le_refl _))).mono ?_; rintro e' w' ⟨rfl, rfl⟩; rw [HR5.out, HR6.out]))
                      go_cut [272] from 272 to 272 (fun s272 wx => s272 = .bool false ∧ Below W5.heap.size W5 wx)
                      case first =>
                        rcases HM1.out with h0 | h0
                        · obtain ⟨g1, g2, g3, g4⟩ := HM2.out h0
                          subst h0 g1 g2
                          have g5 : ¬ mC < mA := by omega
                          have g6 : ¬ mD < mA := by omega
                          go_wp2
                          all_goals go_meet
                          all_goals exact ⟨rfl, HF.out⟩
                        · subst h0
                          go_wp2
                          all_goals go_meet
                          all_goals exact ⟨rfl, HF.out⟩
                      case rest =>
                        obtain ⟨rfl, hb9⟩ := hcut
                        obtain ⟨W9, rfl⟩ : ∃ W9 : World, W9 = wc := ⟨_, rfl⟩
                        have HF := Lib.hid hb9; clear hb9
                        have HLX := Lib.hid (fun X (h : Below W5.heap.size W5 X) => HLl.out.mono ((HP.out X h).mono hn) (Nat.le_refl n))
                        obtain ⟨i1, gi, gv0, gv1, gv2⟩ := info_parts infoQ
                        go_upto_region 27 with fail
                        go_loopw [29, 30] (fun s29 s30 wr => ∃ k3 : Nat, k3 ≤ l.length ∧ s30 = .int .i64 k3 ∧ s29 = .int .i64 (keepTo y (l.take k3)) ∧ (∀ q ∈ l.take k3, light q.2 100 = true) ∧ Below W5.heap.size W5 wr) (fun _ s30 _ => l.length - (intOf s30).toNat)
                        case atStart => exact ⟨0, Nat.zero_le _, rfl, by rw [List.take_zero, keepTo_nil], by simp, HF.out⟩
                        case round =>
                          obtain ⟨k3, hk3, rfl, rfl, hr, hb⟩ := hrel
                          obtain ⟨X3, rfl⟩ : ∃ X3 : World, X3 = wr := ⟨_, rfl⟩
                          have Hr := Lib.hid hr; clear hr
                          have HG3 := Lib.hid hb; clear hb
                          have hs3 := HG3.out.size
                          have hnX : n ≤ X3.heap.size := by have := HW0.out.size; omega
                          by_cases hlk3 : k3 < l.length
                          · have Hq := Lib.hid (HLX.out _ HG3.out)
                            have Hks := Lib.hid (keepTo_snoc y (l.take k3) l[k3])
                            rw [← List.take_succ_eq_append_getElem hlk3] at Hks
                            have Hsn : Hid (light l[k3].2 100 = true → ∀ q ∈ l.take (k3 + 1), light q.2 100 = true) := fun h q hq => by
                              rw [List.take_succ_eq_append_getElem hlk3] at hq
                              rcases List.mem_append.1 hq with h' | h'
                              · exact Hr.out q h'
                              · simp at h'; subst h'; exact h
                            obtain ⟨L, hL⟩ : ∃ L, keepTo y (l.take k3) = L := ⟨_, rfl⟩
                            obtain ⟨M, hM⟩ : ∃ M, keepTo y [l[k3]] = M := ⟨_, rfl⟩
                            rw [hL, hM] at Hks
                            rw [hL]
                            have HMd := Lib.hid hM; clear hM hL
                            obtain ⟨b, off, pm', cm', pn', cn', pk', ck', rfl, hbn, hei, e0, e1, e2, e3, e4, e5, e6, e7, e8, e9⟩ := Hq.out.get hlk3
                            have Hei := Lib.hid hei; clear hei
                            clear e0
                            have c1 : (k3 : Int) + 1 ≤ (cl : Int) := by omega
                            have c2 : (k3 : Int) ≤ (cl : Int) := by omega
                            cases hlx : light l[k3].2 100 with
                            | false =>
                              go_wp2_with (go_at_call 8; refine (kLight l[k3].2 _ 100 n _ (by omega) (by decide) (by decide) Hei.out).mono ?_; rintro e' w3 ⟨rfl, hb⟩; rw [hlx]; have HB3 := Lib.hid (HG3.out.trans (hb.mono hs3)); clear hb)
                              go_ret
                              exact ⟨rfl, HP.out _ HB3.out⟩
                            | true =>
                              rw [hlx] at Hsn
                              go_wp2_with (first
                                | (go_at_call 8; refine (kLight l[k3].2 _ 100 n _ (by omega) (by decide) (by decide) Hei.out).mono ?_; rintro e' w3 ⟨rfl, hb⟩; rw [hlx]; have HB3 := Lib.hid (HG3.out.trans (hb.mono hs3)); clear hb; have hs4 := HB3.out.size)
                                | (go_at_call 14; refine (gKeepM [l[k3]] y y _ n _ (by omega) (IsQs.sub (HLX.out _ HB3.out) hlk3 (by omega) (by unfold maxLen; omega)) (by intro q hq; simp at hq; subst hq; have := light_size hlx (by decide); omega) (by simp) HY.out (by omega)).mono ?_; rintro e' w4 ⟨rfl, hb⟩; rw [HMd.out]; have HB4 := Lib.hid (HB3.out.trans (hb.mono hs4)); clear hb))
                              exact ⟨⟨k3 + 1, by omega, by go_num, by rw [Hks.out]; exact congrArg (Value.int .i64) (by split <;> omega), Hsn.out (by first | rfl | trivial), HB4.out⟩, by simp [intOf]; omega⟩
                          · have hk' : k3 = l.length := by omega
                            subst hk'
                            rw [List.take_length] at Hr ⊢
                            have HQs : Hid (∀ q ∈ l, q.2.size ≤ 1000000) := fun q hq => by have := light_size (Hr.out q hq) (by decide); omega
                            clear Hr
                            obtain ⟨rows, hrw, hsrc⟩ := (HLX.out _ HG3.out).rows HLn.out
                            have Hrw := Lib.hid hrw; clear hrw
                            have Hsrc := Lib.hid hsrc; clear hsrc
                            obtain ⟨L, hL⟩ : ∃ L, keepTo y l = L := ⟨_, rfl⟩
                            rw [hL]
                            have HL := Lib.hid hL; clear hL
                            go_wp2_with (first
                              | (at_builtin; refine wpList_clone _ rfl _ _ _ rfl 28 i1 _ 10 136 Try.underlying29 gi gv0 gv1 gv2 rfl (by decide) rfl (.slice pl l.length cl) l.length rows.flatten rfl Hsrc.out Hrw.out.one (by unfold maxLen; omega) (by omega) ?_; intro v8 w8 hown8 hb; have hQ8 := (Hrw.out.mono (hb.mono hnX) (Nat.le_refl _)).qs hown8 (Nat.le_refl _) (by have := hb.size; omega); have HQ8 := Lib.hid hQ8; clear hown8 hQ8; have HB8 := Lib.hid (HG3.out.trans (hb.mono hs3)); clear hb; have hs8 := HB8.out.size)
                              | (go_at_call 14; refine (gKeepM l y y _ _ _ (Nat.le_refl _) HQ8.out HQs.out (by omega) HY.out (by omega)).mono ?_; rintro e' w4 ⟨rfl, hb⟩; rw [HL.out]; have HB4 := Lib.hid (HB8.out.trans (hb.mono hs8)); clear hb))
                            all_goals go_ret
                            all_goals exact ⟨rfl, HP.out _ HB4.out⟩

end Go.Proofs.Ytdmojmadklckbaa
