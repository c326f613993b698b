/- AstCalls: the walk. -/
import Derived.Test.YtikaiiamoaahdaaKeep
import Derived.Test.YtikaiiamoaahdaaLives
import Derived.Test.YtikaiiamoaahdaaKit3
import Derived.Test.YtikaiiamoaahdaaAst6
import Derived.Test.YtikaiiamoaahdaaSame3
import Derived.Test.YtikaiiamoaahdaaCopy1
import Derived.Deep.RegionHeld3
import Derived.Deep.DrawnRows
namespace Go.Proofs.Ytikaiiamoaahdaa
open Go.RowKit
set_option linter.unusedSimpArgs false
set_option linter.unusedVariables false
attribute [local go_sem ↓] Go.wp_at_zero Go.wp_at_succ

theorem Own.low {n base base' : Nat} {w : World} {v : Value} {l : List Ex} (h : Own n base w v l) (hb : base' ≤ base) : Own n base' w v l := by
  obtain ⟨rows, h1, h2⟩ := h
  exact ⟨rows, ownsRow_base h1 hb, h2⟩
theorem Own.slice' {n base : Nat} {w : World} {v : Value} {l : List Ex} (h : Own n base w v l) : ∃ A c, v = .slice A l.length c := by
  obtain ⟨rows, h1, _⟩ := h
  exact ownsRow_slice h1

set_option maxRecDepth 100000 in
set_option maxHeartbeats 8000000 in
theorem wCalls (a b : Ex) (cs ds : List Value) (n : Nat) (w : World) (hn : n ≤ w.heap.size) (ha : IsEx n w a cs) (hb : IsEx n w b ds) (every : Int) (hev : -9223372036854775808 ≤ every ∧ every ≤ 9223372036854775807) (kind : Int) (hki : -9223372036854775808 ≤ kind ∧ kind ≤ 9223372036854775807) :
    Calls Try.prog 6 #[.agg cs.toArray, .agg ds.toArray, .int .i64 every, .int .i64 kind] w fun e' w' => e' = .returned (.bool true) ∧ Below w.heap.size w w' := by
  obtain ⟨pm, pm', pn, pn', pk, pk', rfl, -⟩ := ha.cellsE
  obtain ⟨qm, qm', qn, qn', qk, qk', rfl, -⟩ := hb.cellsE
  have Ha := Lib.hid ha; clear ha
  have Hb := Lib.hid hb; clear hb
  clear hev hki
  go_enter Try.func6, Try.ntmps6; (try simp only [List.append_eq, List.cons_append, List.nil_append])
  go_upto_region 0 with fail
  go_cut [4, 5, 8] (fun s4 s5 s8 wx => s4 = .pointer (some ⟨w.heap.size, 0, none⟩) ∧ s5 = .pointer (some ⟨w.heap.size + 1, 0, none⟩) ∧ Below w.heap.size w wx ∧ Blk wx w.heap.size 26 [.int .i64 a.kind, .int .i64 a.fn, .int .i64 a.op, .int .i64 a.num, .string a.metric, .slice pm a.mats.length pm', .int .i64 a.span, .slice pn a.names.length pn', .slice pk a.kids.length pk'] ∧ Blk wx (w.heap.size + 1) 26 [.int .i64 b.kind, .int .i64 b.fn, .int .i64 b.op, .int .i64 b.num, .string b.metric, .slice qm b.mats.length qm', .int .i64 b.span, .slice qn b.names.length qn', .slice qk b.kids.length qk'])
  case first =>
    go_wp2
    go_meet
    refine ⟨rfl, rfl, ((Below.refl _ _).alloc (Nat.le_refl _) _).alloc (by simp) _, (Blk.new _ _ _).keep ((Below.refl _ _).alloc (Nat.le_refl _) _), ?_⟩
    have := Blk.new (w.alloc (.cells ([.int .i64 a.kind, .int .i64 a.fn, .int .i64 a.op, .int .i64 a.num, .string a.metric, .slice pm a.mats.length pm', .int .i64 a.span, .slice pn a.names.length pn', .slice pk a.kids.length pk']).toArray 26)) [.int .i64 b.kind, .int .i64 b.fn, .int .i64 b.op, .int .i64 b.num, .string b.metric, .slice qm b.mats.length qm', .int .i64 b.span, .slice qn b.names.length qn', .slice qk b.kids.length qk'] 26
    simpa using this
  case rest =>
    obtain ⟨rfl, rfl, hbw, hxa, hxb⟩ := hcut
    obtain ⟨W, rfl⟩ : ∃ W : World, W = wc := ⟨_, rfl⟩
    have hlt := hxb.lt
    have hsw := hbw.size
    have Hxa := Lib.hid hxa; clear hxa
    have Hxb := Lib.hid hxb; clear hxb
    have Hbw := Lib.hid hbw; clear hbw
    go_wp2_with fail
    refine (wLives _).mono ?_
    rintro e' W1 ⟨rfl, hb1⟩
    have hs1 := hb1.size
    have hx1 := Hxa.out.keep hb1
    have Hb1 := Lib.hid hb1; clear hb1
    have c0 := hx1.cell 0 _ rfl
    have c1 := hx1.cell 1 _ rfl
    have c2 := hx1.cell 2 _ rfl
    have c3 := hx1.cell 3 _ rfl
    have c4 := hx1.cell 4 _ rfl
    have c5 := hx1.cell 5 _ rfl
    have c6 := hx1.cell 6 _ rfl
    have c7 := hx1.cell 7 _ rfl
    have c8 := hx1.cell 8 _ rfl
    clear hx1
    go_wp2_with fail
    refine (kLight a _ 400 n _ (by omega) (by decide) (by decide) (Ha.out.mono ((Hbw.out.trans (Hb1.out.mono hsw)).mono hn) (Nat.le_refl _))).mono ?_
    rintro e' W2 ⟨rfl, hb2⟩
    have HX2 := Lib.hid (Hb1.out.trans (hb2.mono hs1))
    have hs2 := hb2.size
    clear hb2 c0 c1 c2 c3 c4 c5 c6 c7 c8
    cases hla : light a 400 with
    | false =>
      go_wp2
      go_ret
      exact ⟨rfl, Hbw.out.trans (HX2.out.mono hsw)⟩
    | true =>
      have hsa := light_size hla (by decide)
      have Hta := Lib.hid (light_thin hla)
      clear hla
      have hx2 := Hxb.out.keep HX2.out
      have c0 := hx2.cell 0 _ rfl
      have c1 := hx2.cell 1 _ rfl
      have c2 := hx2.cell 2 _ rfl
      have c3 := hx2.cell 3 _ rfl
      have c4 := hx2.cell 4 _ rfl
      have c5 := hx2.cell 5 _ rfl
      have c6 := hx2.cell 6 _ rfl
      have c7 := hx2.cell 7 _ rfl
      have c8 := hx2.cell 8 _ rfl
      clear hx2
      go_wp2_with fail
      refine (kLight b _ 400 n _ (by omega) (by decide) (by decide) (Hb.out.mono ((Hbw.out.trans (HX2.out.mono hsw)).mono hn) (Nat.le_refl _))).mono ?_
      rintro e' W3 ⟨rfl, hb3⟩
      have HX3 := Lib.hid (HX2.out.trans (hb3.mono (by omega)))
      have hs3 := hb3.size
      clear hb3 c0 c1 c2 c3 c4 c5 c6 c7 c8
      cases hlb : light b 400 with
      | false =>
        go_wp2
        go_ret
        exact ⟨rfl, Hbw.out.trans (HX3.out.mono hsw)⟩
      | true =>
        have hsb := light_size hlb (by decide)
        clear hlb
        have hx3 := Hxa.out.keep HX3.out
        have c0 := hx3.cell 0 _ rfl
        have c1 := hx3.cell 1 _ rfl
        have c2 := hx3.cell 2 _ rfl
        have c3 := hx3.cell 3 _ rfl
        have c4 := hx3.cell 4 _ rfl
        have c5 := hx3.cell 5 _ rfl
        have c6 := hx3.cell 6 _ rfl
        have c7 := hx3.cell 7 _ rfl
        have c8 := hx3.cell 8 _ rfl
        clear hx3
        have HA3 := Lib.hid (fun X (h : Below W3.heap.size W3 X) => Ha.out.mono ((Hbw.out.trans (HX3.out.mono hsw)).mono hn |>.trans (h.mono (by omega))) (Nat.le_refl n))
        have hL1 := Lib.hid (keepCalls (W := W3) (R := fun e' w' => ∃ A c, e' = .returned (.slice A a.leaves.length c) ∧ Own n W3.heap.size w' (.slice A a.leaves.length c) a.leaves) (fun X hX => (aLeaves a _ n X (by have := hX.size; omega) (HA3.out X hX) (by omega)).mono (fun e' w' ⟨v, h1, h2, h3⟩ => by
          obtain ⟨A, c, rfl⟩ := h2.slice'
          exact ⟨⟨A, c, h1, h2.low hX.size⟩, h3⟩)))
        have hL2 := Lib.hid (keepCalls (W := W3) (R := fun e' w' => ∃ A c, e' = .returned (.slice A a.leaves.length c) ∧ Own n W3.heap.size w' (.slice A a.leaves.length c) a.leaves) (fun X hX => (rLeaves a _ n X (by have := hX.size; omega) (HA3.out X hX) (by omega)).mono (fun e' w' ⟨v, h1, h2, h3⟩ => by
          obtain ⟨A, c, rfl⟩ := h2.slice'
          exact ⟨⟨A, c, h1, h2.low hX.size⟩, h3⟩)))
        have hW0 := Below.refl W3.heap.size W3
        have hll := leaves_length a
        go_upto_region 5 with fail
        go_cut [9, 10, 23, 24, 25, 26] (fun s9 s10 s23 s24 s25 s26 wx => ∃ A1 c1 A2 c2, s9 = .slice A1 a.leaves.length c1 ∧ s10 = .slice A2 a.leaves.length c2 ∧ Own n W3.heap.size wx s9 a.leaves ∧ Own n W3.heap.size wx s10 a.leaves ∧ Below W3.heap.size W3 wx)
        case first =>
          go_region_held3 (fun w' => w'.cell? ⟨w.heap.size, 0, none⟩ = some (.int .i64 a.kind) ∧ w'.cell? ⟨w.heap.size, 1, none⟩ = some (.int .i64 a.fn) ∧ w'.cell? ⟨w.heap.size, 2, none⟩ = some (.int .i64 a.op) ∧ w'.cell? ⟨w.heap.size, 3, none⟩ = some (.int .i64 a.num) ∧ w'.cell? ⟨w.heap.size, 4, none⟩ = some (.string a.metric) ∧ w'.cell? ⟨w.heap.size, 5, none⟩ = some (.slice pm a.mats.length pm') ∧ w'.cell? ⟨w.heap.size, 6, none⟩ = some (.int .i64 a.span) ∧ w'.cell? ⟨w.heap.size, 7, none⟩ = some (.slice pn a.names.length pn') ∧ w'.cell? ⟨w.heap.size, 8, none⟩ = some (.slice pk a.kids.length pk')) (go_keep)
            (first
              | ((go_at_call 18; refine (hL1.out _ (by first | assumption | exact (Below.refl _ _).drew)).mono ?_; rintro e' w6 ⟨⟨A1, c1, rfl, ho1⟩, hB6, hb6, hk⟩; have k6 := fun o => hk w.heap.size o (by omega); clear hk))
              | ((go_at_call 24; refine (hL2.out _ (by first | assumption | exact (Below.refl _ _).drew)).mono ?_; rintro e' w7 ⟨⟨A2, c2, rfl, ho2⟩, hB7, hb7, hk⟩; have k7 := fun o => hk w.heap.size o (by omega); clear hk)))
          all_goals go_wp2
          all_goals go_meet
          all_goals exact ⟨A1, c1, A2, c2, rfl, rfl, ho1.keep (by have := hB6.size; omega) hb7, ho2, hB7⟩
        case rest =>
          obtain ⟨A1, c1, A2, c2, rfl, rfl, ho1, ho2, hB4⟩ := hcut
          obtain ⟨W4, rfl⟩ : ∃ W4 : World, W4 = wc := ⟨_, rfl⟩
          clear hW0
          have hs4 := hB4.size
          have hex1 := ho1.exs (m := W4.heap.size) (Nat.le_refl _) (by omega)
          have hex2 := ho2.exs (m := W4.heap.size) (Nat.le_refl _) (by omega)
          have Hex1 := Lib.hid hex1; clear hex1 ho1
          have Hex2 := Lib.hid hex2; clear hex2 ho2
          have HX4 := Lib.hid (HX3.out.trans (hB4.mono (by omega))); clear hB4
          clear c0 c3 c4 c5 c6 c7 c8 hL1 hL2
          go_wp2
          go_loopw [11] (fun i wr => ∃ k2 : Nat, k2 ≤ a.leaves.length ∧ i = .int .i64 k2 ∧ Below W4.heap.size W4 wr) (fun i _ => a.leaves.length - (intOf i).toNat)
          case atStart => exact ⟨0, Nat.zero_le _, rfl, Below.refl _ _⟩
          case round =>
            obtain ⟨k2, hk2', rfl, hbr⟩ := hrel
            have hszr := hbr.size
            have Hbr := Lib.hid hbr; clear hbr
            by_cases hlt2 : k2 < a.leaves.length
            · obtain ⟨b1, off1, pm1, cm1, pn1, cn1, pk1, ck1, hA1, hbn1, hei1, g0, g1, g2, g3, g4, g5, g6, g7, g8⟩ := (Hex1.out.mono Hbr.out (Nat.le_refl _)).getE (Cells.refl _ _) hlt2
              obtain ⟨b2, off2, pm2, cm2, pn2, cn2, pk2, ck2, hA2, hbn2, hei2, i0, i1, i2, i3, i4, i5, i6, i7, i8⟩ := (Hex2.out.mono Hbr.out (Nat.le_refl _)).getE (Cells.refl _ _) hlt2
              subst hA1 hA2
              have hC : ∀ X, (X = wr ∨ X = wr.drew) → Calls Try.prog 14 #[.agg ([.int .i64 a.leaves[k2].kind, .int .i64 a.leaves[k2].fn, .int .i64 a.leaves[k2].op, .int .i64 a.leaves[k2].num, .string a.leaves[k2].metric, .slice pm1 a.leaves[k2].mats.length cm1, .int .i64 a.leaves[k2].span, .slice pn1 a.leaves[k2].names.length cn1, .slice pk1 a.leaves[k2].kids.length ck1]).toArray, .agg ([.int .i64 a.leaves[k2].kind, .int .i64 a.leaves[k2].fn, .int .i64 a.leaves[k2].op, .int .i64 a.leaves[k2].num, .string a.leaves[k2].metric, .slice pm2 a.leaves[k2].mats.length cm2, .int .i64 a.leaves[k2].span, .slice pn2 a.leaves[k2].names.length cn2, .slice pk2 a.leaves[k2].kids.length ck2]).toArray] X fun e' w' => e' = .returned (.bool true) ∧ Below wr.heap.size wr w' ∧ (∀ o, w'.cell? ⟨b1, o, none⟩ = X.cell? ⟨b1, o, none⟩) ∧ (∀ o, w'.cell? ⟨b2, o, none⟩ = X.cell? ⟨b2, o, none⟩) := by
                intro X hX
                have hXb : Below wr.heap.size wr X := by
                  rcases hX with rfl | rfl
                  · exact Below.refl _ _
                  · exact (Below.refl _ _).drew
                have hXs := hXb.size
                refine (kExpr _ _ _ _ W4.heap.size X (by omega) (hei1.mono (hXb.mono hszr) (Nat.le_refl _)) (hei2.mono (hXb.mono hszr) (Nat.le_refl _))).mono ?_
                rintro e' w' ⟨rfl, hb⟩
                exact ⟨ret_bool (by simp), hXb.trans (hb.mono hXs), fun o => hb.cell (p := ⟨_, o, none⟩) (by simp; omega), fun o => hb.cell (p := ⟨_, o, none⟩) (by simp; omega)⟩
              have HC := Lib.hid hC; clear hC hei1 hei2
              have hi1 : (0 : Int) ≤ (k2 : Int) := by omega
              have hi2 : (k2 : Int) < (a.leaves.length : Int) := by omega
              go_upto_region 11 with fail
              go_region_held3 (fun w' => w'.cell? ⟨b1, off1 + k2 * 9, none⟩ = some (.int .i64 a.leaves[k2].kind) ∧ w'.cell? ⟨b1, off1 + k2 * 9 + 1, none⟩ = some (.int .i64 a.leaves[k2].fn) ∧ w'.cell? ⟨b1, off1 + k2 * 9 + 2, none⟩ = some (.int .i64 a.leaves[k2].op) ∧ w'.cell? ⟨b1, off1 + k2 * 9 + 3, none⟩ = some (.int .i64 a.leaves[k2].num) ∧ w'.cell? ⟨b1, off1 + k2 * 9 + 4, none⟩ = some (.string a.leaves[k2].metric) ∧ w'.cell? ⟨b1, off1 + k2 * 9 + 5, none⟩ = some (.slice pm1 a.leaves[k2].mats.length cm1) ∧ w'.cell? ⟨b1, off1 + k2 * 9 + 6, none⟩ = some (.int .i64 a.leaves[k2].span) ∧ w'.cell? ⟨b1, off1 + k2 * 9 + 7, none⟩ = some (.slice pn1 a.leaves[k2].names.length cn1) ∧ w'.cell? ⟨b1, off1 + k2 * 9 + 8, none⟩ = some (.slice pk1 a.leaves[k2].kids.length ck1) ∧ w'.cell? ⟨b2, off2 + k2 * 9, none⟩ = some (.int .i64 a.leaves[k2].kind) ∧ w'.cell? ⟨b2, off2 + k2 * 9 + 1, none⟩ = some (.int .i64 a.leaves[k2].fn) ∧ w'.cell? ⟨b2, off2 + k2 * 9 + 2, none⟩ = some (.int .i64 a.leaves[k2].op) ∧ w'.cell? ⟨b2, off2 + k2 * 9 + 3, none⟩ = some (.int .i64 a.leaves[k2].num) ∧ w'.cell? ⟨b2, off2 + k2 * 9 + 4, none⟩ = some (.string a.leaves[k2].metric) ∧ w'.cell? ⟨b2, off2 + k2 * 9 + 5, none⟩ = some (.slice pm2 a.leaves[k2].mats.length cm2) ∧ w'.cell? ⟨b2, off2 + k2 * 9 + 6, none⟩ = some (.int .i64 a.leaves[k2].span) ∧ w'.cell? ⟨b2, off2 + k2 * 9 + 7, none⟩ = some (.slice pn2 a.leaves[k2].names.length cn2) ∧ w'.cell? ⟨b2, off2 + k2 * 9 + 8, none⟩ = some (.slice pk2 a.leaves[k2].kids.length ck2)) (go_keep)
                ((go_at_call 14; refine (HC.out _ (by first | exact .inl rfl | exact .inr rfl)).mono ?_; rintro e' w6 ⟨rfl, hb6, k6, k7⟩))
              have Hb6 := Lib.hid hb6
              clear k6 k7 hb6
              go_wp2
              exact ⟨⟨k2 + 1, by omega, by go_num, Hbr.out.trans (Hb6.out.mono hszr)⟩, by simp [intOf]; omega⟩
            · have HX5 := Lib.hid (HX4.out.trans (Hbr.out.mono (by omega)))
              have hx5 := Hxa.out.keep HX5.out
              have c0 := hx5.cell 0 _ rfl
              have c1 := hx5.cell 1 _ rfl
              have c2 := hx5.cell 2 _ rfl
              have c3 := hx5.cell 3 _ rfl
              have c4 := hx5.cell 4 _ rfl
              have c5 := hx5.cell 5 _ rfl
              have c6 := hx5.cell 6 _ rfl
              have c7 := hx5.cell 7 _ rfl
              have c8 := hx5.cell 8 _ rfl
              clear hx5 Hbr
              have hs5 := HX5.out.size
              go_upto_region 14 with fail
              obtain ⟨W5, hW5⟩ : ∃ W5, wr.alloc (.cells ([.int .i64 every, .int .i64 a.kind, .int .i64 a.fn, .int .i64 a.op, .int .i64 a.num, .string a.metric, .slice pm a.mats.length pm', .int .i64 a.span, .slice pn a.names.length pn', .slice pk a.kids.length pk']).toArray 42) = W5 := ⟨_, rfl⟩
              have hq5 : Blk W5 wr.heap.size 42 [.int .i64 every, .int .i64 a.kind, .int .i64 a.fn, .int .i64 a.op, .int .i64 a.num, .string a.metric, .slice pm a.mats.length pm', .int .i64 a.span, .slice pn a.names.length pn', .slice pk a.kids.length pk'] := by rw [← hW5]; exact Blk.new _ _ _
              have hb5 : Below wr.heap.size wr W5 := by rw [← hW5]; exact (Below.refl _ _).alloc (Nat.le_refl _) _
              have hz5 : W5.heap.size = wr.heap.size + 1 := by rw [← hW5]; simp
              rw [hW5]
              clear hW5
              have HX6 := Lib.hid (HX5.out.trans (hb5.mono hs5))
              clear hb5 c0 c1 c2 c3 c4 c5 c6 c7 c8
              have hx6 := Hxa.out.keep HX6.out
              have c0 := hx6.cell 0 _ rfl
              have c1 := hx6.cell 1 _ rfl
              have c2 := hx6.cell 2 _ rfl
              have c3 := hx6.cell 3 _ rfl
              have c4 := hx6.cell 4 _ rfl
              have c5 := hx6.cell 5 _ rfl
              have c6 := hx6.cell 6 _ rfl
              have c7 := hx6.cell 7 _ rfl
              have c8 := hx6.cell 8 _ rfl
              have hy6 := Hxb.out.keep HX6.out
              have d0 := hy6.cell 0 _ rfl
              have d1 := hy6.cell 1 _ rfl
              have d2 := hy6.cell 2 _ rfl
              have d3 := hy6.cell 3 _ rfl
              have d4 := hy6.cell 4 _ rfl
              have d5 := hy6.cell 5 _ rfl
              have d6 := hy6.cell 6 _ rfl
              have d7 := hy6.cell 7 _ rfl
              have d8 := hy6.cell 8 _ rfl
              have q0 := hq5.cell 0 _ rfl
              have q1 := hq5.cell 1 _ rfl
              have q2 := hq5.cell 2 _ rfl
              have q3 := hq5.cell 3 _ rfl
              have q4 := hq5.cell 4 _ rfl
              have q5 := hq5.cell 5 _ rfl
              have q6 := hq5.cell 6 _ rfl
              have q7 := hq5.cell 7 _ rfl
              have q8 := hq5.cell 8 _ rfl
              have q9 := hq5.cell 9 _ rfl
              clear hx6 hy6
              have Hz5 := Lib.hid hz5; clear hz5
              have Hq5 := Lib.hid hq5; clear hq5
              have hs6 : w.heap.size + 1 < W5.heap.size := by have := Hz5.out; omega
              have hs7 : wr.heap.size < W5.heap.size := by have := Hz5.out; omega
              have HA6 := Lib.hid (fun X (h : Below W5.heap.size W5 X) => Ha.out.mono ((Hbw.out.trans (HX6.out.mono hsw)).mono hn |>.trans (h.mono (by omega))) (Nat.le_refl n))
              have HB6 := Lib.hid (fun X (h : Below W5.heap.size W5 X) => Hb.out.mono ((Hbw.out.trans (HX6.out.mono hsw)).mono hn |>.trans (h.mono (by omega))) (Nat.le_refl n))
              have hK1 := Lib.hid (keepCalls (W := W5) (R := fun e' w' => e' = .returned (.int .i64 (checkQuery every a))) (fun X hX => aCheck every a _ n X (by have := hX.size; omega) (HA6.out X hX) (by omega)))
              have hK2 := Lib.hid (keepCalls (W := W5) (R := fun e' w' => e' = .returned (.int .i64 (checkQuery every a))) (fun X hX => rCheck every a _ n X (by have := hX.size; omega) (HA6.out X hX) (by omega)))
              have hK3 := Lib.hid (keepCalls (W := W5) (R := fun e' w' => e' = .returned (.int .i64 (checkExpr a))) (fun X hX => aCheckExpr a _ n X (by have := hX.size; omega) (HA6.out X hX) (by omega)))
              have hK4 := Lib.hid (keepCalls (W := W5) (R := fun e' w' => e' = .returned (.int .i64 (checkExpr a))) (fun X hX => rCheckExpr a _ n X (by have := hX.size; omega) (HA6.out X hX) (by omega)))
              have hK5 := Lib.hid (keepCalls (W := W5) (R := fun e' w' => e' = .returned (.int .i64 a.size)) (fun X hX => aSize a _ n X (by have := hX.size; omega) (HA6.out X hX) (by omega)))
              have hK6 := Lib.hid (keepCalls (W := W5) (R := fun e' w' => e' = .returned (.int .i64 a.size)) (fun X hX => rSize a _ n X (by have := hX.size; omega) (HA6.out X hX) (by omega)))
              have hK7 := Lib.hid (keepCalls (W := W5) (R := fun e' w' => e' = .returned (.int .i64 a.deep)) (fun X hX => aDeep a _ n X (by have := hX.size; omega) (HA6.out X hX) (by omega)))
              have hK8 := Lib.hid (keepCalls (W := W5) (R := fun e' w' => e' = .returned (.int .i64 a.deep)) (fun X hX => rDeep a _ n X (by have := hX.size; omega) (HA6.out X hX) (by omega)))
              have hK11 := Lib.hid (keepCalls (W := W5) (R := fun e' w' => e' = .returned (.int .i64 a.hor)) (fun X hX => aHorizon a _ n X (by have := hX.size; omega) (HA6.out X hX) (by omega)))
              have hK12 := Lib.hid (keepCalls (W := W5) (R := fun e' w' => e' = .returned (.int .i64 a.hor)) (fun X hX => rHorizon a _ n X (by have := hX.size; omega) (HA6.out X hX) (by omega)))
              have hK9 := Lib.hid (keepCalls (W := W5) (R := fun e' w' => e' = .returned (.bool (decide (a = b)))) (fun X hX => aSame a b _ _ n X (by have := hX.size; omega) (HA6.out X hX) (HB6.out X hX)))
              have hK10 := Lib.hid (keepCalls (W := W5) (R := fun e' w' => e' = .returned (.bool (decide (a = b)))) (fun X hX => rSame a b _ _ n X (by have := hX.size; omega) (HA6.out X hX) (HB6.out X hX)))
              have hK13 := Lib.hid (keepCalls (W := W5) (R := fun e' w' => e' = .returned (.int .i64 (kidsOf kind))) (fun X hX => aKids kind X))
              have hK14 := Lib.hid (keepCalls (W := W5) (R := fun e' w' => e' = .returned (.int .i64 (kidsOf kind))) (fun X hX => (rKids kind X).mono (fun e' w' ⟨h1, h2⟩ => ⟨h1, by rw [h2]; exact Below.refl _ _⟩)))
              have hK15 := Lib.hid (keepCalls (W := W5) (R := fun e' w' => ∃ cs' : List Value, e' = .returned (.agg cs'.toArray) ∧ IsEx w'.heap.size w' a cs') (fun X hX => (aCopy a _ n X (by have := hX.size; omega) (HA6.out X hX) Hta.out (by omega)).mono (fun e' w' ⟨cs', h1, h2, h3⟩ => ⟨⟨cs', h1, h2.isEx (Nat.le_refl _)⟩, h3⟩)))
              have hW0 := Below.refl W5.heap.size W5
              go_region_held3 (fun w' => w'.cell? ⟨w.heap.size, 0, none⟩ = some (.int .i64 a.kind) ∧ w'.cell? ⟨w.heap.size, 1, none⟩ = some (.int .i64 a.fn) ∧ w'.cell? ⟨w.heap.size, 2, none⟩ = some (.int .i64 a.op) ∧ w'.cell? ⟨w.heap.size, 3, none⟩ = some (.int .i64 a.num) ∧ w'.cell? ⟨w.heap.size, 4, none⟩ = some (.string a.metric) ∧ w'.cell? ⟨w.heap.size, 5, none⟩ = some (.slice pm a.mats.length pm') ∧ w'.cell? ⟨w.heap.size, 6, none⟩ = some (.int .i64 a.span) ∧ w'.cell? ⟨w.heap.size, 7, none⟩ = some (.slice pn a.names.length pn') ∧ w'.cell? ⟨w.heap.size, 8, none⟩ = some (.slice pk a.kids.length pk') ∧ w'.cell? ⟨w.heap.size + 1, 0, none⟩ = some (.int .i64 b.kind) ∧ w'.cell? ⟨w.heap.size + 1, 1, none⟩ = some (.int .i64 b.fn) ∧ w'.cell? ⟨w.heap.size + 1, 2, none⟩ = some (.int .i64 b.op) ∧ w'.cell? ⟨w.heap.size + 1, 3, none⟩ = some (.int .i64 b.num) ∧ w'.cell? ⟨w.heap.size + 1, 4, none⟩ = some (.string b.metric) ∧ w'.cell? ⟨w.heap.size + 1, 5, none⟩ = some (.slice qm b.mats.length qm') ∧ w'.cell? ⟨w.heap.size + 1, 6, none⟩ = some (.int .i64 b.span) ∧ w'.cell? ⟨w.heap.size + 1, 7, none⟩ = some (.slice qn b.names.length qn') ∧ w'.cell? ⟨w.heap.size + 1, 8, none⟩ = some (.slice qk b.kids.length qk') ∧ w'.cell? ⟨wr.heap.size, 0, none⟩ = some (.int .i64 every) ∧ w'.cell? ⟨wr.heap.size, 1, none⟩ = some (.int .i64 a.kind) ∧ w'.cell? ⟨wr.heap.size, 2, none⟩ = some (.int .i64 a.fn) ∧ w'.cell? ⟨wr.heap.size, 3, none⟩ = some (.int .i64 a.op) ∧ w'.cell? ⟨wr.heap.size, 4, none⟩ = some (.int .i64 a.num) ∧ w'.cell? ⟨wr.heap.size, 5, none⟩ = some (.string a.metric) ∧ w'.cell? ⟨wr.heap.size, 6, none⟩ = some (.slice pm a.mats.length pm') ∧ w'.cell? ⟨wr.heap.size, 7, none⟩ = some (.int .i64 a.span) ∧ w'.cell? ⟨wr.heap.size, 8, none⟩ = some (.slice pn a.names.length pn') ∧ w'.cell? ⟨wr.heap.size, 9, none⟩ = some (.slice pk a.kids.length pk')) (go_keep)
                (first
                  | ((go_at_call 25; refine (hK1.out _ (by first | assumption | exact (Below.refl _ _).drew)).mono ?_; rintro e' w1 ⟨rfl, hB1, hb1, hk⟩; have ka1 := fun o => hk w.heap.size o (by omega); have kb1 := fun o => hk (w.heap.size + 1) o (by omega); have kq1 := fun o => hk wr.heap.size o (by omega); clear hk))
                  | ((go_at_call 26; refine (hK2.out _ (by first | assumption | exact (Below.refl _ _).drew)).mono ?_; rintro e' w2 ⟨rfl, hB2, hb2, hk⟩; have ka2 := fun o => hk w.heap.size o (by omega); have kb2 := fun o => hk (w.heap.size + 1) o (by omega); have kq2 := fun o => hk wr.heap.size o (by omega); clear hk))
                  | ((go_at_call 16; refine (hK3.out _ (by first | assumption | exact (Below.refl _ _).drew)).mono ?_; rintro e' w3 ⟨rfl, hB3, hb3, hk⟩; have ka3 := fun o => hk w.heap.size o (by omega); have kb3 := fun o => hk (w.heap.size + 1) o (by omega); have kq3 := fun o => hk wr.heap.size o (by omega); clear hk))
                  | ((go_at_call 27; refine (hK4.out _ (by first | assumption | exact (Below.refl _ _).drew)).mono ?_; rintro e' w4 ⟨rfl, hB4, hb4, hk⟩; have ka4 := fun o => hk w.heap.size o (by omega); have kb4 := fun o => hk (w.heap.size + 1) o (by omega); have kq4 := fun o => hk wr.heap.size o (by omega); clear hk))
                  | ((go_at_call 19; refine (hK5.out _ (by first | assumption | exact (Below.refl _ _).drew)).mono ?_; rintro e' w5 ⟨rfl, hB5, hb5, hk⟩; have ka5 := fun o => hk w.heap.size o (by omega); have kb5 := fun o => hk (w.heap.size + 1) o (by omega); have kq5 := fun o => hk wr.heap.size o (by omega); clear hk))
                  | ((go_at_call 28; refine (hK6.out _ (by first | assumption | exact (Below.refl _ _).drew)).mono ?_; rintro e' w6 ⟨rfl, hB6, hb6, hk⟩; have ka6 := fun o => hk w.heap.size o (by omega); have kb6 := fun o => hk (w.heap.size + 1) o (by omega); have kq6 := fun o => hk wr.heap.size o (by omega); clear hk))
                  | ((go_at_call 20; refine (hK7.out _ (by first | assumption | exact (Below.refl _ _).drew)).mono ?_; rintro e' w7 ⟨rfl, hB7, hb7, hk⟩; have ka7 := fun o => hk w.heap.size o (by omega); have kb7 := fun o => hk (w.heap.size + 1) o (by omega); have kq7 := fun o => hk wr.heap.size o (by omega); clear hk))
                  | ((go_at_call 29; refine (hK8.out _ (by first | assumption | exact (Below.refl _ _).drew)).mono ?_; rintro e' w8 ⟨rfl, hB8, hb8, hk⟩; have ka8 := fun o => hk w.heap.size o (by omega); have kb8 := fun o => hk (w.heap.size + 1) o (by omega); have kq8 := fun o => hk wr.heap.size o (by omega); clear hk))
                  | ((go_at_call 21; refine (hK11.out _ (by first | assumption | exact (Below.refl _ _).drew)).mono ?_; rintro e' w11 ⟨rfl, hB11, hb11, hk⟩; have ka11 := fun o => hk w.heap.size o (by omega); have kb11 := fun o => hk (w.heap.size + 1) o (by omega); have kq11 := fun o => hk wr.heap.size o (by omega); clear hk))
                  | ((go_at_call 31; refine (hK12.out _ (by first | assumption | exact (Below.refl _ _).drew)).mono ?_; rintro e' w12 ⟨rfl, hB12, hb12, hk⟩; have ka12 := fun o => hk w.heap.size o (by omega); have kb12 := fun o => hk (w.heap.size + 1) o (by omega); have kq12 := fun o => hk wr.heap.size o (by omega); clear hk))
                  | ((go_at_call 23; refine (hK9.out _ (by first | assumption | exact (Below.refl _ _).drew)).mono ?_; rintro e' w9 ⟨rfl, hB9, hb9, hk⟩; have ka9 := fun o => hk w.heap.size o (by omega); have kb9 := fun o => hk (w.heap.size + 1) o (by omega); have kq9 := fun o => hk wr.heap.size o (by omega); clear hk))
                  | ((go_at_call 30; refine (hK10.out _ (by first | assumption | exact (Below.refl _ _).drew)).mono ?_; rintro e' w10 ⟨rfl, hB10, hb10, hk⟩; have ka10 := fun o => hk w.heap.size o (by omega); have kb10 := fun o => hk (w.heap.size + 1) o (by omega); have kq10 := fun o => hk wr.heap.size o (by omega); clear hk))
                  | ((go_at_call 17; refine (hK13.out _ (by first | assumption | exact (Below.refl _ _).drew)).mono ?_; rintro e' w13 ⟨rfl, hB13, hb13, hk⟩; have ka13 := fun o => hk w.heap.size o (by omega); have kb13 := fun o => hk (w.heap.size + 1) o (by omega); have kq13 := fun o => hk wr.heap.size o (by omega); clear hk))
                  | ((go_at_call 32; refine (hK14.out _ (by first | assumption | exact (Below.refl _ _).drew)).mono ?_; rintro e' w14 ⟨rfl, hB14, hb14, hk⟩; have ka14 := fun o => hk w.heap.size o (by omega); have kb14 := fun o => hk (w.heap.size + 1) o (by omega); have kq14 := fun o => hk wr.heap.size o (by omega); clear hk))
                  | ((go_at_call 33; refine (hK15.out _ (by first | assumption | exact (Below.refl _ _).drew)).mono ?_; rintro e' w15 ⟨⟨cs', rfl, hcp⟩, hB15, hb15, hk⟩; have ka15 := fun o => hk w.heap.size o (by omega); have kb15 := fun o => hk (w.heap.size + 1) o (by omega); have kq15 := fun o => hk wr.heap.size o (by omega); clear hk))
                  | ((go_at_call 14; refine (kExpr a a _ _ _ _ (Nat.le_refl _) (hcp.mono (by first | exact Below.refl _ _ | exact (Below.refl _ _).drew) (Nat.le_refl _)) ((HA6.out _ (by first | assumption | exact (Below.refl _ _).drew)).mono (Below.refl _ _) (by have := hB15.size; simp; omega))).mono ?_; rintro e' w16 ⟨rfl, hb16⟩; have hs15 := hB15.size; have ka16 := fun o => hb16.cell (p := ⟨w.heap.size, o, none⟩) (by simp; omega); have kb16 := fun o => hb16.cell (p := ⟨w.heap.size + 1, o, none⟩) (by simp; omega); have kq16 := fun o => hb16.cell (p := ⟨wr.heap.size, o, none⟩) (by simp; omega))))
              clear ka16 kb16 kq16
              have hB16 := Lib.hid (Hbw.out.trans ((HX6.out.trans (hB15.mono (by omega))).trans (hb16.mono (by have := hB15.size; simp; omega)) |>.mono hsw))
              clear hb16
              go_wp2
              go_ret
              exact ⟨rfl, hB16.out⟩

end Go.Proofs.Ytikaiiamoaahdaa

