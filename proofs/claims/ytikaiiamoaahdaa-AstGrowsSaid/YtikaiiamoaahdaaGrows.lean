/- AstGrows: the walk. -/
import Derived.Test.YtikaiiamoaahdaaFits
import Derived.Test.YtikaiiamoaahdaaLives
import Derived.Test.YtikaiiamoaahdaaKit3
import Derived.Test.YtikaiiamoaahdaaSame2
import Derived.Deep.RegionHeld3
import Derived.Deep.DrawnRows
import Derived.IntWalk
namespace Go.Proofs.Ytikaiiamoaahdaa
open Go.RowKit
set_option linter.unusedSimpArgs false
set_option linter.unusedVariables false
attribute [local go_sem ↓] Go.wp_at_zero Go.wp_at_succ

theorem wrap_in {x : Int} (h : -9223372036854775808 ≤ x ∧ x ≤ 9223372036854775807) : IntKind.i64.wrap x = x := IntWalk.i64_in _ h

theorem Own.slice2 {n base : Nat} {w : World} {v : Value} {l : List Ex} (h : Own n base w v l) : ∃ A c, v = .slice A l.length c := by
  obtain ⟨rows, h1, _⟩ := h
  exact ownsRow_slice h1

/-- A list of one, of two, in a block of its own. -/
theorem scale_is {n : Nat} {w : World} {gs : Nat} {a : Ex} {r : List Value} {m : Int} (h : Blk w gs 26 r) (ha : IsEx n w a r) (hn : n ≤ w.heap.size) : IsEx w.heap.size w (scaleEx m a) [.int .i64 4, .int .i64 0, .int .i64 3, .int .i64 m, .string ⟨#[]⟩, .slice none 0 0, .int .i64 0, .slice none 0 0, .slice (some ⟨gs, 0, none⟩) 1 1] := by
  refine .mk (rows := [r]) (by decide) ⟨Arr.nil _ _ _, by simp⟩ ⟨Arr.nil _ _ _, by simp⟩ ⟨_, 1, rfl, Nat.le_refl _, by decide, fun _ => ⟨gs, 0, rfl, h.lt, fun k r' hr j x hx => ?_⟩⟩ rfl (fun k r' e hr he => ?_)
  · match k, hr with
    | 0, hr => simp at hr; subst hr; simpa using h.cell j x hx
    | k + 1, hr => simp at hr
  · match k, hr, he with
    | 0, hr, he => simp at hr he; subst hr he; exact ha.mono (Below.refl _ _) hn
    | k + 1, hr, he => simp at hr
theorem join_is {n : Nat} {w : World} {gj : Nat} {a b : Ex} {r s : List Value} (h : Blk w gj 26 (r ++ s)) (ha : IsEx n w a r) (hb : IsEx n w b s) (hn : n ≤ w.heap.size) : IsEx w.heap.size w (joinEx a b) [.int .i64 3, .int .i64 0, .int .i64 2, .int .i64 0, .string ⟨#[]⟩, .slice none 0 0, .int .i64 0, .slice none 0 0, .slice (some ⟨gj, 0, none⟩) 2 2] := by
  have hl := ha.length
  refine .mk (rows := [r, s]) (by decide) ⟨Arr.nil _ _ _, by simp⟩ ⟨Arr.nil _ _ _, by simp⟩ ⟨_, 2, rfl, Nat.le_refl _, by decide, fun _ => ⟨gj, 0, rfl, h.lt, fun k r' hr j x hx => ?_⟩⟩ rfl (fun k r' e hr he => ?_)
  · match k, hr with
    | 0, hr =>
      simp at hr; subst hr
      have hj := (List.getElem?_eq_some_iff.1 hx).1
      have := h.cell j x (by rw [List.getElem?_append_left hj]; exact hx)
      simpa using this
    | 1, hr =>
      simp at hr; subst hr
      have := h.cell (9 + j) x (by rw [List.getElem?_append_right (by omega), hl]; simpa using hx)
      simpa using this
    | k + 2, hr => simp at hr
  · match k, hr, he with
    | 0, hr, he => simp at hr he; subst hr he; exact ha.mono (Below.refl _ _) hn
    | 1, hr, he => simp at hr he; subst hr he; exact hb.mono (Below.refl _ _) hn
    | k + 2, hr, he => simp at hr

set_option maxRecDepth 100000 in
set_option maxHeartbeats 8000000 in
theorem wGrows (a b : Ex) (cs ds : List Value) (n : Nat) (w : World) (hn : n ≤ w.heap.size) (ha : IsEx n w a cs) (hb : IsEx n w b ds) (m : Int) (hm : -9223372036854775808 ≤ m ∧ m ≤ 9223372036854775807) :
    Calls Try.prog 5 #[.agg cs.toArray, .agg ds.toArray, .int .i64 m] w fun e' w' => e' = .returned (.bool true) ∧ Below w.heap.size w w' := by
  obtain ⟨pm, pm', pn, pn', pk, pk', rfl, -⟩ := ha.cellsE
  obtain ⟨qm, qm', qn, qn', qk, qk', rfl, -⟩ := hb.cellsE
  have Ha := Lib.hid ha; clear ha
  have Hb := Lib.hid hb; clear hb
  clear hm
  go_enter Try.func5, Try.ntmps5; (try simp only [List.append_eq, List.cons_append, List.nil_append])
  go_upto_region 0 with fail
  go_cut [3, 4, 6] (fun s4 s5 s8 wx => s4 = .pointer (some ⟨w.heap.size, 0, none⟩) ∧ s5 = .pointer (some ⟨w.heap.size + 1, 0, none⟩) ∧ Below w.heap.size w wx ∧ Blk wx w.heap.size 26 [.int .i64 a.kind, .int .i64 a.fn, .int .i64 a.op, .int .i64 a.num, .string a.metric, .slice pm a.mats.length pm', .int .i64 a.span, .slice pn a.names.length pn', .slice pk a.kids.length pk'] ∧ Blk wx (w.heap.size + 1) 26 [.int .i64 b.kind, .int .i64 b.fn, .int .i64 b.op, .int .i64 b.num, .string b.metric, .slice qm b.mats.length qm', .int .i64 b.span, .slice qn b.names.length qn', .slice qk b.kids.length qk'])
  case first =>
    go_wp2
    go_meet
    refine ⟨rfl, rfl, ((Below.refl _ _).alloc (Nat.le_refl _) _).alloc (by simp) _, (Blk.new _ _ _).keep ((Below.refl _ _).alloc (Nat.le_refl _) _), ?_⟩
    have := Blk.new (w.alloc (.cells ([.int .i64 a.kind, .int .i64 a.fn, .int .i64 a.op, .int .i64 a.num, .string a.metric, .slice pm a.mats.length pm', .int .i64 a.span, .slice pn a.names.length pn', .slice pk a.kids.length pk']).toArray 26)) [.int .i64 b.kind, .int .i64 b.fn, .int .i64 b.op, .int .i64 b.num, .string b.metric, .slice qm b.mats.length qm', .int .i64 b.span, .slice qn b.names.length qn', .slice qk b.kids.length qk'] 26
    simpa using this
  case rest =>
    obtain ⟨rfl, rfl, hbw, hxa, hxb⟩ := hcut
    obtain ⟨W, rfl⟩ : ∃ W : World, W = wc := ⟨_, rfl⟩
    have hlt := hxb.lt
    have hsw := hbw.size
    have Hxa := Lib.hid hxa; clear hxa
    have Hxb := Lib.hid hxb; clear hxb
    have Hbw := Lib.hid hbw; clear hbw
    have HAx := Lib.hid (fun X (h : Below W.heap.size W X) => Ha.out.mono (Hbw.out.mono hn |>.trans (h.mono (by omega))) (Nat.le_refl n))
    have HBx := Lib.hid (fun X (h : Below W.heap.size W X) => Hb.out.mono (Hbw.out.mono hn |>.trans (h.mono (by omega))) (Nat.le_refl n))
    go_wp2_with fail
    refine (wLives _).mono ?_
    rintro e' W1 ⟨rfl, hb1⟩
    have HX1 := Lib.hid hb1
    have hs1 := hb1.size
    have hx1 := Hxa.out.keep hb1
    clear hb1
    have c0 := hx1.cell 0 _ rfl
    have c1 := hx1.cell 1 _ rfl
    have c2 := hx1.cell 2 _ rfl
    have c3 := hx1.cell 3 _ rfl
    have c4 := hx1.cell 4 _ rfl
    have c5 := hx1.cell 5 _ rfl
    have c6 := hx1.cell 6 _ rfl
    have c7 := hx1.cell 7 _ rfl
    have c8 := hx1.cell 8 _ rfl
    clear hx1
    go_wp2_with fail
    refine (kLight a _ 400 n _ (by omega) (by decide) (by decide) (HAx.out _ HX1.out)).mono ?_
    rintro e' W2 ⟨rfl, hb2⟩
    have HX2 := Lib.hid (HX1.out.trans (hb2.mono hs1))
    have hs2 := hb2.size
    clear hb2 c0 c1 c2 c3 c4 c5 c6 c7 c8
    cases hla : light a 400 with
    | false =>
      go_wp2
      go_ret
      exact ⟨rfl, Hbw.out.trans (HX2.out.mono hsw)⟩
    | true =>
      have hsa := light_size hla (by decide)
      clear hla
      have hx2 := Hxb.out.keep HX2.out
      have c0 := hx2.cell 0 _ rfl
      have c1 := hx2.cell 1 _ rfl
      have c2 := hx2.cell 2 _ rfl
      have c3 := hx2.cell 3 _ rfl
      have c4 := hx2.cell 4 _ rfl
      have c5 := hx2.cell 5 _ rfl
      have c6 := hx2.cell 6 _ rfl
      have c7 := hx2.cell 7 _ rfl
      have c8 := hx2.cell 8 _ rfl
      clear hx2
      go_wp2_with fail
      refine (kLight b _ 400 n _ (by omega) (by decide) (by decide) (HBx.out _ HX2.out)).mono ?_
      rintro e' W3 ⟨rfl, hb3⟩
      have HX3 := Lib.hid (HX2.out.trans (hb3.mono (by omega)))
      have hs3 := hb3.size
      clear hb3 c0 c1 c2 c3 c4 c5 c6 c7 c8
      cases hlb : light b 400 with
      | false =>
        go_wp2
        go_ret
        exact ⟨rfl, Hbw.out.trans (HX3.out.mono hsw)⟩
      | true =>
        have hsb := light_size hlb (by decide)
        clear hlb
        have hx3 := Hxa.out.keep HX3.out
        have c0 := hx3.cell 0 _ rfl
        have c1 := hx3.cell 1 _ rfl
        have c2 := hx3.cell 2 _ rfl
        have c3 := hx3.cell 3 _ rfl
        have c4 := hx3.cell 4 _ rfl
        have c5 := hx3.cell 5 _ rfl
        have c6 := hx3.cell 6 _ rfl
        have c7 := hx3.cell 7 _ rfl
        have c8 := hx3.cell 8 _ rfl
        clear hx3
        go_wp2_with fail
        refine (aCheckExpr a _ n _ (by omega) (HAx.out _ HX3.out) (by omega)).mono ?_
        rintro e' W4 ⟨rfl, hb4⟩
        have HX4 := Lib.hid (HX3.out.trans (hb4.mono (by omega)))
        have hs4 := hb4.size
        clear hb4 c0 c1 c2 c3 c4 c5 c6 c7 c8
        by_cases hca : checkExpr a = 0
        · rw [hca]
          obtain ⟨sa, da, pa⟩ := ok_parts hca
          have Pa := Lib.hid pa; clear pa hca
          have hx4 := Hxb.out.keep HX4.out
          have c0 := hx4.cell 0 _ rfl
          have c1 := hx4.cell 1 _ rfl
          have c2 := hx4.cell 2 _ rfl
          have c3 := hx4.cell 3 _ rfl
          have c4 := hx4.cell 4 _ rfl
          have c5 := hx4.cell 5 _ rfl
          have c6 := hx4.cell 6 _ rfl
          have c7 := hx4.cell 7 _ rfl
          have c8 := hx4.cell 8 _ rfl
          clear hx4
          go_wp2_with fail
          refine (aCheckExpr b _ n _ (by omega) (HBx.out _ HX4.out) (by omega)).mono ?_
          rintro e' W5 ⟨rfl, hb5⟩
          have HX5 := Lib.hid (HX4.out.trans (hb5.mono (by omega)))
          have hs5 := hb5.size
          clear hb5 c0 c1 c2 c3 c4 c5 c6 c7 c8
          by_cases hcb : checkExpr b = 0
          · rw [hcb]
            obtain ⟨sb, db, pb⟩ := ok_parts hcb
            have Pb := Lib.hid pb; clear pb hcb
            have hx5 := Hxa.out.keep HX5.out
            have c0 := hx5.cell 0 _ rfl
            have c1 := hx5.cell 1 _ rfl
            have c2 := hx5.cell 2 _ rfl
            have c3 := hx5.cell 3 _ rfl
            have c4 := hx5.cell 4 _ rfl
            have c5 := hx5.cell 5 _ rfl
            have c6 := hx5.cell 6 _ rfl
            have c7 := hx5.cell 7 _ rfl
            have c8 := hx5.cell 8 _ rfl
            clear hx5
            have hy5 := Hxb.out.keep HX5.out
            have d0 := hy5.cell 0 _ rfl
            have d1 := hy5.cell 1 _ rfl
            have d2 := hy5.cell 2 _ rfl
            have d3 := hy5.cell 3 _ rfl
            have d4 := hy5.cell 4 _ rfl
            have d5 := hy5.cell 5 _ rfl
            have d6 := hy5.cell 6 _ rfl
            have d7 := hy5.cell 7 _ rfl
            have d8 := hy5.cell 8 _ rfl
            clear hy5
            go_upto_region 6 with fail
            obtain ⟨gs, hgs⟩ : ∃ gs, W5.heap.size = gs := ⟨_, rfl⟩
            obtain ⟨X6, hX6⟩ : ∃ X6, (W5.alloc (.cells ([.int .i64 a.kind, .int .i64 a.fn, .int .i64 a.op, .int .i64 a.num, .string a.metric, .slice pm a.mats.length pm', .int .i64 a.span, .slice pn a.names.length pn', .slice pk a.kids.length pk']).toArray 26)).alloc (.cells #[.int .i64 4, .int .i64 0, .int .i64 3, .int .i64 m, .string ⟨#[]⟩, .slice none 0 0, .int .i64 0, .slice none 0 0, .slice (some ⟨W5.heap.size, 0, none⟩) 1 1] 26) = X6 := ⟨_, rfl⟩
            have hbx6 : Below W5.heap.size W5 X6 := by rw [← hX6]; exact ((Below.refl _ _).alloc (Nat.le_refl _) _).alloc (by simp) _
            have hz6 : X6.heap.size = gs + 2 := by rw [← hX6, ← hgs]; simp
            have hga : Blk X6 gs 26 [.int .i64 a.kind, .int .i64 a.fn, .int .i64 a.op, .int .i64 a.num, .string a.metric, .slice pm a.mats.length pm', .int .i64 a.span, .slice pn a.names.length pn', .slice pk a.kids.length pk'] := by rw [← hX6, ← hgs]; exact (Blk.new _ _ _).keep ((Below.refl _ _).alloc (Nat.le_refl _) _)
            have hbs : Blk X6 (gs + 1) 26 [.int .i64 4, .int .i64 0, .int .i64 3, .int .i64 m, .string ⟨#[]⟩, .slice none 0 0, .int .i64 0, .slice none 0 0, .slice (some ⟨gs, 0, none⟩) 1 1] := by
              have := Blk.new (W5.alloc (.cells ([.int .i64 a.kind, .int .i64 a.fn, .int .i64 a.op, .int .i64 a.num, .string a.metric, .slice pm a.mats.length pm', .int .i64 a.span, .slice pn a.names.length pn', .slice pk a.kids.length pk']).toArray 26)) [.int .i64 4, .int .i64 0, .int .i64 3, .int .i64 m, .string ⟨#[]⟩, .slice none 0 0, .int .i64 0, .slice none 0 0, .slice (some ⟨W5.heap.size, 0, none⟩) 1 1] 26
              rw [show [Value.int .i64 4, .int .i64 0, .int .i64 3, .int .i64 m, .string ⟨#[]⟩, .slice none 0 0, .int .i64 0, .slice none 0 0, .slice (some ⟨W5.heap.size, 0, none⟩) 1 1].toArray = #[Value.int .i64 4, .int .i64 0, .int .i64 3, .int .i64 m, .string ⟨#[]⟩, .slice none 0 0, .int .i64 0, .slice none 0 0, .slice (some ⟨W5.heap.size, 0, none⟩) 1 1] from rfl, hX6] at this
              simpa [hgs] using this
            rw [hX6]
            clear hX6
            have HX6 := Lib.hid (HX5.out.trans (hbx6.mono (by omega))); clear hbx6
            clear c0 c1 c2 c3 c4 c5 c6 c7 c8 d0 d1 d2 d3 d4 d5 d6 d7 d8
            have hx6 := Hxa.out.keep HX6.out
            have c0 := hx6.cell 0 _ rfl
            have c1 := hx6.cell 1 _ rfl
            have c2 := hx6.cell 2 _ rfl
            have c3 := hx6.cell 3 _ rfl
            have c4 := hx6.cell 4 _ rfl
            have c5 := hx6.cell 5 _ rfl
            have c6 := hx6.cell 6 _ rfl
            have c7 := hx6.cell 7 _ rfl
            have c8 := hx6.cell 8 _ rfl
            clear hx6
            have hy6 := Hxb.out.keep HX6.out
            have d0 := hy6.cell 0 _ rfl
            have d1 := hy6.cell 1 _ rfl
            have d2 := hy6.cell 2 _ rfl
            have d3 := hy6.cell 3 _ rfl
            have d4 := hy6.cell 4 _ rfl
            have d5 := hy6.cell 5 _ rfl
            have d6 := hy6.cell 6 _ rfl
            have d7 := hy6.cell 7 _ rfl
            have d8 := hy6.cell 8 _ rfl
            clear hy6
            have hsg : w.heap.size + 1 < gs := by omega
            have Hgs := Lib.hid hgs; clear hgs
            have Hz6 := Lib.hid hz6; clear hz6
            have Hga := Lib.hid hga; clear hga
            have Hbs := Lib.hid hbs; clear hbs
            go_upto_region 7 with fail
            obtain ⟨gj, hgj⟩ : ∃ gj, X6.heap.size = gj := ⟨_, rfl⟩
            obtain ⟨X, hX⟩ : ∃ X, (X6.alloc (.cells #[.int .i64 a.kind, .int .i64 a.fn, .int .i64 a.op, .int .i64 a.num, .string a.metric, .slice pm a.mats.length pm', .int .i64 a.span, .slice pn a.names.length pn', .slice pk a.kids.length pk', .int .i64 b.kind, .int .i64 b.fn, .int .i64 b.op, .int .i64 b.num, .string b.metric, .slice qm b.mats.length qm', .int .i64 b.span, .slice qn b.names.length qn', .slice qk b.kids.length qk'] 26)).alloc (.cells #[.int .i64 3, .int .i64 0, .int .i64 2, .int .i64 0, .string ⟨#[]⟩, .slice none 0 0, .int .i64 0, .slice none 0 0, .slice (some ⟨X6.heap.size, 0, none⟩) 2 2] 26) = X := ⟨_, rfl⟩
            have hbx : Below X6.heap.size X6 X := by rw [← hX]; exact ((Below.refl _ _).alloc (Nat.le_refl _) _).alloc (by simp) _
            have hz : X.heap.size = gj + 2 := by rw [← hX, ← hgj]; simp
            have hgab : Blk X gj 26 ([.int .i64 a.kind, .int .i64 a.fn, .int .i64 a.op, .int .i64 a.num, .string a.metric, .slice pm a.mats.length pm', .int .i64 a.span, .slice pn a.names.length pn', .slice pk a.kids.length pk'] ++ [.int .i64 b.kind, .int .i64 b.fn, .int .i64 b.op, .int .i64 b.num, .string b.metric, .slice qm b.mats.length qm', .int .i64 b.span, .slice qn b.names.length qn', .slice qk b.kids.length qk']) := by rw [← hX, ← hgj]; exact (Blk.new _ _ _).keep ((Below.refl _ _).alloc (Nat.le_refl _) _)
            have hbj : Blk X (gj + 1) 26 [.int .i64 3, .int .i64 0, .int .i64 2, .int .i64 0, .string ⟨#[]⟩, .slice none 0 0, .int .i64 0, .slice none 0 0, .slice (some ⟨gj, 0, none⟩) 2 2] := by
              have := Blk.new (X6.alloc (.cells #[.int .i64 a.kind, .int .i64 a.fn, .int .i64 a.op, .int .i64 a.num, .string a.metric, .slice pm a.mats.length pm', .int .i64 a.span, .slice pn a.names.length pn', .slice pk a.kids.length pk', .int .i64 b.kind, .int .i64 b.fn, .int .i64 b.op, .int .i64 b.num, .string b.metric, .slice qm b.mats.length qm', .int .i64 b.span, .slice qn b.names.length qn', .slice qk b.kids.length qk'] 26)) [.int .i64 3, .int .i64 0, .int .i64 2, .int .i64 0, .string ⟨#[]⟩, .slice none 0 0, .int .i64 0, .slice none 0 0, .slice (some ⟨X6.heap.size, 0, none⟩) 2 2] 26
              rw [show [Value.int .i64 3, .int .i64 0, .int .i64 2, .int .i64 0, .string ⟨#[]⟩, .slice none 0 0, .int .i64 0, .slice none 0 0, .slice (some ⟨X6.heap.size, 0, none⟩) 2 2].toArray = #[Value.int .i64 3, .int .i64 0, .int .i64 2, .int .i64 0, .string ⟨#[]⟩, .slice none 0 0, .int .i64 0, .slice none 0 0, .slice (some ⟨X6.heap.size, 0, none⟩) 2 2] from rfl, hX] at this
              simpa [hgj] using this
            rw [hX]
            clear hX
            have hbs2 := Hbs.out.keep hbx
            have hga2 := Hga.out.keep hbx
            have HX7 := Lib.hid (HX6.out.trans (hbx.mono HX6.out.size)); clear hbx
            have hgj2 : gj = gs + 2 := by rw [← hgj]; exact Hz6.out
            have Hgj := Lib.hid hgj; clear hgj
            rw [Hgj.out, Hgs.out]
            subst hgj2
            have hIs := Lib.hid (scale_is (m := m) hga2 (HAx.out _ HX7.out) (by omega))
            have hIj := Lib.hid (join_is hgab (HAx.out _ HX7.out) (HBx.out _ HX7.out) (by omega))
            clear c0 c1 c2 c3 c4 c5 c6 c7 c8 d0 d1 d2 d3 d4 d5 d6 d7 d8
            have hx7 := Hxa.out.keep HX7.out
            have hy7 := Hxb.out.keep HX7.out
            have c0 := hx7.cell 0 _ rfl
            have d0 := hy7.cell 0 _ rfl
            have s0 := hbs2.cell 0 _ rfl
            have j0 := hbj.cell 0 _ rfl
            have c1 := hx7.cell 1 _ rfl
            have d1 := hy7.cell 1 _ rfl
            have s1 := hbs2.cell 1 _ rfl
            have j1 := hbj.cell 1 _ rfl
            have c2 := hx7.cell 2 _ rfl
            have d2 := hy7.cell 2 _ rfl
            have s2 := hbs2.cell 2 _ rfl
            have j2 := hbj.cell 2 _ rfl
            have c3 := hx7.cell 3 _ rfl
            have d3 := hy7.cell 3 _ rfl
            have s3 := hbs2.cell 3 _ rfl
            have j3 := hbj.cell 3 _ rfl
            have c4 := hx7.cell 4 _ rfl
            have d4 := hy7.cell 4 _ rfl
            have s4 := hbs2.cell 4 _ rfl
            have j4 := hbj.cell 4 _ rfl
            have c5 := hx7.cell 5 _ rfl
            have d5 := hy7.cell 5 _ rfl
            have s5 := hbs2.cell 5 _ rfl
            have j5 := hbj.cell 5 _ rfl
            have c6 := hx7.cell 6 _ rfl
            have d6 := hy7.cell 6 _ rfl
            have s6 := hbs2.cell 6 _ rfl
            have j6 := hbj.cell 6 _ rfl
            have c7 := hx7.cell 7 _ rfl
            have d7 := hy7.cell 7 _ rfl
            have s7 := hbs2.cell 7 _ rfl
            have j7 := hbj.cell 7 _ rfl
            have c8 := hx7.cell 8 _ rfl
            have d8 := hy7.cell 8 _ rfl
            have s8 := hbs2.cell 8 _ rfl
            have j8 := hbj.cell 8 _ rfl
            have Hbs3 := Lib.hid hbs2
            have Hbj3 := Lib.hid hbj
            clear hx7 hy7 hbs2 hga2 hgab hbj
            have hzX : gs + 3 < X.heap.size := by omega
            have Hz := Lib.hid hz; clear hz
            have HA7 := Lib.hid (fun Y (h : Below X.heap.size X Y) => HAx.out Y (HX7.out.trans (h.mono HX7.out.size)))
            have HB7 := Lib.hid (fun Y (h : Below X.heap.size X Y) => HBx.out Y (HX7.out.trans (h.mono HX7.out.size)))
            have HS7 := Lib.hid (fun Y (h : Below X.heap.size X Y) => hIs.out.mono h (Nat.le_refl _))
            have HJ7 := Lib.hid (fun Y (h : Below X.heap.size X Y) => hIj.out.mono h (Nat.le_refl _))
            obtain ⟨dmax, hdm⟩ : ∃ dmax : Int, ((max a.deep b.deep + 1 : Nat) : Int) = dmax + 1 := ⟨((max a.deep b.deep : Nat) : Int), by push_cast; rfl⟩
            have Hdm := Lib.hid hdm; clear hdm
            obtain ⟨hmax, hhm⟩ : ∃ hmax : Int, max a.hor b.hor = hmax := ⟨_, rfl⟩
            have Hhm := Lib.hid hhm; clear hhm
            have ha1 := hor_bd a
            have hb1 := hor_bd b
            have hla := leaves_length a
            have hlb := leaves_length b
            have hKs1 := Lib.hid (keepCalls (W := X) (R := fun e' w' => e' = .returned (.int .i64 ((a.size : Int) + 1))) (fun Y hX => (aSize (scaleEx m a) _ X.heap.size Y (by have := hX.size; omega) (HS7.out Y hX) (by rw [scale_size]; omega)).mono (fun e' w' h => ⟨h.1.trans (ret_int (by rw [scale_size]; push_cast; rfl)), h.2⟩)))
            have hKa1 := Lib.hid (keepCalls (W := X) (R := fun e' w' => e' = .returned (.int .i64 (a.size : Int))) (fun Y hX => (aSize a _ n Y (by have := hX.size; omega) (HA7.out Y hX) (by omega)).mono (fun e' w' h => h)))
            have hKb1 := Lib.hid (keepCalls (W := X) (R := fun e' w' => e' = .returned (.int .i64 (b.size : Int))) (fun Y hX => (aSize b _ n Y (by have := hX.size; omega) (HB7.out Y hX) (by omega)).mono (fun e' w' h => h)))
            have hKj1 := Lib.hid (keepCalls (W := X) (R := fun e' w' => e' = .returned (.int .i64 ((a.size : Int) + (b.size : Int) + 1))) (fun Y hX => (aSize (joinEx a b) _ X.heap.size Y (by have := hX.size; omega) (HJ7.out Y hX) (by rw [join_size]; omega)).mono (fun e' w' h => ⟨h.1.trans (ret_int (by rw [join_size]; push_cast; rfl)), h.2⟩)))
            have hKs2 := Lib.hid (keepCalls (W := X) (R := fun e' w' => e' = .returned (.int .i64 ((a.deep : Int) + 1))) (fun Y hX => (aDeep (scaleEx m a) _ X.heap.size Y (by have := hX.size; omega) (HS7.out Y hX) (by rw [scale_size]; omega)).mono (fun e' w' h => ⟨h.1.trans (ret_int (by rw [scale_deep]; push_cast; rfl)), h.2⟩)))
            have hKa2 := Lib.hid (keepCalls (W := X) (R := fun e' w' => e' = .returned (.int .i64 (a.deep : Int))) (fun Y hX => (aDeep a _ n Y (by have := hX.size; omega) (HA7.out Y hX) (by omega)).mono (fun e' w' h => h)))
            have hKb2 := Lib.hid (keepCalls (W := X) (R := fun e' w' => e' = .returned (.int .i64 (b.deep : Int))) (fun Y hX => (aDeep b _ n Y (by have := hX.size; omega) (HB7.out Y hX) (by omega)).mono (fun e' w' h => h)))
            have hKj2 := Lib.hid (keepCalls (W := X) (R := fun e' w' => e' = .returned (.int .i64 (dmax + 1))) (fun Y hX => (aDeep (joinEx a b) _ X.heap.size Y (by have := hX.size; omega) (HJ7.out Y hX) (by rw [join_size]; omega)).mono (fun e' w' h => ⟨h.1.trans (ret_int (by rw [join_deep]; exact Hdm.out)), h.2⟩)))
            have hKs3 := Lib.hid (keepCalls (W := X) (R := fun e' w' => e' = .returned (.int .i64 a.hor)) (fun Y hX => (aHorizon (scaleEx m a) _ X.heap.size Y (by have := hX.size; omega) (HS7.out Y hX) (by rw [scale_size]; omega)).mono (fun e' w' h => ⟨h.1.trans (ret_int (scale_hor m a)), h.2⟩)))
            have hKa3 := Lib.hid (keepCalls (W := X) (R := fun e' w' => e' = .returned (.int .i64 a.hor)) (fun Y hX => (aHorizon a _ n Y (by have := hX.size; omega) (HA7.out Y hX) (by omega)).mono (fun e' w' h => h)))
            have hKb3 := Lib.hid (keepCalls (W := X) (R := fun e' w' => e' = .returned (.int .i64 b.hor)) (fun Y hX => (aHorizon b _ n Y (by have := hX.size; omega) (HB7.out Y hX) (by omega)).mono (fun e' w' h => h)))
            have hKj3 := Lib.hid (keepCalls (W := X) (R := fun e' w' => e' = .returned (.int .i64 hmax)) (fun Y hX => (aHorizon (joinEx a b) _ X.heap.size Y (by have := hX.size; omega) (HJ7.out Y hX) (by rw [join_size]; omega)).mono (fun e' w' h => ⟨h.1.trans (ret_int (by rw [join_hor]; exact Hhm.out)), h.2⟩)))
            have hKs4 := Lib.hid (keepCalls (W := X) (R := fun e' w' => ∃ A c, e' = .returned (.slice A a.leaves.length c)) (fun Y hX => (aLeaves (scaleEx m a) _ X.heap.size Y (by have := hX.size; omega) (HS7.out Y hX) (by rw [scale_size]; omega)).mono (fun e' w' h => by
              obtain ⟨v, h1, h2, h3⟩ := h
              obtain ⟨A, c, hv⟩ := h2.slice2
              exact ⟨⟨A, c, h1.trans (by rw [hv, scale_leaves])⟩, h3⟩)))
            have hKa4 := Lib.hid (keepCalls (W := X) (R := fun e' w' => ∃ A c, e' = .returned (.slice A a.leaves.length c)) (fun Y hX => (aLeaves a _ n Y (by have := hX.size; omega) (HA7.out Y hX) (by omega)).mono (fun e' w' h => by
              obtain ⟨v, h1, h2, h3⟩ := h
              obtain ⟨A, c, hv⟩ := h2.slice2
              exact ⟨⟨A, c, h1.trans (by rw [hv])⟩, h3⟩)))
            have hKb4 := Lib.hid (keepCalls (W := X) (R := fun e' w' => ∃ A c, e' = .returned (.slice A b.leaves.length c)) (fun Y hX => (aLeaves b _ n Y (by have := hX.size; omega) (HB7.out Y hX) (by omega)).mono (fun e' w' h => by
              obtain ⟨v, h1, h2, h3⟩ := h
              obtain ⟨A, c, hv⟩ := h2.slice2
              exact ⟨⟨A, c, h1.trans (by rw [hv])⟩, h3⟩)))
            have hKj4 := Lib.hid (keepCalls (W := X) (R := fun e' w' => ∃ A c, e' = .returned (.slice A (a.leaves.length + b.leaves.length) c)) (fun Y hX => (aLeaves (joinEx a b) _ X.heap.size Y (by have := hX.size; omega) (HJ7.out Y hX) (by rw [join_size]; omega)).mono (fun e' w' h => by
              obtain ⟨v, h1, h2, h3⟩ := h
              obtain ⟨A, c, hv⟩ := h2.slice2
              exact ⟨⟨A, c, h1.trans (by rw [hv, join_leaves, List.length_append])⟩, h3⟩)))
            have hKf := Lib.hid (keepCalls (W := X) (R := fun e' w' => e' = .returned (.bool true)) (fun Y hX => wFits (scaleEx m a) _ X.heap.size Y (by have := hX.size; omega) (HS7.out Y hX) (by rw [scale_size]; omega) (scale_all m Pa.out)))
            have hKg := Lib.hid (keepCalls (W := X) (R := fun e' w' => e' = .returned (.bool true)) (fun Y hX => wFits (joinEx a b) _ X.heap.size Y (by have := hX.size; omega) (HJ7.out Y hX) (by rw [join_size]; omega) (join_all Pa.out Pb.out)))
            have hKh := Lib.hid (keepCalls (W := X) (R := fun e' w' => e' = .returned (.bool false)) (fun Y hX => (aSame (scaleEx m a) a _ _ X.heap.size Y (by have := hX.size; omega) (HS7.out Y hX) ((HA7.out Y hX).mono (Below.refl _ _) (by omega))).mono (fun e' w' h => ⟨h.1.trans (ret_bool (decide_eq_false (fun e => by have := congrArg Ex.size e; rw [scale_size] at this; omega))), h.2⟩)))
            have hKi := Lib.hid (keepCalls (W := X) (R := fun e' w' => e' = .returned (.bool (decide (a = b)))) (fun Y hX => aSame a b _ _ n Y (by have := hX.size; omega) (HA7.out Y hX) (HB7.out Y hX)))
            have hKj := Lib.hid (keepCalls (W := X) (R := fun e' w' => e' = .returned (.bool (decide (a = b)))) (fun Y hX => (aSame b a _ _ n Y (by have := hX.size; omega) (HB7.out Y hX) (HA7.out Y hX)).mono (fun e' w' h => ⟨h.1.trans (ret_bool (by rw [Bool.eq_iff_iff]; simp [eq_comm])), h.2⟩)))
            have hW0 := Below.refl X.heap.size X
            have w1 := wrap_in (x := (a.size : Int) + 1) (by omega)
            have w2 := wrap_in (x := (a.deep : Int) + 1) (by omega)
            go_cut [66] (fun s66 wx => s66 = .bool false ∧ Below X.heap.size X wx)
            case first =>
              go_region_held3 (fun w' => w'.cell? ⟨w.heap.size, 0, none⟩ = some (.int .i64 a.kind) ∧ w'.cell? ⟨w.heap.size, 1, none⟩ = some (.int .i64 a.fn) ∧ w'.cell? ⟨w.heap.size, 2, none⟩ = some (.int .i64 a.op) ∧ w'.cell? ⟨w.heap.size, 3, none⟩ = some (.int .i64 a.num) ∧ w'.cell? ⟨w.heap.size, 4, none⟩ = some (.string a.metric) ∧ w'.cell? ⟨w.heap.size, 5, none⟩ = some (.slice pm a.mats.length pm') ∧ w'.cell? ⟨w.heap.size, 6, none⟩ = some (.int .i64 a.span) ∧ w'.cell? ⟨w.heap.size, 7, none⟩ = some (.slice pn a.names.length pn') ∧ w'.cell? ⟨w.heap.size, 8, none⟩ = some (.slice pk a.kids.length pk') ∧ w'.cell? ⟨w.heap.size + 1, 0, none⟩ = some (.int .i64 b.kind) ∧ w'.cell? ⟨w.heap.size + 1, 1, none⟩ = some (.int .i64 b.fn) ∧ w'.cell? ⟨w.heap.size + 1, 2, none⟩ = some (.int .i64 b.op) ∧ w'.cell? ⟨w.heap.size + 1, 3, none⟩ = some (.int .i64 b.num) ∧ w'.cell? ⟨w.heap.size + 1, 4, none⟩ = some (.string b.metric) ∧ w'.cell? ⟨w.heap.size + 1, 5, none⟩ = some (.slice qm b.mats.length qm') ∧ w'.cell? ⟨w.heap.size + 1, 6, none⟩ = some (.int .i64 b.span) ∧ w'.cell? ⟨w.heap.size + 1, 7, none⟩ = some (.slice qn b.names.length qn') ∧ w'.cell? ⟨w.heap.size + 1, 8, none⟩ = some (.slice qk b.kids.length qk') ∧ w'.cell? ⟨gs + 1, 0, none⟩ = some (.int .i64 4) ∧ w'.cell? ⟨gs + 1, 1, none⟩ = some (.int .i64 0) ∧ w'.cell? ⟨gs + 1, 2, none⟩ = some (.int .i64 3) ∧ w'.cell? ⟨gs + 1, 3, none⟩ = some (.int .i64 m) ∧ w'.cell? ⟨gs + 1, 4, none⟩ = some (.string ⟨#[]⟩) ∧ w'.cell? ⟨gs + 1, 5, none⟩ = some (.slice none 0 0) ∧ w'.cell? ⟨gs + 1, 6, none⟩ = some (.int .i64 0) ∧ w'.cell? ⟨gs + 1, 7, none⟩ = some (.slice none 0 0) ∧ w'.cell? ⟨gs + 1, 8, none⟩ = some (.slice (some ⟨gs, 0, none⟩) 1 1) ∧ w'.cell? ⟨gs + 3, 0, none⟩ = some (.int .i64 3) ∧ w'.cell? ⟨gs + 3, 1, none⟩ = some (.int .i64 0) ∧ w'.cell? ⟨gs + 3, 2, none⟩ = some (.int .i64 2) ∧ w'.cell? ⟨gs + 3, 3, none⟩ = some (.int .i64 0) ∧ w'.cell? ⟨gs + 3, 4, none⟩ = some (.string ⟨#[]⟩) ∧ w'.cell? ⟨gs + 3, 5, none⟩ = some (.slice none 0 0) ∧ w'.cell? ⟨gs + 3, 6, none⟩ = some (.int .i64 0) ∧ w'.cell? ⟨gs + 3, 7, none⟩ = some (.slice none 0 0) ∧ w'.cell? ⟨gs + 3, 8, none⟩ = some (.slice (some ⟨gs + 2, 0, none⟩) 2 2)) (go_keep)
                (first
                | (go_at_call 19; (with_reducible refine (hKs1.out _ ?_).mono ?_); (first | assumption | exact (Below.refl _ _).drew | exact Below.drew (by assumption)); rintro e' ws1 ⟨rfl, hBs1, hbs1, hk⟩; have kas1 := fun o => hk w.heap.size o (by omega); have kbs1 := fun o => hk (w.heap.size + 1) o (by omega); have kss1 := fun o => hk (gs + 1) o (by omega); have kjs1 := fun o => hk (gs + 3) o (by omega); clear hk)
                | (go_at_call 19; (with_reducible refine (hKa1.out _ ?_).mono ?_); (first | assumption | exact (Below.refl _ _).drew | exact Below.drew (by assumption)); rintro e' wa1 ⟨rfl, hBa1, hba1, hk⟩; have kaa1 := fun o => hk w.heap.size o (by omega); have kba1 := fun o => hk (w.heap.size + 1) o (by omega); have ksa1 := fun o => hk (gs + 1) o (by omega); have kja1 := fun o => hk (gs + 3) o (by omega); clear hk)
                | (go_at_call 20; (with_reducible refine (hKs2.out _ ?_).mono ?_); (first | assumption | exact (Below.refl _ _).drew | exact Below.drew (by assumption)); rintro e' ws2 ⟨rfl, hBs2, hbs2, hk⟩; have kas2 := fun o => hk w.heap.size o (by omega); have kbs2 := fun o => hk (w.heap.size + 1) o (by omega); have kss2 := fun o => hk (gs + 1) o (by omega); have kjs2 := fun o => hk (gs + 3) o (by omega); clear hk)
                | (go_at_call 20; (with_reducible refine (hKa2.out _ ?_).mono ?_); (first | assumption | exact (Below.refl _ _).drew | exact Below.drew (by assumption)); rintro e' wa2 ⟨rfl, hBa2, hba2, hk⟩; have kaa2 := fun o => hk w.heap.size o (by omega); have kba2 := fun o => hk (w.heap.size + 1) o (by omega); have ksa2 := fun o => hk (gs + 1) o (by omega); have kja2 := fun o => hk (gs + 3) o (by omega); clear hk)
                | (go_at_call 21; (with_reducible refine (hKs3.out _ ?_).mono ?_); (first | assumption | exact (Below.refl _ _).drew | exact Below.drew (by assumption)); rintro e' ws3 ⟨rfl, hBs3, hbs3, hk⟩; have kas3 := fun o => hk w.heap.size o (by omega); have kbs3 := fun o => hk (w.heap.size + 1) o (by omega); have kss3 := fun o => hk (gs + 1) o (by omega); have kjs3 := fun o => hk (gs + 3) o (by omega); clear hk)
                | (go_at_call 21; (with_reducible refine (hKa3.out _ ?_).mono ?_); (first | assumption | exact (Below.refl _ _).drew | exact Below.drew (by assumption)); rintro e' wa3 ⟨rfl, hBa3, hba3, hk⟩; have kaa3 := fun o => hk w.heap.size o (by omega); have kba3 := fun o => hk (w.heap.size + 1) o (by omega); have ksa3 := fun o => hk (gs + 1) o (by omega); have kja3 := fun o => hk (gs + 3) o (by omega); clear hk)
                | (go_at_call 18; (with_reducible refine (hKs4.out _ ?_).mono ?_); (first | assumption | exact (Below.refl _ _).drew | exact Below.drew (by assumption)); rintro e' ws4 ⟨⟨As4, qs4, rfl⟩, hBs4, hbs4, hk⟩; have kas4 := fun o => hk w.heap.size o (by omega); have kbs4 := fun o => hk (w.heap.size + 1) o (by omega); have kss4 := fun o => hk (gs + 1) o (by omega); have kjs4 := fun o => hk (gs + 3) o (by omega); clear hk)
                | (go_at_call 18; (with_reducible refine (hKa4.out _ ?_).mono ?_); (first | assumption | exact (Below.refl _ _).drew | exact Below.drew (by assumption)); rintro e' wa4 ⟨⟨Aa4, qa4, rfl⟩, hBa4, hba4, hk⟩; have kaa4 := fun o => hk w.heap.size o (by omega); have kba4 := fun o => hk (w.heap.size + 1) o (by omega); have ksa4 := fun o => hk (gs + 1) o (by omega); have kja4 := fun o => hk (gs + 3) o (by omega); clear hk))
              go_wp2
              go_meet
              exact ⟨rfl, hBa4⟩
            case rest =>
              obtain ⟨rfl, hbX⟩ := hcut
              obtain ⟨X2, rfl⟩ : ∃ X2 : World, X2 = wc := ⟨_, rfl⟩
              clear w1 w2 hW0
              clear c0 c1 c2 c3 c4 c5 c6 c7 c8 d0 d1 d2 d3 d4 d5 d6 d7 d8 s0 s1 s2 s3 s4 s5 s6 s7 s8 j0 j1 j2 j3 j4 j5 j6 j7 j8
              have hx8 := (Hxa.out.keep HX7.out).keep hbX
              have hy8 := (Hxb.out.keep HX7.out).keep hbX
              have hs8 := Hbs3.out.keep hbX
              have hj8 := Hbj3.out.keep hbX
              have c0 := hx8.cell 0 _ rfl
              have d0 := hy8.cell 0 _ rfl
              have s0 := hs8.cell 0 _ rfl
              have j0 := hj8.cell 0 _ rfl
              have c1 := hx8.cell 1 _ rfl
              have d1 := hy8.cell 1 _ rfl
              have s1 := hs8.cell 1 _ rfl
              have j1 := hj8.cell 1 _ rfl
              have c2 := hx8.cell 2 _ rfl
              have d2 := hy8.cell 2 _ rfl
              have s2 := hs8.cell 2 _ rfl
              have j2 := hj8.cell 2 _ rfl
              have c3 := hx8.cell 3 _ rfl
              have d3 := hy8.cell 3 _ rfl
              have s3 := hs8.cell 3 _ rfl
              have j3 := hj8.cell 3 _ rfl
              have c4 := hx8.cell 4 _ rfl
              have d4 := hy8.cell 4 _ rfl
              have s4 := hs8.cell 4 _ rfl
              have j4 := hj8.cell 4 _ rfl
              have c5 := hx8.cell 5 _ rfl
              have d5 := hy8.cell 5 _ rfl
              have s5 := hs8.cell 5 _ rfl
              have j5 := hj8.cell 5 _ rfl
              have c6 := hx8.cell 6 _ rfl
              have d6 := hy8.cell 6 _ rfl
              have s6 := hs8.cell 6 _ rfl
              have j6 := hj8.cell 6 _ rfl
              have c7 := hx8.cell 7 _ rfl
              have d7 := hy8.cell 7 _ rfl
              have s7 := hs8.cell 7 _ rfl
              have j7 := hj8.cell 7 _ rfl
              have c8 := hx8.cell 8 _ rfl
              have d8 := hy8.cell 8 _ rfl
              have s8 := hs8.cell 8 _ rfl
              have j8 := hj8.cell 8 _ rfl
              clear hx8 hy8 hs8 hj8
              have w1 := wrap_in (x := (a.size : Int) + (b.size : Int)) (by omega)
              have w2 := wrap_in (x := (a.size : Int) + (b.size : Int) + 1) (by omega)
              have w3 := wrap_in (x := dmax + 1) (by have := Hdm.out; omega)
              have w5 : (if a.deep < b.deep then (b.deep : Int) else (a.deep : Int)) = dmax := by have := Hdm.out; split <;> omega
              have w6 : (if a.hor < b.hor then b.hor else a.hor) = hmax := by have := Hhm.out; split <;> omega
              have w4 := wrap_in (x := (a.leaves.length : Int) + (b.leaves.length : Int)) (by omega)
              go_wp2
              go_cut [109] (fun s109 wx => s109 = .bool false ∧ Below X.heap.size X wx)
              case first =>
                go_region_held3 (fun w' => w'.cell? ⟨w.heap.size, 0, none⟩ = some (.int .i64 a.kind) ∧ w'.cell? ⟨w.heap.size, 1, none⟩ = some (.int .i64 a.fn) ∧ w'.cell? ⟨w.heap.size, 2, none⟩ = some (.int .i64 a.op) ∧ w'.cell? ⟨w.heap.size, 3, none⟩ = some (.int .i64 a.num) ∧ w'.cell? ⟨w.heap.size, 4, none⟩ = some (.string a.metric) ∧ w'.cell? ⟨w.heap.size, 5, none⟩ = some (.slice pm a.mats.length pm') ∧ w'.cell? ⟨w.heap.size, 6, none⟩ = some (.int .i64 a.span) ∧ w'.cell? ⟨w.heap.size, 7, none⟩ = some (.slice pn a.names.length pn') ∧ w'.cell? ⟨w.heap.size, 8, none⟩ = some (.slice pk a.kids.length pk') ∧ w'.cell? ⟨w.heap.size + 1, 0, none⟩ = some (.int .i64 b.kind) ∧ w'.cell? ⟨w.heap.size + 1, 1, none⟩ = some (.int .i64 b.fn) ∧ w'.cell? ⟨w.heap.size + 1, 2, none⟩ = some (.int .i64 b.op) ∧ w'.cell? ⟨w.heap.size + 1, 3, none⟩ = some (.int .i64 b.num) ∧ w'.cell? ⟨w.heap.size + 1, 4, none⟩ = some (.string b.metric) ∧ w'.cell? ⟨w.heap.size + 1, 5, none⟩ = some (.slice qm b.mats.length qm') ∧ w'.cell? ⟨w.heap.size + 1, 6, none⟩ = some (.int .i64 b.span) ∧ w'.cell? ⟨w.heap.size + 1, 7, none⟩ = some (.slice qn b.names.length qn') ∧ w'.cell? ⟨w.heap.size + 1, 8, none⟩ = some (.slice qk b.kids.length qk') ∧ w'.cell? ⟨gs + 1, 0, none⟩ = some (.int .i64 4) ∧ w'.cell? ⟨gs + 1, 1, none⟩ = some (.int .i64 0) ∧ w'.cell? ⟨gs + 1, 2, none⟩ = some (.int .i64 3) ∧ w'.cell? ⟨gs + 1, 3, none⟩ = some (.int .i64 m) ∧ w'.cell? ⟨gs + 1, 4, none⟩ = some (.string ⟨#[]⟩) ∧ w'.cell? ⟨gs + 1, 5, none⟩ = some (.slice none 0 0) ∧ w'.cell? ⟨gs + 1, 6, none⟩ = some (.int .i64 0) ∧ w'.cell? ⟨gs + 1, 7, none⟩ = some (.slice none 0 0) ∧ w'.cell? ⟨gs + 1, 8, none⟩ = some (.slice (some ⟨gs, 0, none⟩) 1 1) ∧ w'.cell? ⟨gs + 3, 0, none⟩ = some (.int .i64 3) ∧ w'.cell? ⟨gs + 3, 1, none⟩ = some (.int .i64 0) ∧ w'.cell? ⟨gs + 3, 2, none⟩ = some (.int .i64 2) ∧ w'.cell? ⟨gs + 3, 3, none⟩ = some (.int .i64 0) ∧ w'.cell? ⟨gs + 3, 4, none⟩ = some (.string ⟨#[]⟩) ∧ w'.cell? ⟨gs + 3, 5, none⟩ = some (.slice none 0 0) ∧ w'.cell? ⟨gs + 3, 6, none⟩ = some (.int .i64 0) ∧ w'.cell? ⟨gs + 3, 7, none⟩ = some (.slice none 0 0) ∧ w'.cell? ⟨gs + 3, 8, none⟩ = some (.slice (some ⟨gs + 2, 0, none⟩) 2 2)) (go_keep)
                  (first
                | (go_at_call 19; (with_reducible refine (hKj1.out _ ?_).mono ?_); (first | assumption | exact (Below.refl _ _).drew | exact Below.drew (by assumption)); rintro e' wj1 ⟨rfl, hBj1, hbj1, hk⟩; have kaj1 := fun o => hk w.heap.size o (by omega); have kbj1 := fun o => hk (w.heap.size + 1) o (by omega); have ksj1 := fun o => hk (gs + 1) o (by omega); have kjj1 := fun o => hk (gs + 3) o (by omega); clear hk)
                | (go_at_call 19; (with_reducible refine (hKa1.out _ ?_).mono ?_); (first | assumption | exact (Below.refl _ _).drew | exact Below.drew (by assumption)); rintro e' wa1 ⟨rfl, hBa1, hba1, hk⟩; have kaa1 := fun o => hk w.heap.size o (by omega); have kba1 := fun o => hk (w.heap.size + 1) o (by omega); have ksa1 := fun o => hk (gs + 1) o (by omega); have kja1 := fun o => hk (gs + 3) o (by omega); clear hk)
                | (go_at_call 19; (with_reducible refine (hKb1.out _ ?_).mono ?_); (first | assumption | exact (Below.refl _ _).drew | exact Below.drew (by assumption)); rintro e' wb1 ⟨rfl, hBb1, hbb1, hk⟩; have kab1 := fun o => hk w.heap.size o (by omega); have kbb1 := fun o => hk (w.heap.size + 1) o (by omega); have ksb1 := fun o => hk (gs + 1) o (by omega); have kjb1 := fun o => hk (gs + 3) o (by omega); clear hk)
                | (go_at_call 20; (with_reducible refine (hKj2.out _ ?_).mono ?_); (first | assumption | exact (Below.refl _ _).drew | exact Below.drew (by assumption)); rintro e' wj2 ⟨rfl, hBj2, hbj2, hk⟩; have kaj2 := fun o => hk w.heap.size o (by omega); have kbj2 := fun o => hk (w.heap.size + 1) o (by omega); have ksj2 := fun o => hk (gs + 1) o (by omega); have kjj2 := fun o => hk (gs + 3) o (by omega); clear hk)
                | (go_at_call 20; (with_reducible refine (hKa2.out _ ?_).mono ?_); (first | assumption | exact (Below.refl _ _).drew | exact Below.drew (by assumption)); rintro e' wa2 ⟨rfl, hBa2, hba2, hk⟩; have kaa2 := fun o => hk w.heap.size o (by omega); have kba2 := fun o => hk (w.heap.size + 1) o (by omega); have ksa2 := fun o => hk (gs + 1) o (by omega); have kja2 := fun o => hk (gs + 3) o (by omega); clear hk)
                | (go_at_call 20; (with_reducible refine (hKb2.out _ ?_).mono ?_); (first | assumption | exact (Below.refl _ _).drew | exact Below.drew (by assumption)); rintro e' wb2 ⟨rfl, hBb2, hbb2, hk⟩; have kab2 := fun o => hk w.heap.size o (by omega); have kbb2 := fun o => hk (w.heap.size + 1) o (by omega); have ksb2 := fun o => hk (gs + 1) o (by omega); have kjb2 := fun o => hk (gs + 3) o (by omega); clear hk)
                | (go_at_call 21; (with_reducible refine (hKj3.out _ ?_).mono ?_); (first | assumption | exact (Below.refl _ _).drew | exact Below.drew (by assumption)); rintro e' wj3 ⟨rfl, hBj3, hbj3, hk⟩; have kaj3 := fun o => hk w.heap.size o (by omega); have kbj3 := fun o => hk (w.heap.size + 1) o (by omega); have ksj3 := fun o => hk (gs + 1) o (by omega); have kjj3 := fun o => hk (gs + 3) o (by omega); clear hk)
                | (go_at_call 21; (with_reducible refine (hKa3.out _ ?_).mono ?_); (first | assumption | exact (Below.refl _ _).drew | exact Below.drew (by assumption)); rintro e' wa3 ⟨rfl, hBa3, hba3, hk⟩; have kaa3 := fun o => hk w.heap.size o (by omega); have kba3 := fun o => hk (w.heap.size + 1) o (by omega); have ksa3 := fun o => hk (gs + 1) o (by omega); have kja3 := fun o => hk (gs + 3) o (by omega); clear hk)
                | (go_at_call 21; (with_reducible refine (hKb3.out _ ?_).mono ?_); (first | assumption | exact (Below.refl _ _).drew | exact Below.drew (by assumption)); rintro e' wb3 ⟨rfl, hBb3, hbb3, hk⟩; have kab3 := fun o => hk w.heap.size o (by omega); have kbb3 := fun o => hk (w.heap.size + 1) o (by omega); have ksb3 := fun o => hk (gs + 1) o (by omega); have kjb3 := fun o => hk (gs + 3) o (by omega); clear hk)
                | (go_at_call 18; (with_reducible refine (hKj4.out _ ?_).mono ?_); (first | assumption | exact (Below.refl _ _).drew | exact Below.drew (by assumption)); rintro e' wj4 ⟨⟨Aj4, qj4, rfl⟩, hBj4, hbj4, hk⟩; have kaj4 := fun o => hk w.heap.size o (by omega); have kbj4 := fun o => hk (w.heap.size + 1) o (by omega); have ksj4 := fun o => hk (gs + 1) o (by omega); have kjj4 := fun o => hk (gs + 3) o (by omega); clear hk)
                | (go_at_call 18; (with_reducible refine (hKa4.out _ ?_).mono ?_); (first | assumption | exact (Below.refl _ _).drew | exact Below.drew (by assumption)); rintro e' wa4 ⟨⟨Aa4, qa4, rfl⟩, hBa4, hba4, hk⟩; have kaa4 := fun o => hk w.heap.size o (by omega); have kba4 := fun o => hk (w.heap.size + 1) o (by omega); have ksa4 := fun o => hk (gs + 1) o (by omega); have kja4 := fun o => hk (gs + 3) o (by omega); clear hk)
                | (go_at_call 18; (with_reducible refine (hKb4.out _ ?_).mono ?_); (first | assumption | exact (Below.refl _ _).drew | exact Below.drew (by assumption)); rintro e' wb4 ⟨⟨Ab4, qb4, rfl⟩, hBb4, hbb4, hk⟩; have kab4 := fun o => hk w.heap.size o (by omega); have kbb4 := fun o => hk (w.heap.size + 1) o (by omega); have ksb4 := fun o => hk (gs + 1) o (by omega); have kjb4 := fun o => hk (gs + 3) o (by omega); clear hk))
                go_wp2
                go_meet
                exact ⟨rfl, hBb4⟩
              case rest =>
                obtain ⟨rfl, hbX3⟩ := hcut
                obtain ⟨X3, rfl⟩ : ∃ X3 : World, X3 = wc := ⟨_, rfl⟩
                clear w1 w2 w3 w4 w5 w6 hbX
                clear c0 c1 c2 c3 c4 c5 c6 c7 c8 d0 d1 d2 d3 d4 d5 d6 d7 d8 s0 s1 s2 s3 s4 s5 s6 s7 s8 j0 j1 j2 j3 j4 j5 j6 j7 j8
                have hx9 := (Hxa.out.keep HX7.out).keep hbX3
                have hy9 := (Hxb.out.keep HX7.out).keep hbX3
                have hs9 := Hbs3.out.keep hbX3
                have hj9 := Hbj3.out.keep hbX3
                have c0 := hx9.cell 0 _ rfl
                have d0 := hy9.cell 0 _ rfl
                have s0 := hs9.cell 0 _ rfl
                have j0 := hj9.cell 0 _ rfl
                have c1 := hx9.cell 1 _ rfl
                have d1 := hy9.cell 1 _ rfl
                have s1 := hs9.cell 1 _ rfl
                have j1 := hj9.cell 1 _ rfl
                have c2 := hx9.cell 2 _ rfl
                have d2 := hy9.cell 2 _ rfl
                have s2 := hs9.cell 2 _ rfl
                have j2 := hj9.cell 2 _ rfl
                have c3 := hx9.cell 3 _ rfl
                have d3 := hy9.cell 3 _ rfl
                have s3 := hs9.cell 3 _ rfl
                have j3 := hj9.cell 3 _ rfl
                have c4 := hx9.cell 4 _ rfl
                have d4 := hy9.cell 4 _ rfl
                have s4 := hs9.cell 4 _ rfl
                have j4 := hj9.cell 4 _ rfl
                have c5 := hx9.cell 5 _ rfl
                have d5 := hy9.cell 5 _ rfl
                have s5 := hs9.cell 5 _ rfl
                have j5 := hj9.cell 5 _ rfl
                have c6 := hx9.cell 6 _ rfl
                have d6 := hy9.cell 6 _ rfl
                have s6 := hs9.cell 6 _ rfl
                have j6 := hj9.cell 6 _ rfl
                have c7 := hx9.cell 7 _ rfl
                have d7 := hy9.cell 7 _ rfl
                have s7 := hs9.cell 7 _ rfl
                have j7 := hj9.cell 7 _ rfl
                have c8 := hx9.cell 8 _ rfl
                have d8 := hy9.cell 8 _ rfl
                have s8 := hs9.cell 8 _ rfl
                have j8 := hj9.cell 8 _ rfl
                clear hx9 hy9 hs9 hj9
                go_upto_region 11 with fail
                go_cut [6] (fun s6 wx => s6 = .bool true ∧ Below X.heap.size X wx)
                case first =>
                  go_region_held3 (fun w' => w'.cell? ⟨w.heap.size, 0, none⟩ = some (.int .i64 a.kind) ∧ w'.cell? ⟨w.heap.size, 1, none⟩ = some (.int .i64 a.fn) ∧ w'.cell? ⟨w.heap.size, 2, none⟩ = some (.int .i64 a.op) ∧ w'.cell? ⟨w.heap.size, 3, none⟩ = some (.int .i64 a.num) ∧ w'.cell? ⟨w.heap.size, 4, none⟩ = some (.string a.metric) ∧ w'.cell? ⟨w.heap.size, 5, none⟩ = some (.slice pm a.mats.length pm') ∧ w'.cell? ⟨w.heap.size, 6, none⟩ = some (.int .i64 a.span) ∧ w'.cell? ⟨w.heap.size, 7, none⟩ = some (.slice pn a.names.length pn') ∧ w'.cell? ⟨w.heap.size, 8, none⟩ = some (.slice pk a.kids.length pk') ∧ w'.cell? ⟨w.heap.size + 1, 0, none⟩ = some (.int .i64 b.kind) ∧ w'.cell? ⟨w.heap.size + 1, 1, none⟩ = some (.int .i64 b.fn) ∧ w'.cell? ⟨w.heap.size + 1, 2, none⟩ = some (.int .i64 b.op) ∧ w'.cell? ⟨w.heap.size + 1, 3, none⟩ = some (.int .i64 b.num) ∧ w'.cell? ⟨w.heap.size + 1, 4, none⟩ = some (.string b.metric) ∧ w'.cell? ⟨w.heap.size + 1, 5, none⟩ = some (.slice qm b.mats.length qm') ∧ w'.cell? ⟨w.heap.size + 1, 6, none⟩ = some (.int .i64 b.span) ∧ w'.cell? ⟨w.heap.size + 1, 7, none⟩ = some (.slice qn b.names.length qn') ∧ w'.cell? ⟨w.heap.size + 1, 8, none⟩ = some (.slice qk b.kids.length qk') ∧ w'.cell? ⟨gs + 1, 0, none⟩ = some (.int .i64 4) ∧ w'.cell? ⟨gs + 1, 1, none⟩ = some (.int .i64 0) ∧ w'.cell? ⟨gs + 1, 2, none⟩ = some (.int .i64 3) ∧ w'.cell? ⟨gs + 1, 3, none⟩ = some (.int .i64 m) ∧ w'.cell? ⟨gs + 1, 4, none⟩ = some (.string ⟨#[]⟩) ∧ w'.cell? ⟨gs + 1, 5, none⟩ = some (.slice none 0 0) ∧ w'.cell? ⟨gs + 1, 6, none⟩ = some (.int .i64 0) ∧ w'.cell? ⟨gs + 1, 7, none⟩ = some (.slice none 0 0) ∧ w'.cell? ⟨gs + 1, 8, none⟩ = some (.slice (some ⟨gs, 0, none⟩) 1 1) ∧ w'.cell? ⟨gs + 3, 0, none⟩ = some (.int .i64 3) ∧ w'.cell? ⟨gs + 3, 1, none⟩ = some (.int .i64 0) ∧ w'.cell? ⟨gs + 3, 2, none⟩ = some (.int .i64 2) ∧ w'.cell? ⟨gs + 3, 3, none⟩ = some (.int .i64 0) ∧ w'.cell? ⟨gs + 3, 4, none⟩ = some (.string ⟨#[]⟩) ∧ w'.cell? ⟨gs + 3, 5, none⟩ = some (.slice none 0 0) ∧ w'.cell? ⟨gs + 3, 6, none⟩ = some (.int .i64 0) ∧ w'.cell? ⟨gs + 3, 7, none⟩ = some (.slice none 0 0) ∧ w'.cell? ⟨gs + 3, 8, none⟩ = some (.slice (some ⟨gs + 2, 0, none⟩) 2 2)) (go_keep)
                    (first
                | (go_at_call 22; (with_reducible refine (hKf.out _ ?_).mono ?_); (first | assumption | exact (Below.refl _ _).drew | exact Below.drew (by assumption)); rintro e' wf ⟨rfl, hBf, hbf, hk⟩; have kaf := fun o => hk w.heap.size o (by omega); have kbf := fun o => hk (w.heap.size + 1) o (by omega); have ksf := fun o => hk (gs + 1) o (by omega); have kjf := fun o => hk (gs + 3) o (by omega); clear hk)
                | (go_at_call 22; (with_reducible refine (hKg.out _ ?_).mono ?_); (first | assumption | exact (Below.refl _ _).drew | exact Below.drew (by assumption)); rintro e' wg ⟨rfl, hBg, hbg, hk⟩; have kag := fun o => hk w.heap.size o (by omega); have kbg := fun o => hk (w.heap.size + 1) o (by omega); have ksg := fun o => hk (gs + 1) o (by omega); have kjg := fun o => hk (gs + 3) o (by omega); clear hk)
                | (go_at_call 23; (with_reducible refine (hKh.out _ ?_).mono ?_); (first | assumption | exact (Below.refl _ _).drew | exact Below.drew (by assumption)); rintro e' wh ⟨rfl, hBh, hbh, hk⟩; have kah := fun o => hk w.heap.size o (by omega); have kbh := fun o => hk (w.heap.size + 1) o (by omega); have ksh := fun o => hk (gs + 1) o (by omega); have kjh := fun o => hk (gs + 3) o (by omega); clear hk)
                | (go_at_call 23; (with_reducible refine (hKi.out _ ?_).mono ?_); (first | assumption | exact (Below.refl _ _).drew | exact Below.drew (by assumption)); rintro e' wi ⟨rfl, hBi, hbi, hk⟩; have kai := fun o => hk w.heap.size o (by omega); have kbi := fun o => hk (w.heap.size + 1) o (by omega); have ksi := fun o => hk (gs + 1) o (by omega); have kji := fun o => hk (gs + 3) o (by omega); clear hk)
                | (go_at_call 23; (with_reducible refine (hKj.out _ ?_).mono ?_); (first | assumption | exact (Below.refl _ _).drew | exact Below.drew (by assumption)); rintro e' wj ⟨rfl, hBj, hbj, hk⟩; have kaj := fun o => hk w.heap.size o (by omega); have kbj := fun o => hk (w.heap.size + 1) o (by omega); have ksj := fun o => hk (gs + 1) o (by omega); have kjj := fun o => hk (gs + 3) o (by omega); clear hk))
                  go_wp2
                  go_meet
                  exact ⟨rfl, hBj⟩
                case rest =>
                  obtain ⟨rfl, hbX4⟩ := hcut
                  go_wp2
                  go_ret
                  exact ⟨rfl, Hbw.out.trans ((HX7.out.trans (hbX4.mono HX7.out.size)).mono hsw)⟩
          · have hd : (checkExpr b != 0) = true := by simpa using hcb
            go_wp2
            go_ret
            exact ⟨rfl, Hbw.out.trans (HX5.out.mono hsw)⟩
        · have hd : (checkExpr a != 0) = true := by simpa using hca
          go_wp2
          go_ret
          exact ⟨rfl, Hbw.out.trans (HX4.out.mono hsw)⟩

end Go.Proofs.Ytikaiiamoaahdaa

