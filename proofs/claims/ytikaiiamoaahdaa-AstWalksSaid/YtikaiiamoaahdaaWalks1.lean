/- AstWalks: the walk. -/
import Derived.Test.YtikaiiamoaahdaaWalks0
import Derived.Test.YtikaiiamoaahdaaLives
import Derived.Test.YtikaiiamoaahdaaKit3
import Derived.Deep.RegionHeld3
namespace Go.Proofs.Ytikaiiamoaahdaa
open Go.Shelf
open Go.RowKit
set_option linter.unusedSimpArgs false
set_option linter.unusedVariables false

/-- What holds of the list that Walk's function fills. -/
def WlJ (n base lb kb : Nat) (k : Int) (w0 : World) (b : Bool) (l : List Ex) (W : World) : Prop :=
  ∃ v, Boxed W lb 24 v ∧ Own n base W v l ∧ Boxed W kb 3 (.int .i64 k) ∧ Below base w0 W ∧ base ≤ W.heap.size ∧ (l = [] → b = true) ∧ (l ≠ [] → b = decide ((l.length : Int) < k)) ∧ ((l.length : Int) ≤ max 1 k)

theorem wlWatch {B n base lb kb : Nat} {k : Int} {w0 : World} (hn : n ≤ base) (hb : base ≤ lb) (hlk : lb ≠ kb) (hl : lb < B) (hk : kb < B) : Watch B n (Vl n lb 24) (Xl lb) (WlJ n base lb kb k w0) where
  dirty := dirtyL
  jv := by
    rintro b l W ⟨v, h1, ⟨rows, g1, g2, g3⟩, h3⟩
    refine ⟨by omega, v, h1, fun j hj => ?_⟩
    obtain ⟨cs, hcs⟩ := ownsRow_cells g1 j hj
    exact ⟨Nat.le_trans hn (ownsRow_block g1 j hj).1, cs, _, hcs⟩
  cells := by
    rintro b l W j ⟨v, h1, ⟨rows, g1, g2, g3⟩, h3⟩ hx
    rcases hx with rfl | ⟨v', hv', hj⟩
    · exact ⟨_, h1, rfl⟩
    · rw [h1.cell] at hv'; cases hv'
      obtain ⟨cs, hcs⟩ := ownsRow_cells g1 j hj
      exact ⟨_, hcs, rfl⟩
  keep := by
    rintro b l W W' ⟨v, h1, ⟨rows, g1, g2, g3⟩, h3, h4, h5, h6⟩ hs
    have hbW : Below n W W' := ⟨hs.os, hs.tape, hs.output, hs.size, fun j hj => hs.block j (by omega) (.inl (by omega))⟩
    refine ⟨v, (hs.block lb h1.lt (.inr (.inl rfl))).trans h1, ⟨rows, ⟨g1.1, ?_⟩, g2, fun j r e hr he => (g3 j r e hr he).mono hbW (Nat.le_refl _)⟩, (hs.block kb h3.lt (.inl hk)).trans h3, h4.trans ⟨hs.os, hs.tape, hs.output, hs.size, fun j hj => hs.block j (by omega) (.inl (by omega))⟩, Nat.le_trans h5 hs.size, h6⟩
    rcases g1.2 with h | ⟨g, cap, cur, rfl, hg, hh, q⟩
    · exact .inl h
    · exact .inr ⟨g, cap, cur, rfl, hg, (hs.block g (Array.getElem?_eq_some_iff.1 hh).1 (.inr (.inr ⟨_, h1.cell, rfl⟩))).trans hh, q⟩
  xs := by
    rintro b l W W' j ⟨v, h1, h2⟩ hs hx
    rcases hx with rfl | ⟨v', hv', hj⟩
    · exact .inl rfl
    · have : Boxed W' lb 24 v := (hs.block lb h1.lt (.inr (.inl rfl))).trans h1
      rw [this.cell] at hv'; cases hv'
      exact .inr ⟨v, h1.cell, hj⟩

theorem wlEach {n base lb kb N : Nat} {k : Int} {w0 : World} (hn : n ≤ base) (hb : base ≤ lb) (hlk : lb ≠ kb) (hN : N ≤ 1000000) (pre : List Ex) (x : Ex) (r : List Value) (W : World) (hj : WlJ n base lb kb k w0 true pre W) (hx : IsEx n W x r) (hpre : pre.length < N) :
    Calls Try.prog 13 (#[.agg r.toArray] ++ #[.pointer (some ⟨lb, 0, none⟩), .pointer (some ⟨kb, 0, none⟩)]) W fun e' W' => ∃ b, e' = .returned (.bool b) ∧ WlJ n base lb kb k w0 b (pre ++ [x]) W' ∧ (∀ B, KeepsFrom B W W') ∧ KpX (Vl n lb 24) (Xl lb) W W' := by
  obtain ⟨v, h1, h2, h3, h4, h5, h6, h7, h8⟩ := hj
  refine (lWalks1 x r n base lb kb k v pre W hx h1 h3 h2 hlk hn hb h5 (by omega)).mono ?_
  rintro e' W' ⟨rfl, v', p1, p2, p3, p4⟩
  obtain ⟨rows, g1, g2, g3⟩ := h2
  obtain ⟨rows', g1', g2', g3'⟩ := p2
  have hpost := fun B => two_post (n₀ := n) (B := B) p3 h1 p1 g1 g1' p4 (by omega) hn
  have hkb : Boxed W' kb 3 (.int .i64 k) := (p3.block kb h3.lt hlk.symm (h3.not_row (by decide) g1)).trans h3
  refine ⟨_, rfl, ⟨v', p1, ⟨rows', g1', g2', g3'⟩, hkb, p3.below h4 h5 hb (fun j hj => (ownsRow_block g1 j hj).1), Nat.le_trans h5 p3.size, by simp, fun _ => by simp, ?_⟩, fun B => (hpost B).1, (hpost 0).2⟩
  simp only [List.length_append, List.length_cons, List.length_nil]
  by_cases hp : pre = []
  · subst hp; simp; omega
  · have := h7 hp
    simp only [true_eq_decide_iff] at this
    omega

theorem IsExs.getE' {n : Nat} {w : World} {p : Option Addr} {len cap : Nat} {l : List Ex} (h : IsExs n w (.slice p len cap) l) (hlen : len = l.length) {k : Nat} (hk : k < l.length) :
    ∃ b off pm cm pn cn pk ck, p = some ⟨b, off, none⟩ ∧ b < n ∧ IsEx n w l[k] [.int .i64 l[k].kind, .int .i64 l[k].fn, .int .i64 l[k].op, .int .i64 l[k].num, .string l[k].metric, .slice pm l[k].mats.length cm, .int .i64 l[k].span, .slice pn l[k].names.length cn, .slice pk l[k].kids.length ck] ∧
      w.cell? ⟨b, off + k * 9, none⟩ = some (.int .i64 l[k].kind) ∧ w.cell? ⟨b, off + k * 9 + 1, none⟩ = some (.int .i64 l[k].fn) ∧ w.cell? ⟨b, off + k * 9 + 2, none⟩ = some (.int .i64 l[k].op) ∧ w.cell? ⟨b, off + k * 9 + 3, none⟩ = some (.int .i64 l[k].num) ∧ w.cell? ⟨b, off + k * 9 + 4, none⟩ = some (.string l[k].metric) ∧ w.cell? ⟨b, off + k * 9 + 5, none⟩ = some (.slice pm l[k].mats.length cm) ∧ w.cell? ⟨b, off + k * 9 + 6, none⟩ = some (.int .i64 l[k].span) ∧ w.cell? ⟨b, off + k * 9 + 7, none⟩ = some (.slice pn l[k].names.length cn) ∧ w.cell? ⟨b, off + k * 9 + 8, none⟩ = some (.slice pk l[k].kids.length ck) :=
  h.getE (Cells.refl _ _) hk
theorem Own.slice {n base : Nat} {w : World} {v : Value} {l : List Ex} (h : Own n base w v l) : ∃ A c, v = .slice A l.length c := by
  obtain ⟨rows, h1, _⟩ := h
  exact ownsRow_slice h1
/-- What has been told, and whether it is all. -/
theorem wl_end {e : Ex} {l : List Ex} {b : Bool} {k : Int} (p6 : l = [] → b = true) (p7 : l ≠ [] → b = decide ((l.length : Int) < k)) (p8 : (l.length : Int) ≤ max 1 k) (q1 : b = true → l = e.flat) (q2 : b = false → l <+: e.flat) :
    ((b = true ∧ (e.size : Int) < k ∧ l.length = e.size) ∨ (b = false ∧ ¬ (e.size : Int) < k ∧ (l.length : Int) = max 1 k ∧ l.length ≤ e.size)) ∧ l <+: e.flat := by
  have hfl := flat_length e
  have hep := e.size_pos
  cases b with
  | true =>
    have h := q1 rfl
    have hne : l ≠ [] := by intro h0; rw [h0] at h; rw [← h] at hfl; simp at hfl; omega
    have h7 := p7 hne
    simp only [true_eq_decide_iff] at h7
    have hl : l.length = e.size := by rw [h]; exact hfl
    exact ⟨.inl ⟨rfl, by omega, hl⟩, by rw [h]; exact List.prefix_refl _⟩
  | false =>
    have h := q2 rfl
    have hne : l ≠ [] := by intro h0; have := p6 h0; cases this
    have h7 := p7 hne
    simp only [false_eq_decide_iff] at h7
    have hl := h.length_le
    rw [hfl] at hl
    have hpos : 0 < l.length := List.length_pos_iff.2 hne
    exact ⟨.inr ⟨rfl, by omega, by omega, hl⟩, h⟩

set_option maxRecDepth 100000 in
set_option maxHeartbeats 4000000 in
theorem wWalks (e : Ex) (cs : List Value) (n : Nat) (w : World) (hn : n ≤ w.heap.size) (he : IsEx n w e cs) (m : Int) (hm : -9223372036854775808 ≤ m ∧ m ≤ 9223372036854775807) :
    Calls Try.prog 3 #[.agg cs.toArray, .int .i64 m] w fun e' w' => e' = .returned (.bool true) ∧ Below w.heap.size w w' := by
  obtain ⟨pm, cm, pn, cn, pk, ck, rfl, -⟩ := he.cellsE
  have He := Lib.hid he; clear he
  obtain ⟨hm1, hm2⟩ := hm
  go_enter Try.func3, Try.ntmps3; (try simp only [List.append_eq, List.cons_append, List.nil_append])
  go_upto_region 0 with fail
  go_cut [2, 4] (fun s2 s4 wx => s2 = .pointer (some ⟨w.heap.size, 0, none⟩) ∧ Below w.heap.size w wx ∧ Blk wx w.heap.size 26 [.int .i64 e.kind, .int .i64 e.fn, .int .i64 e.op, .int .i64 e.num, .string e.metric, .slice pm e.mats.length cm, .int .i64 e.span, .slice pn e.names.length cn, .slice pk e.kids.length ck])
  case first =>
    go_wp2
    go_meet
    exact ⟨rfl, (Below.refl _ _).alloc (Nat.le_refl _) _, Blk.new _ _ _⟩
  case rest =>
    obtain ⟨rfl, hbw, hbox⟩ := hcut
    obtain ⟨W, rfl⟩ : ∃ W : World, W = wc := ⟨_, rfl⟩
    have hlt := hbox.lt
    have hsw := hbw.size
    have Hbox := Lib.hid hbox; clear hbox
    have Hbw := Lib.hid hbw; clear hbw
    go_wp2_with fail
    refine (wLives _).mono ?_
    rintro e' W1 ⟨rfl, hb1⟩
    have hs1 := hb1.size
    have hbx1 := Hbox.out.keep hb1
    have Hb1 := Lib.hid hb1; clear hb1
    have c0 := hbx1.cell 0 _ rfl
    have c1 := hbx1.cell 1 _ rfl
    have c2 := hbx1.cell 2 _ rfl
    have c3 := hbx1.cell 3 _ rfl
    have c4 := hbx1.cell 4 _ rfl
    have c5 := hbx1.cell 5 _ rfl
    have c6 := hbx1.cell 6 _ rfl
    have c7 := hbx1.cell 7 _ rfl
    have c8 := hbx1.cell 8 _ rfl
    clear hbx1
    go_wp2_with fail
    refine (kLight e _ 400 n _ (by omega) (by decide) (by decide) (He.out.mono ((Hbw.out.trans (Hb1.out.mono hsw)).mono hn) (Nat.le_refl _))).mono ?_
    rintro e' W2 ⟨rfl, hb2⟩
    have hbx2 := (Hbox.out.keep Hb1.out).keep hb2
    clear c0 c1 c2 c3 c4 c5 c6 c7 c8
    have HB2 := Lib.hid ((Hbw.out.trans (Hb1.out.mono hsw)).trans (hb2.mono (by omega)))
    have hs2 := hb2.size
    clear hb2
    cases hlg : light e 400 with
    | false =>
      clear hbx2
      go_wp2
      go_ret
      exact ⟨rfl, HB2.out⟩
    | true =>
      have hsz := light_size hlg (by decide)
      clear hlg
      have c0 := hbx2.cell 0 _ rfl
      have c1 := hbx2.cell 1 _ rfl
      have c2 := hbx2.cell 2 _ rfl
      have c3 := hbx2.cell 3 _ rfl
      have c4 := hbx2.cell 4 _ rfl
      have c5 := hbx2.cell 5 _ rfl
      have c6 := hbx2.cell 6 _ rfl
      have c7 := hbx2.cell 7 _ rfl
      have c8 := hbx2.cell 8 _ rfl
      have Hbx2 := Lib.hid hbx2; clear hbx2
      go_wp2_with fail
      refine (rWalked e _ n _ (by omega) (He.out.mono (HB2.out.mono hn) (Nat.le_refl _)) (by omega)).mono ?_
      rintro e' W3 ⟨v3, rfl, hown3, hb3⟩
      have hfl := flat_length e
      have hs3 := hb3.size
      have hep := e.size_pos
      have hbx3 := Hbx2.out.keep hb3
      clear c0 c1 c2 c3 c4 c5 c6 c7 c8
      have c0 := hbx3.cell 0 _ rfl
      have c1 := hbx3.cell 1 _ rfl
      have c2 := hbx3.cell 2 _ rfl
      have c3 := hbx3.cell 3 _ rfl
      have c4 := hbx3.cell 4 _ rfl
      have c5 := hbx3.cell 5 _ rfl
      have c6 := hbx3.cell 6 _ rfl
      have c7 := hbx3.cell 7 _ rfl
      have c8 := hbx3.cell 8 _ rfl
      have Hbx3 := Lib.hid hbx3; clear hbx3
      have HB3 := Lib.hid (HB2.out.trans (hb3.mono (by omega))); clear hb3
      have hex3 := hown3.exs (m := W3.heap.size) (Nat.le_refl _) (by omega)
      clear hown3
      obtain ⟨q3, cq3, rfl, _, _, _⟩ := hex3.open
      have Hex3 := Lib.hid hex3; clear hex3
      rw [hfl] at *
      have hkb := pick_bd m (e.size + 2) (by omega)
      obtain ⟨hk1, hk2⟩ := hkb
      go_upto_region 8 with (go_at_call 11; refine (kPick m ((e.size : Int) + 2) _ ⟨hm1, hm2⟩ (by omega)).mono ?_; rintro e' w' ⟨rfl, rfl⟩; generalize hpk : pick m ((e.size : Int) + 2) = k at hk1 hk2 ⊢; clear hpk)
      clear c0 c1 c2 c3 c4 c5 c6 c7 c8
      obtain ⟨W4, hW4⟩ : ∃ W4, (W3.alloc (.cells #[.int .i64 k] 3)).alloc (.cells #[.slice none 0 0] 24) = W4 := ⟨_, rfl⟩
      have hb4 : Below W3.heap.size W3 W4 := by rw [← hW4]; exact ((Below.refl _ _).alloc (Nat.le_refl _) _).alloc (by simp) _
      have hs4 : W4.heap.size = W3.heap.size + 2 := by rw [← hW4]; simp
      have hk4 : Boxed W4 W3.heap.size 3 (.int .i64 k) := by rw [← hW4]; exact (Boxed.new W3 _ _).alloc _
      have hl4 : Boxed W4 (W3.heap.size + 1) 24 (.slice none 0 0) := by
        have := Boxed.new (W3.alloc (.cells #[.int .i64 k] 3)) 24 (.slice none 0 0)
        rw [hW4] at this
        simpa using this
      rw [hW4]
      clear hW4
      have Hs4 := Lib.hid hs4; clear hs4
      have Hb4 := Lib.hid hb4; clear hb4
      have hbx4 := Hbx3.out.keep Hb4.out
      have c0 := hbx4.cell 0 _ rfl
      have c1 := hbx4.cell 1 _ rfl
      have c2 := hbx4.cell 2 _ rfl
      have c3 := hbx4.cell 3 _ rfl
      have c4 := hbx4.cell 4 _ rfl
      have c5 := hbx4.cell 5 _ rfl
      have c6 := hbx4.cell 6 _ rfl
      have c7 := hbx4.cell 7 _ rfl
      have c8 := hbx4.cell 8 _ rfl
      clear hbx4
      have hJ0 : WlJ n W3.heap.size (W3.heap.size + 1) W3.heap.size k W4 true [] W4 := ⟨_, hl4, Own.nil, hk4, Below.refl _ _, Hb4.out.size, fun _ => rfl, by simp, by simp; omega⟩
      have HJ0 := Lib.hid hJ0; clear hJ0
      clear hk4 hl4
      go_upto_region 9 with (go_at_call 12; refine (aWalk e _ n W4 (by have := Hs4.out; omega) (He.out.mono (HB3.out.mono hn |>.trans (Hb4.out.mono (by omega))) (Nat.le_refl _)) (wlWatch (by omega) (by omega) (by omega) (by have := Hs4.out; omega) (by have := Hs4.out; omega)) 13 _ (enters_of Try.func13 (by kernel_rfl) rfl) HJ0.out (fun pre x r X hj hx _ _ hp => wlEach (N := e.size) (by omega) (by omega) (by omega) (by omega) pre x r X hj hx hp)).mono ?_; rintro e' w5 ⟨b, l, rfl, ⟨v, p1, p2, p3, p4, p5, p6, p7, p8⟩, q1, q2⟩; have hk5 := p3.cell; have hend := wl_end p6 p7 p8 q1 q2; have hl5 := p1.cell; obtain ⟨A, cv, hv⟩ := p2.slice; rw [hv] at hl5; have P2 := Lib.hid p2; have P4 := Lib.hid p4; have Hv := Lib.hid hv; clear c0 c1 c2 c3 c4 c5 c6 c7 c8 p1 p2 p3 p4 p6 p7 p8 q1 q2 hv)
      obtain ⟨hcase, hpre⟩ := hend
      have hs5 := p5
      clear p5
      have HB5 := Lib.hid (HB3.out.trans ((Hb4.out.mono (by omega)).trans (P4.out.mono (by omega))))
      have hll : l.length ≤ e.size := by have := hpre.length_le; omega
      have hl1 : 1 ≤ l.length := by rcases hcase with h | h <;> omega
      obtain ⟨L, hL⟩ : ∃ L, l.length = L := ⟨_, rfl⟩
      rw [hL] at hl5 hcase hll hl1
      have HL := Lib.hid hL; clear hL
      have Hpre := Lib.hid hpre; clear hpre
      go_cut [4, 9, 26, 27, 28, 29, 30, 31, 32, 33, 34, 35, 36, 37, 38, 39, 40, 41, 42] (fun s4 s9 s26 s27 s28 s29 s30 s31 s32 s33 s34 s35 s36 s37 s38 s39 s40 s41 s42 wx => s9 = .int .i64 L ∧ wx = w5)
      case first =>
        rcases hcase with ⟨rfl, h1, h2⟩ | ⟨rfl, h1, h2, h3⟩
        all_goals
          go_wp2
          all_goals go_meet
          all_goals exact ⟨by go_num, rfl⟩
      case rest =>
        obtain ⟨rfl, rfl⟩ := hcut
        have hLd : (∃ d : Bool, b = d ∧ decide ((e.size : Int) < k) = d) := by
          rcases hcase with ⟨rfl, h1, h2⟩ | ⟨rfl, h1, h2, h3⟩
          · exact ⟨true, rfl, by simpa using h1⟩
          · exact ⟨false, rfl, by simpa using h1⟩
        obtain ⟨d, rfl, hd⟩ := hLd
        clear hcase
        have hex5 : IsExs wc.heap.size wc (.slice A L cv) l := by
          have := P2.out.exs (m := wc.heap.size) (Nat.le_refl _) (by omega)
          rw [Hv.out, HL.out] at this
          exact this
        have Hex5 := Lib.hid hex5; clear hex5
        have hbl5 := World.block_lt_of_cell? wc _ hl5
        cases b
        all_goals
          go_wp2
          go_loopw [10] (fun i wr => ∃ k2 : Nat, k2 ≤ L ∧ i = .int .i64 k2 ∧ Below wc.heap.size wc wr) (fun i _ => L - (intOf i).toNat)
          case atStart => exact ⟨0, Nat.zero_le _, rfl, Below.refl _ _⟩
          case round =>
            obtain ⟨k2, hk2', rfl, hbr⟩ := hrel
            have hlr : wr.cell? ⟨W3.heap.size + 1, 0, none⟩ = some (.slice A L cv) := (hbr.cell (p := ⟨W3.heap.size + 1, 0, none⟩) hbl5).trans hl5
            have hszr := hbr.size
            have Hbr := Lib.hid hbr; clear hbr
            by_cases hlt2 : k2 < L
            · have hlt3 : k2 < l.length := by rw [HL.out]; exact hlt2
              have hlt4 : k2 < e.flat.length := by have := Hpre.out.length_le; omega
              obtain ⟨b1, off1, pm1, cm1, pn1, cn1, pk1, ck1, hA1, hbn1, hei1, g0, g1, g2, g3, g4, g5, g6, g7, g8⟩ := (Hex5.out.mono Hbr.out (Nat.le_refl _)).getE' HL.out.symm hlt3
              obtain ⟨b2, off2, pm2, cm2, pn2, cn2, pk2, ck2, hA2, hbn2, hei2, i0, i1, i2, i3, i4, i5, i6, i7, i8⟩ := (Hex3.out.mono ((Hb4.out.trans (P4.out.mono (by omega))).trans (Hbr.out.mono (by omega))) (show W3.heap.size ≤ wc.heap.size by omega)).getE' (flat_length e).symm hlt4
              subst hA1 hA2
              have hsame : l[k2] = e.flat[k2] := by
                obtain ⟨t, ht⟩ := Hpre.out
                have : (l ++ t)[k2]? = e.flat[k2]? := by rw [ht]
                rw [List.getElem?_append_left hlt3, List.getElem?_eq_getElem hlt3, List.getElem?_eq_getElem hlt4] at this
                exact Option.some.inj this
              have Hsame := Lib.hid (show decide (l[k2] = e.flat[k2]) = true from by rw [hsame]; simp); clear hsame
              have hC : ∀ X, (X = wr ∨ X = wr.drew) → Calls Try.prog 14 #[.agg ([.int .i64 l[k2].kind, .int .i64 l[k2].fn, .int .i64 l[k2].op, .int .i64 l[k2].num, .string l[k2].metric, .slice pm1 l[k2].mats.length cm1, .int .i64 l[k2].span, .slice pn1 l[k2].names.length cn1, .slice pk1 l[k2].kids.length ck1]).toArray, .agg ([.int .i64 e.flat[k2].kind, .int .i64 e.flat[k2].fn, .int .i64 e.flat[k2].op, .int .i64 e.flat[k2].num, .string e.flat[k2].metric, .slice pm2 e.flat[k2].mats.length cm2, .int .i64 e.flat[k2].span, .slice pn2 e.flat[k2].names.length cn2, .slice pk2 e.flat[k2].kids.length ck2]).toArray] X fun e' w' => e' = .returned (.bool true) ∧ Below wr.heap.size wr w' ∧ (∀ o, w'.cell? ⟨W3.heap.size + 1, o, none⟩ = X.cell? ⟨W3.heap.size + 1, o, none⟩) ∧ (∀ o, w'.cell? ⟨b1, o, none⟩ = X.cell? ⟨b1, o, none⟩) ∧ (∀ o, w'.cell? ⟨b2, o, none⟩ = X.cell? ⟨b2, o, none⟩) := by
                intro X hX
                have hXb : Below wr.heap.size wr X := by
                  rcases hX with rfl | rfl
                  · exact Below.refl _ _
                  · exact (Below.refl _ _).drew
                have hXs := hXb.size
                refine (kExpr _ _ _ _ wc.heap.size X (by omega) (hei1.mono (hXb.mono hszr) (Nat.le_refl _)) (hei2.mono (hXb.mono hszr) (Nat.le_refl _))).mono ?_
                rintro e' w' ⟨rfl, hb⟩
                exact ⟨ret_bool Hsame.out, hXb.trans (hb.mono hXs), fun o => hb.cell (p := ⟨_, o, none⟩) (by simp; omega), fun o => hb.cell (p := ⟨_, o, none⟩) (by simp; omega), fun o => hb.cell (p := ⟨_, o, none⟩) (by simp; omega)⟩
              have HC := Lib.hid hC; clear hC hei1 hei2
              have hi1 : (0 : Int) ≤ (k2 : Int) := by omega
              have hi2 : (k2 : Int) < (e.size : Int) := by omega
              have hi3 : k2 < e.size := by omega
              go_upto_region 15 with fail
              go_region_held3 (fun w' => w'.cell? ⟨W3.heap.size + 1, 0, none⟩ = some (.slice (some ⟨b1, off1, none⟩) L cv) ∧ w'.cell? ⟨b1, off1 + k2 * 9, none⟩ = some (.int .i64 l[k2].kind) ∧ w'.cell? ⟨b1, off1 + k2 * 9 + 1, none⟩ = some (.int .i64 l[k2].fn) ∧ w'.cell? ⟨b1, off1 + k2 * 9 + 2, none⟩ = some (.int .i64 l[k2].op) ∧ w'.cell? ⟨b1, off1 + k2 * 9 + 3, none⟩ = some (.int .i64 l[k2].num) ∧ w'.cell? ⟨b1, off1 + k2 * 9 + 4, none⟩ = some (.string l[k2].metric) ∧ w'.cell? ⟨b1, off1 + k2 * 9 + 5, none⟩ = some (.slice pm1 l[k2].mats.length cm1) ∧ w'.cell? ⟨b1, off1 + k2 * 9 + 6, none⟩ = some (.int .i64 l[k2].span) ∧ w'.cell? ⟨b1, off1 + k2 * 9 + 7, none⟩ = some (.slice pn1 l[k2].names.length cn1) ∧ w'.cell? ⟨b1, off1 + k2 * 9 + 8, none⟩ = some (.slice pk1 l[k2].kids.length ck1) ∧ w'.cell? ⟨b2, off2 + k2 * 9, none⟩ = some (.int .i64 e.flat[k2].kind) ∧ w'.cell? ⟨b2, off2 + k2 * 9 + 1, none⟩ = some (.int .i64 e.flat[k2].fn) ∧ w'.cell? ⟨b2, off2 + k2 * 9 + 2, none⟩ = some (.int .i64 e.flat[k2].op) ∧ w'.cell? ⟨b2, off2 + k2 * 9 + 3, none⟩ = some (.int .i64 e.flat[k2].num) ∧ w'.cell? ⟨b2, off2 + k2 * 9 + 4, none⟩ = some (.string e.flat[k2].metric) ∧ w'.cell? ⟨b2, off2 + k2 * 9 + 5, none⟩ = some (.slice pm2 e.flat[k2].mats.length cm2) ∧ w'.cell? ⟨b2, off2 + k2 * 9 + 6, none⟩ = some (.int .i64 e.flat[k2].span) ∧ w'.cell? ⟨b2, off2 + k2 * 9 + 7, none⟩ = some (.slice pn2 e.flat[k2].names.length cn2) ∧ w'.cell? ⟨b2, off2 + k2 * 9 + 8, none⟩ = some (.slice pk2 e.flat[k2].kids.length ck2)) (go_keep)
                ((go_at_call 14; refine (HC.out _ (by first | exact .inl rfl | exact .inr rfl)).mono ?_; rintro e' w6 ⟨rfl, hb6, k6, k7, k8⟩))
              have Hb6 := Lib.hid hb6
              clear k6 k7 k8 hb6
              go_wp2
              exact ⟨⟨k2 + 1, by omega, by go_num, Hbr.out.trans (Hb6.out.mono hszr)⟩, by simp [intOf]; omega⟩
            · go_wp2
              go_ret
              exact ⟨rfl, HB5.out.trans (Hbr.out.mono (by have := HB5.out.size; omega))⟩

end Go.Proofs.Ytikaiiamoaahdaa
