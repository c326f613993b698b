/- waterwheellaw06.spoil. -/
import Derived.Test.YtikaiiamoaahdaaSpoil0
namespace Go.Proofs.Ytikaiiamoaahdaa
open Go.RowKit
set_option linter.unusedSimpArgs false
set_option linter.unusedVariables false

/-- One row of such a list, as it lies. -/
theorem Rws.at {lo hi sz : Nat} {w : World} {A : Option Addr} {n c : Nat} {R : List Value → Prop} (h : Rws lo hi w (.slice A n c) sz R) {k : Nat} (hk : k < n) :
    ∃ (g : Nat) (r : List Value), A = some ⟨g, 0, none⟩ ∧ lo ≤ g ∧ g < hi ∧ r.length = sz ∧ R r ∧ (∀ (j : Nat) (x : Value), r[j]? = some x → w.cell? ⟨g, k * sz + j, none⟩ = some x) ∧ ∀ o, w.frozen? ⟨g, o, none⟩ = false := by
  obtain ⟨A', n', c', hv, hl, h⟩ := h
  cases hv
  obtain ⟨g, C, t, hA, h1, h2, h3, h4⟩ := h (by omega)
  obtain ⟨r, hr, hRr, hc⟩ := h4 k hk
  exact ⟨g, r, hA, h1, h2, hr, hRr, fun j x hx => by rw [cell_of_row w g _ C t (0, 0) h3]; exact hc j x hx, fun o => frozen_of_row w g o C t h3⟩
theorem Rws.len {lo hi sz : Nat} {w : World} {A : Option Addr} {n c : Nat} {R : List Value → Prop} (h : Rws lo hi w (.slice A n c) sz R) : n ≤ 1000000 := by
  obtain ⟨A', n', c', hv, hl, h⟩ := h
  cases hv
  exact hl
theorem Spo.box {lo hi : Nat} {w w' : World} (h : Spo lo hi w w') {B : Nat} {cs : List Value} (hb : Box w B cs) (hB : hi ≤ B) : Box w' B cs :=
  ⟨Nat.lt_of_lt_of_le hb.1 h.size, fun j x hx => by rw [World.cell?_of_block (w := w) (h.out B hb.1 (.inr hB))]; exact hb.2 j x hx⟩

set_option maxRecDepth 100000 in
set_option maxHeartbeats 2000000 in
theorem spoilC (lo hi : Nat) : ∀ (d : Nat) (cs : List Value) (w : World), Shp lo hi w d cs → hi ≤ w.heap.size →
    Calls Try.prog 35 #[.agg cs.toArray] w fun e' w' => (∃ u, e' = .returned u) ∧ Spo lo hi w w' := by
  intro d
  induction d with
  | zero => intro cs w h; exact h.elim
  | succ d ih =>
    rintro cs w ⟨x0, x1, x2, x3, x4, vm, x6, vn, vk, rfl, hm, hn, hk⟩ hhi
    obtain ⟨Am, lm, cm, rfl, -⟩ := id hm
    obtain ⟨An, ln, cn, rfl, -⟩ := id hn
    obtain ⟨Ak, lk, ck, rfl, -⟩ := id hk
    have hlm := hm.len
    have hln := hn.len
    have hlk := hk.len
    have Hm := Lib.hid hm; clear hm
    have Hn := Lib.hid hn; clear hn
    have Hk := Lib.hid hk; clear hk
    have Hih := Lib.hid ih; clear ih
    go_enter Try.func35, Try.ntmps35; (try simp only [List.append_eq, List.cons_append, List.nil_append])
    go_upto_region 0 with fail
    go_cut [1] (fun s1 wx => s1 = .pointer (some ⟨w.heap.size, 0, none⟩) ∧ Below w.heap.size w wx ∧ Box wx w.heap.size [.int .i64 x0, .int .i64 x1, .int .i64 x2, .int .i64 x3, .string x4, .slice Am lm cm, .int .i64 x6, .slice An ln cn, .slice Ak lk ck])
    case first =>
      go_wp2
      go_meet
      exact ⟨rfl, (Below.refl _ _).alloc (Nat.le_refl _) _, Box.new _ _ _⟩
    case rest =>
      obtain ⟨rfl, hbw, hbox⟩ := hcut
      obtain ⟨W, rfl⟩ : ∃ W : World, W = wc := ⟨_, rfl⟩
      have hszb := hbox.1
      have hsp0 : Spo lo hi w W := Spo.below hbw hhi
      have Hbox := Lib.hid hbox; clear hbox
      have Hbw := Lib.hid hbw; clear hbw
      have Hsp0 := Lib.hid hsp0; clear hsp0
      go_wp2
      go_loopw [2] (fun i wr => ∃ k : Nat, k ≤ lm ∧ i = .int .i64 k ∧ Spo lo hi W wr) (fun i _ => lm - (intOf i).toNat)
      case atStart => exact ⟨0, Nat.zero_le _, rfl, Spo.refl _ _ _⟩
      case round =>
        obtain ⟨k, hk', rfl, hsp⟩ := hrel
        have c5 := (hsp.box Hbox.out hhi).2 5 _ rfl
        have Hsp := Lib.hid hsp; clear hsp
        by_cases hlt : k < lm
        · obtain ⟨g, r, rfl, hg1, hg2, -, ⟨a, s, t, rfl⟩, hc, hf⟩ := (Hm.out.spo (R' := fun r => ∃ (a : Int) (s t : ByteArray), r = [.int .i64 a, .string s, .string t]) (Hsp0.out.trans Hsp.out) (by
            rintro r r' ⟨a, s, t, rfl⟩ hl hc
            obtain ⟨y0, y1, y2, rfl, s0, s1, s2⟩ := row3 hl hc
            obtain ⟨a', rfl⟩ := s0.int
            obtain ⟨b', rfl⟩ := s1.str
            obtain ⟨c', rfl⟩ := s2.str
            exact ⟨_, _, _, rfl⟩)).at hlt
          have e2 := hc 2 _ rfl
          clear hc
          go_wp2
          exact ⟨⟨k + 1, by omega, by go_num, Hsp.out.trans (Spo.set hg1 hg2 e2 (.inr (.inr ⟨_, _, rfl, rfl⟩)))⟩, by simp [intOf]; omega⟩
        · go_wp2
          clear c5
          obtain ⟨W1, rfl⟩ : ∃ W1 : World, W1 = wr := ⟨_, rfl⟩
          go_loopw [3] (fun i wr => ∃ k : Nat, k ≤ ln ∧ i = .int .i64 k ∧ Spo lo hi W wr) (fun i _ => ln - (intOf i).toNat)
          case atStart => exact ⟨0, Nat.zero_le _, rfl, Hsp.out⟩
          case round =>
            obtain ⟨k2, hk2', rfl, hsp2⟩ := hrel
            have c7 := (hsp2.box Hbox.out hhi).2 7 _ rfl
            have Hsp2 := Lib.hid hsp2; clear hsp2
            by_cases hlt2 : k2 < ln
            · obtain ⟨g, r, rfl, hg1, hg2, -, ⟨s, rfl⟩, hc, hf⟩ := (Hn.out.spo (R' := fun r => ∃ s : ByteArray, r = [.string s]) (Hsp0.out.trans Hsp2.out) (by
                rintro r r' ⟨s, rfl⟩ hl hc
                obtain ⟨y0, rfl, s0⟩ := row1 hl hc
                obtain ⟨a', rfl⟩ := s0.str
                exact ⟨_, rfl⟩)).at hlt2
              have e0 : wr.cell? ⟨g, k2, none⟩ = some (.string s) := by have := hc 0 _ rfl; simpa using this
              clear hc
              go_wp2
              exact ⟨⟨k2 + 1, by omega, by go_num, Hsp2.out.trans (Spo.set hg1 hg2 e0 (.inr (.inr ⟨_, _, rfl, rfl⟩)))⟩, by simp [intOf]; omega⟩
            · go_wp2
              clear c7
              obtain ⟨W2, rfl⟩ : ∃ W2 : World, W2 = wr := ⟨_, rfl⟩
              go_loopw [4] (fun i wr => ∃ k : Nat, k ≤ lk ∧ i = .int .i64 k ∧ Spo lo hi W wr) (fun i _ => lk - (intOf i).toNat)
              case atStart => exact ⟨0, Nat.zero_le _, rfl, Hsp2.out⟩
              case round =>
                obtain ⟨k3, hk3', rfl, hsp3⟩ := hrel
                have c8 := (hsp3.box Hbox.out hhi).2 8 _ rfl
                have hs3 := hsp3.size
                have Hsp3 := Lib.hid hsp3; clear hsp3
                by_cases hlt3 : k3 < lk
                · have hrw := (Hk.out.spo (Hsp0.out.trans Hsp3.out) (fun r r' => Shp.spo (Hsp0.out.trans Hsp3.out) d r r'))
                  obtain ⟨g, r, rfl, hg1, hg2, hrl, hR, hc, hf⟩ := hrw.at hlt3
                  have Hrw := Lib.hid hrw; clear hrw
                  have HR := Lib.hid hR
                  cases d with
                  | zero => exact hR.elim
                  | succ d =>
                    obtain ⟨z0, z1, z2, z3, z4, wm, z6, wn, wk, rfl, gm, gn, gk⟩ := hR
                    obtain ⟨Bm, jm, dm, rfl, -⟩ := gm
                    obtain ⟨Bn, jn, dn, rfl, -⟩ := gn
                    obtain ⟨Bk, jk, dk, rfl, -⟩ := gk
                    have e0 : wr.cell? ⟨g, k3 * 9, none⟩ = _ := hc 0 _ rfl
                    have e1 := hc 1 _ rfl
                    have e2 := hc 2 _ rfl
                    have e3 := hc 3 _ rfl
                    have e4 := hc 4 _ rfl
                    have e5 := hc 5 _ rfl
                    have e6 := hc 6 _ rfl
                    have e7 := hc 7 _ rfl
                    have e8 := hc 8 _ rfl
                    clear hc hf
                    go_wp2_with (go_at_call 35; refine (Hih.out _ _ HR.out (by omega)).mono ?_; rintro e' w5 ⟨⟨u, rfl⟩, hsp5⟩; clear e0 e1 e2 e3 e4 e5 e6 e7 e8; have c8 := ((Hsp3.out.trans hsp5).box Hbox.out hhi).2 8 _ rfl; obtain ⟨g', r', hgg, -, -, hrl', hR', hc', hf'⟩ := (Hrw.out.spo hsp5 (fun r r' => Shp.spo hsp5 _ r r')).at hlt3; simp only [Option.some.injEq, Addr.mk.injEq, and_true, true_and] at hgg; subst hgg; obtain ⟨y0, hy0⟩ : ∃ y0, w5.cell? ⟨g, k3 * 9, none⟩ = some (.int .i64 y0) := (by obtain ⟨z0, z1, z2, z3, z4, wm, z6, wn, wk, rfl, -⟩ := hR'; exact ⟨_, hc' 0 _ rfl⟩); clear hc' hR'; have Hsp5 := Lib.hid hsp5; clear hsp5)
                    exact ⟨⟨k3 + 1, by omega, by go_num, (Hsp3.out.trans Hsp5.out).trans (Spo.set hg1 hg2 hy0 (.inr (.inl ⟨_, _, rfl, rfl⟩)))⟩, by simp [intOf]; omega⟩
                · go_wp2
                  go_end0
                  exact ⟨⟨_, rfl⟩, Hsp0.out.trans Hsp3.out⟩

end Go.Proofs.Ytikaiiamoaahdaa
