/- The reference's Walked and Leaves. -/
import Derived.Test.YtikaiiamoaahdaaOwn0
namespace Go.Proofs.Ytikaiiamoaahdaa
open Go.RowKit
set_option linter.unusedSimpArgs false
set_option linter.unusedVariables false

set_option maxRecDepth 100000 in
set_option maxHeartbeats 4000000 in
theorem rWalked : ∀ (e : Ex) (cs : List Value) (n : Nat) (w : World), n ≤ w.heap.size → IsEx n w e cs → e.size ≤ 1000000 →
    Calls Try.prog 10 #[.agg cs.toArray] w fun e' w' => ∃ v, e' = .returned v ∧ Own n w.heap.size w' v e.flat ∧ Below w.heap.size w w' := by
  refine Ex.ind fun e ih => ?_
  intro cs n w hn he hsz
  obtain ⟨pm, cm, pn, cn, pk, ck, rfl, -, -, -, hka⟩ := he.cellsE
  obtain ⟨_, _, hv, _, _, hlk⟩ := hka.open
  clear hv
  unfold maxLen at hlk
  have Hka := Lib.hid hka; clear hka
  have Hih := Lib.hid ih; clear ih
  have He := Lib.hid he; clear he
  go_enter Try.func10, Try.ntmps10; (try simp only [List.append_eq, List.cons_append, List.nil_append])
  go_upto_region 0 with fail
  go_cut [0, 1, 2] (fun s0 s1 s2 wx => s1 = .pointer (some ⟨w.heap.size, 0, none⟩) ∧ s2 = .slice none 0 0 ∧ Below w.heap.size w wx ∧ Box wx w.heap.size [.int .i64 e.kind, .int .i64 e.fn, .int .i64 e.op, .int .i64 e.num, .string e.metric, .slice pm e.mats.length cm, .int .i64 e.span, .slice pn e.names.length cn, .slice pk e.kids.length ck])
  case first =>
    go_wp2
    go_meet
    exact ⟨rfl, rfl, (Below.refl _ _).alloc (Nat.le_refl _) _, Box.new _ _ _⟩
  case rest =>
    obtain ⟨rfl, rfl, hbw, hbox⟩ := hcut
    obtain ⟨W, rfl⟩ : ∃ W : World, W = wc := ⟨_, rfl⟩
    have hszb := hbox.1
    have Hbox := Lib.hid hbox; clear hbox
    have Hbw := Lib.hid hbw; clear hbw
    go_upto_region 1 with fail
    go_cut [3] (fun s3 wx => s3 = .slice (some ⟨W.heap.size, 0, none⟩) 1 1 ∧ Below W.heap.size W wx ∧ wx.ownsRow W.heap.size 26 9 s3 1 [.int .i64 e.kind, .int .i64 e.fn, .int .i64 e.op, .int .i64 e.num, .string e.metric, .slice pm e.mats.length cm, .int .i64 e.span, .slice pn e.names.length cn, .slice pk e.kids.length ck])
    case first =>
      have c0 := Hbox.out.2 0 _ rfl
      have c1 := Hbox.out.2 1 _ rfl
      have c2 := Hbox.out.2 2 _ rfl
      have c3 := Hbox.out.2 3 _ rfl
      have c4 := Hbox.out.2 4 _ rfl
      have c5 := Hbox.out.2 5 _ rfl
      have c6 := Hbox.out.2 6 _ rfl
      have c7 := Hbox.out.2 7 _ rfl
      have c8 := Hbox.out.2 8 _ rfl
      go_wp2
      go_meet
      refine ⟨rfl, (Below.refl _ _).alloc (Nat.le_refl _) _, rfl, .inr ⟨_, 1, _, rfl, Nat.le_refl _, heap_alloc_new W _, Nat.le_refl _, by decide, rfl, rfl⟩⟩
    case rest =>
      obtain ⟨rfl, hb1, hown⟩ := hcut
      obtain ⟨W1, rfl⟩ : ∃ W1 : World, W1 = wc := ⟨_, rfl⟩
      have hown1 : Own n W.heap.size W1 (.slice (some ⟨W.heap.size, 0, none⟩) 1 1) [e] := Own.one hown (He.out.mono ((Hbw.out.trans (hb1.mono (by omega))).mono hn) (Nat.le_refl _))
      clear hown
      have Hb1 := Lib.hid hb1; clear hb1
      obtain ⟨i0, hi, hz0, hz1, hz2⟩ := info_parts infoE
      have hse := e.size_eq
      have Hse := Lib.hid hse; clear hse
      go_wp2
      go_loopw [3, 4] (fun v i wr => ∃ k : Nat, k ≤ e.kids.length ∧ i = .int .i64 k ∧ Own n W.heap.size wr v (e :: flats (e.kids.take k)) ∧ Below W.heap.size W wr) (fun _ i _ => e.kids.length - (intOf i).toNat)
      case atStart => exact ⟨0, Nat.zero_le _, rfl, hown1, Hb1.out⟩
      case round =>
        obtain ⟨k, hk, rfl, ⟨rows, hor, hl1, hg1⟩, hbl⟩ := hrel
        have Hbl := Lib.hid hbl; clear hbl
        have c8 := (Hbox.out.keep Hbl.out).2 8 _ rfl
        have hszr := Hbl.out.size
        have hszw := Hbw.out.size
        have hle2 : sizes e.kids ≤ 1000000 := by have := Hse.out; omega
        have Hor := Lib.hid hor; clear hor
        have Hl1 := Lib.hid hl1; clear hl1
        have Hg1 := Lib.hid hg1; clear hg1
        by_cases hlt : k < e.kids.length
        · obtain ⟨b, off, qm, dm, qn, dn, qk, dk, rfl, hbn, hei, e0, e1, e2, e3, e4, e5, e6, e7, e8⟩ := (Hka.out.mono ((Hbw.out.trans (Hbl.out.mono (by omega))).mono hn) (Nat.le_refl _)).getE (Cells.refl _ _) hlt
          have hks := size_le_sizes (List.getElem_mem hlt)
          have Hei := Lib.hid hei; clear hei
          have Hsx := Lib.hid (show (e :: flats (e.kids.take k)).length ≤ 1000001 ∧ e.kids[k].flat.length ≤ 1000000 from by
            rw [List.length_cons, flats_length, flat_length]
            have := sizes_take_le e.kids k
            omega)
          go_wp2_with (first
            | (go_at_call 10; refine (Hih.out _ (List.getElem_mem hlt) _ n _ (by omega) Hei.out (by omega)).mono ?_; rintro e' w2 ⟨v2, rfl, ⟨rows2, hor2, hl2, hg2⟩, hb2⟩; have hor' := Lib.hid (ownsRow_keep Hor.out hb2); have Hor2 := Lib.hid hor2; clear hor2; have Hl2 := Lib.hid hl2; clear hl2; have Hg2 := Lib.hid hg2; clear hg2; have hszr2 := hb2.size; have Hb2 := Lib.hid hb2; clear hb2)
            | (at_builtin; refine wpList_append_src _ rfl _ _ _ rfl W.heap.size 26 i0 _ 9 128 Try.underlying24 hi hz0 hz1 hz2 rfl (by decide) _ _ rows.flatten rfl hor'.out _ _ rows2.flatten rfl (Src.of_own Hor2.out) (rows_oneCells Hl2.out Hg2.out) (by have := Hsx.out; unfold maxLen; omega) (by have := Hsx.out; omega) (by omega) ?_; intro v3 w3 hown3 hgr3 hat3))
          refine ⟨⟨k + 1, by omega, by go_num, ?_, ?_⟩, by simp [intOf]; omega⟩
          · rw [flats_step hlt, ← List.cons_append]
            exact Own.app Hl1.out Hl2.out (fun k r e' hr he' => (Hg1.out k r e' hr he').mono (Hb2.out.mono (by omega)) (Nat.le_refl _)) Hg2.out (below_app (Below.refl _ _) hor'.out hgr3 (by omega) (by omega)) hown3
          · exact below_app (Hbl.out.trans (Hb2.out.mono hszr)) hor'.out hgr3 (Nat.le_refl _) (by omega)
        · go_wp2
          go_ret
          refine ⟨_, rfl, ⟨rows, ?_, ?_, ?_⟩, Hbw.out.trans (Hbl.out.mono (by omega))⟩
          · have := Hor.out
            rw [List.take_of_length_le (show e.kids.length ≤ k by omega)] at this
            rw [Ex.flat_eq]; exact ownsRow_base this hszw
          · have := Hl1.out
            rw [List.take_of_length_le (show e.kids.length ≤ k by omega)] at this
            rw [Ex.flat_eq]; exact this
          · have := Hg1.out
            rw [List.take_of_length_le (show e.kids.length ≤ k by omega)] at this
            rw [Ex.flat_eq]; exact this

end Go.Proofs.Ytikaiiamoaahdaa
