/- waterwheelkit on expressions: weigh, short, LightExpr, Expr. -/
import Derived.Test.YtobelmipjanibaaDoorTree2
import Derived.Test.YtobelmipjanibaaDoorKit1
import Derived.StillTailTactics
import Derived.Deep.DeepCutAuto
import Derived.Deep.CutBlock
namespace Go.Proofs.YtobelmipjanibaaDoor
open Go.RowKit
set_option linter.unusedSimpArgs false
set_option linter.unusedVariables false

theorem min_bd (a b : Int) (ha : 0 ≤ a) (hb : 0 ≤ b) : 0 ≤ min a b ∧ min a b ≤ b := by omega

set_option maxHeartbeats 1000000 in
theorem kWeigh : ∀ (d : Nat) (e : Ex) (cs : List Value) (most dd : Int) (n : Nat) (w : World), n ≤ w.heap.size → 0 ≤ most → most ≤ 1000 → dd = (d : Int) → d ≤ 1000 → IsEx n w e cs →
    Calls Tryd.prog 24 #[.agg cs.toArray, .int .i64 most, .int .i64 dd] w fun e' w' => e' = .returned (.int .i64 (weigh d e most)) ∧ Below w.heap.size w w' := by
  intro d
  induction d with
  | zero =>
    intro e cs most dd n w hn h0 h1 hd hd1 he
    obtain ⟨vm, vn, vk, rfl, hsz, hm, hna, hk⟩ := he.cells
    obtain ⟨pm, cm, rfl, _, _, hlm⟩ := hm.open
    obtain ⟨pn, cn, rfl, _, _, hln⟩ := hna.open
    obtain ⟨pk, ck, rfl, _, _, hlk⟩ := hk.open
    subst hd
    unfold maxLen at hlm hln hlk
    go_enter Tryd.func24, Tryd.ntmps24
    go_wp2
    all_goals go_ret
    all_goals exact ⟨rfl, (Below.refl _ _).alloc (Nat.le_refl _) _⟩
  | succ d ih =>
    intro e cs most dd n w hn h0 h1 hd hd1 he
    obtain ⟨vm, vn, vk, rfl, hsz, hm, hna, hk⟩ := he.cells
    obtain ⟨pm, cm, rfl, _, _, hlm⟩ := hm.open
    obtain ⟨pn, cn, rfl, _, _, hln⟩ := hna.open
    obtain ⟨pk, ck, rfl, _, _, hlk⟩ := hk.open
    unfold maxLen at hlm hln hlk
    have hdp : 0 < dd := by omega
    have hdu : dd ≤ 1000 := by omega
    have hd0 : (dd == 0) = false := beq_eq_false_iff_ne.2 (by omega)
    have Hd := Lib.hid hd; clear hd
    have Hih := Lib.hid ih; clear ih
    go_enter Tryd.func24, Tryd.ntmps24
    go_upto_region 1 with fail
    go_cut [7] (fun s7 wx => s7 = .int .i64 (weighTo d e most []) ∧ Below w.heap.size w wx ∧ Box wx w.heap.size [.int .i64 e.kind, .int .i64 e.fn, .int .i64 e.op, .int .i64 e.num, .string e.metric, .slice pm e.mats.length cm, .int .i64 e.span, .slice pn e.names.length cn, .slice pk e.kids.length ck])
    case first =>
      go_wp2
      all_goals go_meet
      all_goals refine ⟨?_, (Below.refl _ _).alloc (Nat.le_refl _) _, Box.new _ _ _⟩
      all_goals simp only [weighTo, List.foldl_nil]
      all_goals congr 1
      all_goals omega
    case rest =>
      obtain ⟨rfl, hbw, hbox⟩ := hcut
      have hsz := hbox.1
      have Hbw := Lib.hid hbw; clear hbw
      have Hbox := Lib.hid hbox; clear hbox
      have hb0 := weighTo_bd d e most [] h0
      go_wp2
      go_loopw [7, 8] (fun s i wr => ∃ k : Nat, k ≤ e.kids.length ∧ i = .int .i64 k ∧ s = .int .i64 (weighTo d e most (e.kids.take k)) ∧ Below wc.heap.size wc wr) (fun _ i _ => e.kids.length - (intOf i).toNat)
      case atStart => exact ⟨0, Nat.zero_le _, rfl, by simp, Below.refl _ _⟩
      case round =>
        obtain ⟨k, hk', rfl, rfl, hb⟩ := hrel
        have Hb := Lib.hid hb; clear hb
        have hwb := weighTo_bd d e most (e.kids.take k) h0
        have c8 := (Hbox.out.keep Hb.out).2 8 _ rfl
        by_cases hlt : k < e.kids.length
        · by_cases hle : weighTo d e most (e.kids.take k) ≤ most
          · obtain ⟨b, off, r0, r1, r2, r3, r4, r5, r6, r7, r8, rfl, hbn, hei, e0, e1, e2, e3, e4, e5, e6, e7, e8⟩ := (hk.mono ((Hbw.out.trans (Hb.out.mono (by omega))).mono hn) (Nat.le_refl _)).get hlt
            have hst := weighTo_step d e most hlt
            rw [if_pos hle] at hst
            have Hst := Lib.hid hst; clear hst
            have hwk := weigh_bd d e.kids[k] (most - weighTo d e most (e.kids.take k)) (by omega)
            have Hei := Lib.hid hei; clear hei
            have Hk := Lib.hid hk; clear hk
            have He := Lib.hid he; clear he
            go_wp2_with (go_at_call 24; refine (Hih.out _ _ _ _ n wr (by have := Hbw.out.size; have := Hb.out.size; omega) (by omega) (by omega) (by have := Hd.out; omega) (by omega) Hei.out).mono ?_; rintro e' w' ⟨rfl, hb2⟩)
            refine ⟨⟨k + 1, by omega, by go_num, by rw [Hst.out], Hb.out.trans (hb2.mono Hb.out.size)⟩, ?_⟩
            simp [intOf]; omega
          · go_wp2
            go_ret
            have hx : weighTo d e most e.kids = weighTo d e most (e.kids.take k) := by
              have := weighTo_stuck d e most (e.kids.take k) (e.kids.drop k) (by omega)
              rwa [List.take_append_drop] at this
            exact ⟨ret_int (by rw [weigh_eq, hx]), Hbw.out.trans (Hb.out.mono Hbw.out.size)⟩
        · go_wp2
          go_ret
          exact ⟨ret_int (by rw [weigh_eq, List.take_of_length_le (by omega)]), Hbw.out.trans (Hb.out.mono Hbw.out.size)⟩

theorem all_take_false {α : Type} {l : List α} {p : α → Bool} {k : Nat} (h : (l.take k).all p = false) : l.all p = false := by
  cases hl : l.all p with
  | false => rfl
  | true =>
    rw [← List.take_append_drop k l, List.all_append, h] at hl
    simp at hl
theorem all_step_eq {α : Type} {l : List α} {p : α → Bool} {k : Nat} (hk : k < l.length) : (l.take (k + 1)).all p = ((l.take k).all p && p l[k]) := by
  rw [List.take_succ_eq_append_getElem hk, List.all_append]; simp

theorem and_all_take_false {α : Type} {l : List α} {p : α → Bool} {k : Nat} {b : Bool} (h : (b && (l.take k).all p) = false) : (b && l.all p) = false := by
  cases b with
  | false => rfl
  | true => simp only [Bool.true_and] at *; exact all_take_false h
theorem and_shorts_take_false {l : List Ex} {k : Nat} {b : Bool} (h : (b && shorts (l.take k)) = false) : (b && shorts l) = false := by
  have := shorts_append (l.take k) (l.drop k)
  rw [List.take_append_drop] at this
  rw [this, ← Bool.and_assoc, h]; rfl

set_option maxHeartbeats 2000000 in
theorem kShort : ∀ (e : Ex) (cs : List Value) (n : Nat) (w : World), n ≤ w.heap.size → IsEx n w e cs →
    Calls Tryd.prog 25 #[.agg cs.toArray] w fun e' w' => e' = .returned (.bool e.short) ∧ Below w.heap.size w w' := by
  refine Ex.ind fun e ih => ?_
  intro cs n w hn he
  obtain ⟨vm, vn, vk, rfl, hsz, hm, hna, hk⟩ := he.cells
  obtain ⟨pm, cm, rfl, _, _, hlm⟩ := hm.open
  obtain ⟨pn, cn, rfl, _, _, hln⟩ := hna.open
  obtain ⟨pk, ck, rfl, _, _, hlk⟩ := hk.open
  unfold maxLen at hlm hln hlk hsz
  have Hih := Lib.hid ih; clear ih
  have He := Lib.hid he; clear he
  go_enter Tryd.func25, Tryd.ntmps25
  go_upto_region 1 with fail
  go_cut [3] (fun s3 wx => s3 = .bool (decide (e.metric.size ≤ 300)) ∧ Below w.heap.size w wx ∧ Box wx w.heap.size [.int .i64 e.kind, .int .i64 e.fn, .int .i64 e.op, .int .i64 e.num, .string e.metric, .slice pm e.mats.length cm, .int .i64 e.span, .slice pn e.names.length cn, .slice pk e.kids.length ck])
  case first =>
    go_wp2
    all_goals go_meet
    exact ⟨by congr 1; exact decide_eq_decide.2 (by omega), (Below.refl _ _).alloc (Nat.le_refl _) _, Box.new _ _ _⟩
  case rest =>
    obtain ⟨rfl, hbw, hbox⟩ := hcut
    have hsw := hbox.1
    have Hbw := Lib.hid hbw; clear hbw
    have Hbox := Lib.hid hbox; clear hbox
    have c5 := Hbox.out.2 5 _ rfl
    have c7 := Hbox.out.2 7 _ rfl
    have c8 := Hbox.out.2 8 _ rfl
    go_upto_block 0 with fail
    go_cut [3] (fun s3 wx => s3 = .bool (decide (e.metric.size ≤ 300) && e.mats.all matShort) ∧ wx = wc)
    case first =>
      go_wp2
      go_loop [3, 4] (fun s i => ∃ (k : Nat) (b : Bool), k ≤ e.mats.length ∧ i = .int .i64 k ∧ s = .bool b ∧ b = (decide (e.metric.size ≤ 300) && (e.mats.take k).all matShort)) (fun _ i => e.mats.length - (intOf i).toNat)
      case atStart => exact ⟨0, _, Nat.zero_le _, rfl, rfl, by simp⟩
      case round =>
        obtain ⟨k, b, hk', rfl, rfl, hb⟩ := hrel
        have Hb := Lib.hid hb; clear hb
        by_cases hlt : k < e.mats.length
        · obtain ⟨b1, off, rfl, hbn, h1, h2, h3, hs1, hs2⟩ := (hm.mono (Hbw.out.mono hn) (Nat.le_refl _)).get hlt
          have Hm := Lib.hid hm; clear hm
          have Hs := Lib.hid (all_step_eq (l := e.mats) (p := matShort) hlt)
          unfold maxLen at hs1 hs2
          cases b with
          | true =>
            go_wp2
            all_goals refine ⟨⟨k + 1, _, by omega, by go_num, rfl, ?_⟩, by simp [intOf]; omega⟩
            all_goals rw [Hs.out, ← Bool.and_assoc, ← Hb.out]
            all_goals simp only [matShort, Bool.true_and]
            all_goals (first | rfl | (rw [Bool.eq_iff_iff]; simp only [Bool.and_eq_true, Bool.or_eq_true, decide_eq_true_eq, beq_iff_eq, bne_iff_ne, ne_eq, Bool.not_eq_true', decide_eq_false_iff_not, Bool.false_eq_true, iff_false, false_iff, iff_true, true_iff]; omega))
          | false =>
            go_wp2
            go_meet
            case rel => exact ⟨by rw [and_all_take_false Hb.out.symm], rfl⟩
        · cases b
          all_goals go_wp2
          all_goals go_meet
          all_goals exact ⟨by rw [Hb.out, List.take_of_length_le (by omega)], rfl⟩
    case rest =>
      obtain ⟨rfl, rfl⟩ := hcut
      go_upto_block 2 with fail
      go_cut [3] (fun s3 wx => s3 = .bool (decide (e.metric.size ≤ 300) && e.mats.all matShort && e.names.all (fun s => decide (s.size ≤ 300))) ∧ wx = wc)
      case first =>
        go_wp2
        go_loop [3, 5] (fun s i => ∃ (k : Nat) (b : Bool), k ≤ e.names.length ∧ i = .int .i64 k ∧ s = .bool b ∧ b = ((decide (e.metric.size ≤ 300) && e.mats.all matShort) && (e.names.take k).all (fun s => decide (s.size ≤ 300)))) (fun _ i => e.names.length - (intOf i).toNat)
        case atStart => exact ⟨0, _, Nat.zero_le _, rfl, rfl, by simp⟩
        case round =>
          obtain ⟨k, b, hk', rfl, rfl, hb⟩ := hrel
          have Hb := Lib.hid hb; clear hb
          by_cases hlt : k < e.names.length
          · obtain ⟨b1, off, rfl, hbn, h1, hs1⟩ := (hna.mono (Hbw.out.mono hn) (Nat.le_refl _)).get hlt
            have Hm := Lib.hid hna; clear hna
            have Hs := Lib.hid (all_step_eq (l := e.names) (p := fun s => decide (s.size ≤ 300)) hlt)
            unfold maxLen at hs1
            cases b with
            | true =>
              go_wp2
              all_goals refine ⟨⟨k + 1, _, by omega, by go_num, rfl, ?_⟩, by simp [intOf]; omega⟩
              all_goals rw [Hs.out, ← Bool.and_assoc, ← Hb.out]
              all_goals simp only [Bool.true_and]
              all_goals (first | rfl | (rw [Bool.eq_iff_iff]; simp only [Bool.and_eq_true, Bool.or_eq_true, decide_eq_true_eq, beq_iff_eq, bne_iff_ne, ne_eq, Bool.not_eq_true', decide_eq_false_iff_not, Bool.false_eq_true, iff_false, false_iff, iff_true, true_iff]; omega))
            | false =>
              go_wp2
              go_meet
              case rel => exact ⟨by rw [and_all_take_false Hb.out.symm], rfl⟩
          · cases b
            all_goals go_wp2
            all_goals go_meet
            all_goals exact ⟨by rw [Hb.out, List.take_of_length_le (by omega)], rfl⟩
      case rest =>
        obtain ⟨rfl, rfl⟩ := hcut
        obtain ⟨b0, hb0⟩ : ∃ b0, (decide (e.metric.size ≤ 300) && e.mats.all matShort && e.names.all (fun s => decide (s.size ≤ 300))) = b0 := ⟨_, rfl⟩
        rw [hb0]
        have Hb0 := Lib.hid hb0; clear hb0
        go_wp2
        go_loopw [3, 6] (fun s i wr => ∃ (k : Nat) (b : Bool), k ≤ e.kids.length ∧ i = .int .i64 k ∧ s = .bool b ∧ b = (b0 && shorts (e.kids.take k)) ∧ Below wc.heap.size wc wr) (fun _ i _ => e.kids.length - (intOf i).toNat)
        case atStart => exact ⟨0, _, Nat.zero_le _, rfl, rfl, by simp [shorts], Below.refl _ _⟩
        case round =>
          obtain ⟨k, b, hk', rfl, rfl, hb, hbl⟩ := hrel
          have Hb := Lib.hid hb; clear hb
          have Hbl := Lib.hid hbl; clear hbl
          clear c5 c7 c8
          have c8 := (Hbox.out.keep Hbl.out).2 8 _ rfl
          by_cases hlt : k < e.kids.length
          · cases b with
            | true =>
              obtain ⟨b1, off, r0, r1, r2, r3, r4, r5, r6, r7, r8, rfl, hbn, hei, e0, e1, e2, e3, e4, e5, e6, e7, e8⟩ := (hk.mono ((Hbw.out.trans (Hbl.out.mono (by omega))).mono hn) (Nat.le_refl _)).get hlt
              have Hei := Lib.hid hei; clear hei
              have Hk := Lib.hid hk; clear hk
              have Hs := Lib.hid (shorts_step hlt)
              go_wp2_with (go_at_call 25; refine (Hih.out _ (List.getElem_mem hlt) _ n wr (by have := Hbw.out.size; have := Hbl.out.size; omega) Hei.out).mono ?_; rintro e' w' ⟨rfl, hb2⟩)
              refine ⟨⟨k + 1, _, by omega, by go_num, rfl, ?_, Hbl.out.trans (hb2.mono Hbl.out.size)⟩, by simp [intOf]; omega⟩
              rw [Hs.out, ← Bool.and_assoc, ← Hb.out, Bool.true_and]
            | false =>
              go_wp2
              go_ret
              exact ⟨ret_bool (by rw [Ex.short_eq, Hb0.out, and_shorts_take_false Hb.out.symm]), Hbw.out.trans (Hbl.out.mono Hbw.out.size)⟩
          · cases b
            all_goals go_wp2
            all_goals go_ret
            all_goals exact ⟨ret_bool (by rw [Ex.short_eq, Hb0.out, Hb.out, List.take_of_length_le (by omega)]), Hbw.out.trans (Hbl.out.mono Hbw.out.size)⟩

end Go.Proofs.YtobelmipjanibaaDoor
