/- waterwheelkit on expressions: weigh, short, LightExpr, Expr. -/
import Derived.Test.YtdjdikiimhhjpaaGreatDoorK0
import Derived.Test.YtdjdikiimhhjpaaGreatDoorK4
import Derived.StillTailTactics
import Derived.Deep.DeepCutAuto
import Derived.Deep.CutBlock
import Derived.Test.YtdjdikiimhhjpaaGreatDoorK3
set_option maxRecDepth 100000
set_option maxHeartbeats 16000000
namespace Go.Proofs.YtdjdikiimhhjpaaGreatDoor
open Go.RowKit
set_option linter.unusedSimpArgs false
set_option linter.unusedVariables false
theorem min_bd (a b : Int) (ha : 0 ≤ a) (hb : 0 ≤ b) : 0 ≤ min a b ∧ min a b ≤ b := by omega
theorem kWeigh : ∀ (d : Nat) (e : Ex) (cs : List Value) (most dd : Int) (n : Nat) (w : World), n ≤ w.heap.size → 0 ≤ most → most ≤ 1000 → dd = (d : Int) → d ≤ 1000 → IsEx n w e cs →
    Calls Tryz.prog 24 #[.agg cs.toArray, .int .i64 most, .int .i64 dd] w fun e' w' => e' = .returned (.int .i64 (weigh d e most)) ∧ Below w.heap.size w w' := by
  intro d
  induction d with
  | zero =>
    intro e cs most dd n w hn h0 h1 hd hd1 he; obtain ⟨vm, vn, vk, rfl, hsz, hm, hna, hk⟩ := he.cells; obtain ⟨pm, cm, rfl, _, _, hlm⟩ := hm.open; obtain ⟨pn, cn, rfl, _, _, hln⟩ := hna.open; obtain ⟨pk, ck, rfl, _, _, hlk⟩ := hk.open; subst hd; unfold maxLen at hlm hln hlk
    go_enter Tryz.func24, Tryz.ntmps24
    go_wp2
    all_goals go_ret
    all_goals exact ⟨rfl, (Below.refl _ _).alloc (Nat.le_refl _) _⟩
  | succ d ih =>
    intro e cs most dd n w hn h0 h1 hd hd1 he; obtain ⟨vm, vn, vk, rfl, hsz, hm, hna, hk⟩ := he.cells; obtain ⟨pm, cm, rfl, _, _, hlm⟩ := hm.open; obtain ⟨pn, cn, rfl, _, _, hln⟩ := hna.open; obtain ⟨pk, ck, rfl, _, _, hlk⟩ := hk.open; unfold maxLen at hlm hln hlk; have hdp : 0 < dd := by omega
    have hdu : dd ≤ 1000 := by omega
    have hd0 : (dd == 0) = false := beq_eq_false_iff_ne.2 (by omega); have Hd := Lib.hid hd; clear hd; have Hih := Lib.hid ih; clear ih
    go_enter Tryz.func24, Tryz.ntmps24
    go_upto_region 1 with fail
    go_cut [7] (fun s7 wx => s7 = .int .i64 (weighTo d e most []) ∧ Below w.heap.size w wx ∧ Box wx w.heap.size [.int .i64 e.kind, .int .i64 e.fn, .int .i64 e.op, .int .i64 e.num, .string e.metric, .slice pm e.mats.length cm, .int .i64 e.span, .slice pn e.names.length cn, .slice pk e.kids.length ck])
    case first =>
      go_wp2
      all_goals go_meet
      all_goals refine ⟨?_, (Below.refl _ _).alloc (Nat.le_refl _) _, Box.new _ _ _⟩
      all_goals simp only [weighTo, List.foldl_nil]
      all_goals congr 1
      all_goals omega
    case rest =>
      obtain ⟨rfl, hbw, hbox⟩ := hcut; have hsz := hbox.1; have Hbw := Lib.hid hbw; clear hbw; have Hbox := Lib.hid hbox; clear hbox; have hb0 := weighTo_bd d e most [] h0; go_wp2
      go_loopw [7, 8] (fun s i wr => ∃ k : Nat, k ≤ e.kids.length ∧ i = .int .i64 k ∧ s = .int .i64 (weighTo d e most (e.kids.take k)) ∧ Below wc.heap.size wc wr) (fun _ i _ => e.kids.length - (intOf i).toNat)
      case atStart => exact ⟨0, Nat.zero_le _, rfl, by simp, Below.refl _ _⟩
      case round =>
        obtain ⟨k, hk', rfl, rfl, hb⟩ := hrel; have Hb := Lib.hid hb; clear hb; have hwb := weighTo_bd d e most (e.kids.take k) h0; have c8 := (Hbox.out.keep Hb.out).2 8 _ rfl
        by_cases hlt : k < e.kids.length
        · by_cases hle : weighTo d e most (e.kids.take k) ≤ most
          · obtain ⟨b, off, r0, r1, r2, r3, r4, r5, r6, r7, r8, rfl, hbn, hei, e0, e1, e2, e3, e4, e5, e6, e7, e8⟩ := (hk.mono ((Hbw.out.trans (Hb.out.mono (by omega))).mono hn) (Nat.le_refl _)).get hlt
            have hst := weighTo_step d e most hlt; rw [if_pos hle] at hst; have Hst := Lib.hid hst; clear hst; have hwk := weigh_bd d e.kids[k] (most - weighTo d e most (e.kids.take k)) (by omega); have Hei := Lib.hid hei; clear hei; have Hk := Lib.hid hk; clear hk; have He := Lib.hid he; clear he
            go_wp2_with (go_at_call 24; refine (Hih.out _ _ _ _ n wr (by have := Hbw.out.size; have := Hb.out.size; omega) (by omega) (by omega) (by have := Hd.out; omega) (by omega) Hei.out).mono ?_; rintro e' w' ⟨rfl, hb2⟩)
            refine ⟨⟨k + 1, by omega, by go_num, by rw [Hst.out], Hb.out.trans (hb2.mono Hb.out.size)⟩, ?_⟩
            simp [intOf]; omega
          · go_wp2
            go_ret; have hx : weighTo d e most e.kids = weighTo d e most (e.kids.take k) := by
              have := weighTo_stuck d e most (e.kids.take k) (e.kids.drop k) (by omega)
              rwa [List.take_append_drop] at this
            exact ⟨ret_int (by rw [weigh_eq, hx]), Hbw.out.trans (Hb.out.mono Hbw.out.size)⟩
        · go_wp2
          go_ret; exact ⟨ret_int (by rw [weigh_eq, List.take_of_length_le (by omega)]), Hbw.out.trans (Hb.out.mono Hbw.out.size)⟩
theorem all_take_false {α : Type} {l : List α} {p : α → Bool} {k : Nat} (h : (l.take k).all p = false) : l.all p = false := by
  cases hl : l.all p with
  | false => rfl
  | true =>
    rw [← List.take_append_drop k l, List.all_append, h] at hl
    simp at hl
theorem all_step_eq {α : Type} {l : List α} {p : α → Bool} {k : Nat} (hk : k < l.length) : (l.take (k + 1)).all p = ((l.take k).all p && p l[k]) := by
  rw [List.take_succ_eq_append_getElem hk, List.all_append]; simp
theorem and_all_take_false {α : Type} {l : List α} {p : α → Bool} {k : Nat} {b : Bool} (h : (b && (l.take k).all p) = false) : (b && l.all p) = false := by
  cases b with
  | false => rfl
  | true => simp only [Bool.true_and] at *; exact all_take_false h
theorem and_shorts_take_false {l : List Ex} {k : Nat} {b : Bool} (h : (b && shorts (l.take k)) = false) : (b && shorts l) = false := by
  have := shorts_append (l.take k) (l.drop k)
  rw [List.take_append_drop] at this
  rw [this, ← Bool.and_assoc, h]; rfl
theorem kShort : ∀ (e : Ex) (cs : List Value) (n : Nat) (w : World), n ≤ w.heap.size → IsEx n w e cs →
    Calls Tryz.prog 25 #[.agg cs.toArray] w fun e' w' => e' = .returned (.bool e.short) ∧ Below w.heap.size w w' := by
  refine Ex.ind fun e ih => ?_
  intro cs n w hn he
  obtain ⟨vm, vn, vk, rfl, hsz, hm, hna, hk⟩ := he.cells
  obtain ⟨pm, cm, rfl, _, _, hlm⟩ := hm.open
  obtain ⟨pn, cn, rfl, _, _, hln⟩ := hna.open
  obtain ⟨pk, ck, rfl, _, _, hlk⟩ := hk.open
  unfold maxLen at hlm hln hlk hsz
  have Hih := Lib.hid ih; clear ih
  have He := Lib.hid he; clear he
  go_enter Tryz.func25, Tryz.ntmps25
  go_upto_region 1 with fail
  go_cut [3] (fun s3 wx => s3 = .bool (decide (e.metric.size ≤ 300)) ∧ Below w.heap.size w wx ∧ Box wx w.heap.size [.int .i64 e.kind, .int .i64 e.fn, .int .i64 e.op, .int .i64 e.num, .string e.metric, .slice pm e.mats.length cm, .int .i64 e.span, .slice pn e.names.length cn, .slice pk e.kids.length ck])
  case first =>
    go_wp2
    all_goals go_meet
    exact ⟨by congr 1; exact decide_eq_decide.2 (by omega), (Below.refl _ _).alloc (Nat.le_refl _) _, Box.new _ _ _⟩
  case rest =>
    obtain ⟨rfl, hbw, hbox⟩ := hcut; have hsw := hbox.1; have Hbw := Lib.hid hbw; clear hbw; have Hbox := Lib.hid hbox; clear hbox; have c5 := Hbox.out.2 5 _ rfl; have c7 := Hbox.out.2 7 _ rfl; have c8 := Hbox.out.2 8 _ rfl
    go_upto_block 0 with fail
    go_cut [3] (fun s3 wx => s3 = .bool (decide (e.metric.size ≤ 300) && e.mats.all matShort) ∧ wx = wc)
    case first =>
      go_wp2
      go_loop [3, 4] (fun s i => ∃ (k : Nat) (b : Bool), k ≤ e.mats.length ∧ i = .int .i64 k ∧ s = .bool b ∧ b = (decide (e.metric.size ≤ 300) && (e.mats.take k).all matShort)) (fun _ i => e.mats.length - (intOf i).toNat)
      case atStart => exact ⟨0, _, Nat.zero_le _, rfl, rfl, by simp⟩
      case round =>
        obtain ⟨k, b, hk', rfl, rfl, hb⟩ := hrel; have Hb := Lib.hid hb; clear hb
        by_cases hlt : k < e.mats.length
        · obtain ⟨b1, off, rfl, hbn, h1, h2, h3, hs1, hs2⟩ := (hm.mono (Hbw.out.mono hn) (Nat.le_refl _)).get hlt
          have Hm := Lib.hid hm; clear hm; have Hs := Lib.hid (all_step_eq (l := e.mats) (p := matShort) hlt); unfold maxLen at hs1 hs2; cases b with
          | true =>
            go_wp2
            all_goals refine ⟨⟨k + 1, _, by omega, by go_num, rfl, ?_⟩, by simp [intOf]; omega⟩
            all_goals rw [Hs.out, ← Bool.and_assoc, ← Hb.out]
            all_goals simp only [matShort, Bool.true_and]
            all_goals (first | rfl | (rw [Bool.eq_iff_iff]; simp only [Bool.and_eq_true, Bool.or_eq_true, decide_eq_true_eq, beq_iff_eq, bne_iff_ne, ne_eq, Bool.not_eq_true', decide_eq_false_iff_not, Bool.false_eq_true, iff_false, false_iff, iff_true, true_iff]; omega))
          | false =>
            go_wp2
            go_meet
            case rel => exact ⟨by rw [and_all_take_false Hb.out.symm], rfl⟩
        · cases b
          all_goals go_wp2
          all_goals go_meet
          all_goals exact ⟨by rw [Hb.out, List.take_of_length_le (by omega)], rfl⟩
    case rest =>
      obtain ⟨rfl, rfl⟩ := hcut
      go_upto_block 2 with fail
      go_cut [3] (fun s3 wx => s3 = .bool (decide (e.metric.size ≤ 300) && e.mats.all matShort && e.names.all (fun s => decide (s.size ≤ 300))) ∧ wx = wc)
      case first =>
        go_wp2
        go_loop [3, 5] (fun s i => ∃ (k : Nat) (b : Bool), k ≤ e.names.length ∧ i = .int .i64 k ∧ s = .bool b ∧ b = ((decide (e.metric.size ≤ 300) && e.mats.all matShort) && (e.names.take k).all (fun s => decide (s.size ≤ 300)))) (fun _ i => e.names.length - (intOf i).toNat)
        case atStart => exact ⟨0, _, Nat.zero_le _, rfl, rfl, by simp⟩
        case round =>
          obtain ⟨k, b, hk', rfl, rfl, hb⟩ := hrel; have Hb := Lib.hid hb; clear hb
          by_cases hlt : k < e.names.length
          · obtain ⟨b1, off, rfl, hbn, h1, hs1⟩ := (hna.mono (Hbw.out.mono hn) (Nat.le_refl _)).get hlt
            have Hm := Lib.hid hna; clear hna; have Hs := Lib.hid (all_step_eq (l := e.names) (p := fun s => decide (s.size ≤ 300)) hlt); unfold maxLen at hs1; cases b with
            | true =>
              go_wp2
              all_goals refine ⟨⟨k + 1, _, by omega, by go_num, rfl, ?_⟩, by simp [intOf]; omega⟩
              all_goals rw [Hs.out, ← Bool.and_assoc, ← Hb.out]
              all_goals simp only [Bool.true_and]
              all_goals (first | rfl | (rw [Bool.eq_iff_iff]; simp only [Bool.and_eq_true, Bool.or_eq_true, decide_eq_true_eq, beq_iff_eq, bne_iff_ne, ne_eq, Bool.not_eq_true', decide_eq_false_iff_not, Bool.false_eq_true, iff_false, false_iff, iff_true, true_iff]; omega))
            | false =>
              go_wp2
              go_meet
              case rel => exact ⟨by rw [and_all_take_false Hb.out.symm], rfl⟩
          · cases b
            all_goals go_wp2
            all_goals go_meet
            all_goals exact ⟨by rw [Hb.out, List.take_of_length_le (by omega)], rfl⟩
      case rest =>
        obtain ⟨rfl, rfl⟩ := hcut; obtain ⟨b0, hb0⟩ : ∃ b0, (decide (e.metric.size ≤ 300) && e.mats.all matShort && e.names.all (fun s => decide (s.size ≤ 300))) = b0 := ⟨_, rfl⟩; rw [hb0]; have Hb0 := Lib.hid hb0; clear hb0; go_wp2
        go_loopw [3, 6] (fun s i wr => ∃ (k : Nat) (b : Bool), k ≤ e.kids.length ∧ i = .int .i64 k ∧ s = .bool b ∧ b = (b0 && shorts (e.kids.take k)) ∧ Below wc.heap.size wc wr) (fun _ i _ => e.kids.length - (intOf i).toNat)
        case atStart => exact ⟨0, _, Nat.zero_le _, rfl, rfl, by simp [shorts], Below.refl _ _⟩
        case round =>
          obtain ⟨k, b, hk', rfl, rfl, hb, hbl⟩ := hrel; have Hb := Lib.hid hb; clear hb; have Hbl := Lib.hid hbl; clear hbl; clear c5 c7 c8; have c8 := (Hbox.out.keep Hbl.out).2 8 _ rfl
          by_cases hlt : k < e.kids.length
          · cases b with
            | true =>
              obtain ⟨b1, off, r0, r1, r2, r3, r4, r5, r6, r7, r8, rfl, hbn, hei, e0, e1, e2, e3, e4, e5, e6, e7, e8⟩ := (hk.mono ((Hbw.out.trans (Hbl.out.mono (by omega))).mono hn) (Nat.le_refl _)).get hlt; have Hei := Lib.hid hei; clear hei; have Hk := Lib.hid hk; clear hk; have Hs := Lib.hid (shorts_step hlt)
              go_wp2_with (go_at_call 25; refine (Hih.out _ (List.getElem_mem hlt) _ n wr (by have := Hbw.out.size; have := Hbl.out.size; omega) Hei.out).mono ?_; rintro e' w' ⟨rfl, hb2⟩)
              refine ⟨⟨k + 1, _, by omega, by go_num, rfl, ?_, Hbl.out.trans (hb2.mono Hbl.out.size)⟩, by simp [intOf]; omega⟩; rw [Hs.out, ← Bool.and_assoc, ← Hb.out, Bool.true_and]
            | false =>
              go_wp2; go_ret; exact ⟨ret_bool (by rw [Ex.short_eq, Hb0.out, and_shorts_take_false Hb.out.symm]), Hbw.out.trans (Hbl.out.mono Hbw.out.size)⟩
          · cases b
            all_goals go_wp2
            all_goals go_ret
            all_goals exact ⟨ret_bool (by rw [Ex.short_eq, Hb0.out, Hb.out, List.take_of_length_le (by omega)]), Hbw.out.trans (Hbl.out.mono Hbw.out.size)⟩
end Go.Proofs.YtdjdikiimhhjpaaGreatDoor
namespace Go.Proofs.YtdjdikiimhhjpaaGreatDoor
open Go.RowKit
set_option linter.unusedSimpArgs false
set_option linter.unusedVariables false
def rightH (h : Has) (kids fn op num : Int) (metric : ByteArray) (mats : List Mat) (span : Int) (names : List ByteArray) : Bool :=
  decide (kids = h.kids) && (if h.fn = 0 then decide (fn = 0) else decide (1 ≤ fn ∧ fn ≤ h.fn)) && (if h.op = 0 then decide (op = 0) else decide (h.op ≤ op ∧ op ≤ h.opMost)) && (h.num || decide (num = 0)) &&
    (if h.names then namesB names else decide (names = [])) && (if h.wins then nameB metric && decide (checkMats mats = 0) else decide (metric = ByteArray.empty) && decide (mats = [])) &&
    (if h.spans then decide (1 ≤ span ∧ span ≤ 1073741824) else decide (span = 0))
def rightB (e : Ex) : Bool := kindOk e.kind && rightH (hasOf e.kind) e.kids.length e.fn e.op e.num e.metric e.mats e.span e.names
theorem empty_iff (s : ByteArray) : s.toList.isEmpty = true ↔ s = ByteArray.empty := by
  rw [List.isEmpty_iff, show ([] : List UInt8) = ByteArray.empty.toList by rw [ByteArray.toList_eq]; rfl, toList_inj]
theorem len_nil {α : Type} (l : List α) : l = [] ↔ l.length = 0 := List.length_eq_zero_iff.symm
theorem rightH_1 (kn : Nat) (fn op num : Int) (metric : ByteArray) (mats : List Mat) (span : Int) (names : List ByteArray) : rightH (hasOf 1) kn fn op num metric mats span names = true ↔
    kn = 0 ∧ (1 ≤ fn ∧ fn ≤ 6) ∧ op = 0 ∧ num = 0 ∧ names.length = 0 ∧ (nameB metric = true ∧ checkMats mats = 0) ∧ (1 ≤ span ∧ span ≤ 1073741824) := by
  simp [rightH, hasOf, and_assoc]
theorem rightH_2 (kn : Nat) (fn op num : Int) (metric : ByteArray) (mats : List Mat) (span : Int) (names : List ByteArray) : rightH (hasOf 2) kn fn op num metric mats span names = true ↔
    kn = 1 ∧ (1 ≤ fn ∧ fn ≤ 4) ∧ op = 0 ∧ num = 0 ∧ namesB names = true ∧ (metric.toList.isEmpty = true ∧ mats.length = 0) ∧ span = 0 := by
  rw [empty_iff]; simp [rightH, hasOf, and_assoc]; intros; omega
theorem rightH_3 (kn : Nat) (fn op num : Int) (metric : ByteArray) (mats : List Mat) (span : Int) (names : List ByteArray) : rightH (hasOf 3) kn fn op num metric mats span names = true ↔
    kn = 2 ∧ fn = 0 ∧ (1 ≤ op ∧ op ≤ 3) ∧ num = 0 ∧ namesB names = true ∧ (metric.toList.isEmpty = true ∧ mats.length = 0) ∧ span = 0 := by
  rw [empty_iff]; simp [rightH, hasOf, and_assoc]; intros; omega
theorem rightH_4 (kn : Nat) (fn op num : Int) (metric : ByteArray) (mats : List Mat) (span : Int) (names : List ByteArray) : rightH (hasOf 4) kn fn op num metric mats span names = true ↔
    kn = 1 ∧ fn = 0 ∧ (1 ≤ op ∧ op ≤ 3) ∧ names.length = 0 ∧ (metric.toList.isEmpty = true ∧ mats.length = 0) ∧ span = 0 := by
  rw [empty_iff]; simp [rightH, hasOf, and_assoc]; intros; omega
theorem rightH_5 (kn : Nat) (fn op num : Int) (metric : ByteArray) (mats : List Mat) (span : Int) (names : List ByteArray) : rightH (hasOf 5) kn fn op num metric mats span names = true ↔
    kn = 1 ∧ fn = 0 ∧ (4 ≤ op ∧ op ≤ 9) ∧ names.length = 0 ∧ (metric.toList.isEmpty = true ∧ mats.length = 0) ∧ span = 0 := by
  rw [empty_iff]; simp [rightH, hasOf, and_assoc]; intros; omega
theorem aRight_1 (fn op num : Int) (metric : ByteArray) (mats : List Mat) (span : Int) (names : List ByteArray) (kn : Nat) (vm vn : Value) (pk : Option Addr) (ck n : Nat) (w : World) (hn : n ≤ w.heap.size)
    (hs : metric.size ≤ maxLen) (hm : IsMats n w vm mats) (hna : IsStrs n w vn names) (hkn : kn ≤ 9223372036854775807) :
    Calls Tryz.prog 40 #[.agg #[.int .i64 1, .int .i64 fn, .int .i64 op, .int .i64 num, .string metric, vm, .int .i64 span, vn, .slice pk kn ck]] w
      fun e w' => e = .returned (.bool (rightH (hasOf 1) kn fn op num metric mats span names)) ∧ Below w.heap.size w w' := by
  obtain ⟨pm, cm, rfl, _, _, hlm⟩ := hm.open
  obtain ⟨pn, cn, rfl, _, _, hln⟩ := hna.open
  unfold maxLen at hlm hln
  have hK : ∀ w : World, Calls Tryz.prog 58 #[.int .i64 1] w fun e w' => e = .returned (.tuple #[.agg (hasOf 1).cells.toArray, .bool true]) ∧ Below w.heap.size w w' := fun w => aKind 1 w
  simp only [hasOf, Has.cells] at hK
  have HK := Lib.hid hK; clear hK
  go_enter Tryz.func40, Tryz.ntmps40; (try simp only [List.append_eq, List.cons_append, List.nil_append])
  go_upto_region 2 with (go_at_call 58; refine (HK.out _).mono ?_; rintro e w1 ⟨rfl, hb1⟩; have Hb1 := Lib.hid hb1; clear hb1)
  have hbe : Box (w1.alloc (.cells (hasOf 1).cells.toArray 95)) w.heap.size [.int .i64 1, .int .i64 fn, .int .i64 op, .int .i64 num, .string metric, .slice pm mats.length cm, .int .i64 span, .slice pn names.length cn, .slice pk kn ck] :=
    ((Box.new w _ 37).keep Hb1.out).keep ((Below.refl _ _).alloc (Nat.le_refl _) _)
  have hbh : Box (w1.alloc (.cells (hasOf 1).cells.toArray 95)) w1.heap.size (hasOf 1).cells := Box.new w1 _ _
  have hbw : Below w.heap.size w (w1.alloc (.cells (hasOf 1).cells.toArray 95)) :=
    (((Below.refl _ _).alloc (Nat.le_refl _) _).trans (Hb1.out.mono (by simp))).alloc (by have := Hb1.out.size; simp at this; omega) _
  simp only [hasOf, Has.cells] at hbe hbh hbw
  revert hbe hbh hbw
  simp only [Int.reduceEq, if_true, if_false]
  generalize w1.heap.size = B
  generalize w1.alloc _ = W
  intro hbe hbh hbw
  have hnW : n ≤ W.heap.size := Nat.le_trans hn hbw.size
  have Hmm := Lib.hid (hm.mono (hbw.mono hn) (Nat.le_refl _))
  have Hnn := Lib.hid (hna.mono (hbw.mono hn) (Nat.le_refl _))
  clear hm hna Hb1
  have Hbe := Lib.hid hbe; clear hbe
  have Hbh := Lib.hid hbh; clear hbh
  have Hbw := Lib.hid hbw; clear hbw
  have c1 := Hbe.out.2 1 _ rfl
  have c2 := Hbe.out.2 2 _ rfl
  have c3 := Hbe.out.2 3 _ rfl
  have c4 := Hbe.out.2 4 _ rfl
  have c5 := Hbe.out.2 5 _ rfl
  have c6 := Hbe.out.2 6 _ rfl
  have c7 := Hbe.out.2 7 _ rfl
  have c8 := Hbe.out.2 8 _ rfl
  have h0 := Hbh.out.2 0 _ rfl
  have h1 := Hbh.out.2 1 _ rfl
  have h2 := Hbh.out.2 2 _ rfl
  have h3 := Hbh.out.2 3 _ rfl
  have h4 := Hbh.out.2 4 _ rfl
  have h5 := Hbh.out.2 5 _ rfl
  have h6 := Hbh.out.2 6 _ rfl
  have h7 := Hbh.out.2 7 _ rfl
  go_wp2_with (first
    | (go_at_call 59; refine (aNames _ _ n _ hnW Hnn.out).mono ?_; rintro e wx ⟨rfl, rfl⟩)
    | (go_at_call 60; refine (lName _ _ hs).mono ?_; rintro e wx ⟨rfl, rfl⟩)
    | (go_at_call 26; refine (aSpan _ _).mono ?_; rintro e wx ⟨rfl, rfl⟩)
    | (go_at_call 61; refine (lCheckMatch _ _ n _ hnW Hmm.out).mono ?_; rintro e w2 ⟨rfl, hb2⟩; have x6 := (Hbe.out.keep hb2).2 6 _ rfl; have y6 := (Hbh.out.keep hb2).2 6 _ rfl; have y7 := (Hbh.out.keep hb2).2 7 _ rfl; have Hb2 := Lib.hid hb2; clear hb2))
  all_goals (try simp only [Bool.not_eq_true', Bool.not_eq_false', Bool.not_true, Bool.not_false, Bool.not_eq_true, Bool.not_eq_false, beq_iff_eq, beq_eq_false_iff_ne, bne_iff_ne, ne_eq, bne_eq_false_iff_eq, decide_eq_true_eq, decide_eq_false_iff_not, toList_inj] at *)
  all_goals go_ret
  all_goals refine ⟨ret_bool ?_, ?_⟩
  all_goals first
    | (rw [Bool.eq_iff_iff, rightH_1]
       first
         | omega
         | (simp_all; done)
         | (simp_all; omega)
         | (refine ⟨fun h => ?_, fun h => ?_⟩
            · cases h
            · exfalso; omega))
    | exact Hbw.out
    | exact Hbw.out.trans (Hb2.out.mono Hbw.out.size)
theorem aRight_2 (fn op num : Int) (metric : ByteArray) (mats : List Mat) (span : Int) (names : List ByteArray) (kn : Nat) (vm vn : Value) (pk : Option Addr) (ck n : Nat) (w : World) (hn : n ≤ w.heap.size)
    (hs : metric.size ≤ maxLen) (hm : IsMats n w vm mats) (hna : IsStrs n w vn names) (hkn : kn ≤ 9223372036854775807) :
    Calls Tryz.prog 40 #[.agg #[.int .i64 2, .int .i64 fn, .int .i64 op, .int .i64 num, .string metric, vm, .int .i64 span, vn, .slice pk kn ck]] w
      fun e w' => e = .returned (.bool (rightH (hasOf 2) kn fn op num metric mats span names)) ∧ Below w.heap.size w w' := by
  obtain ⟨pm, cm, rfl, _, _, hlm⟩ := hm.open
  obtain ⟨pn, cn, rfl, _, _, hln⟩ := hna.open
  unfold maxLen at hlm hln
  have hK : ∀ w : World, Calls Tryz.prog 58 #[.int .i64 2] w fun e w' => e = .returned (.tuple #[.agg (hasOf 2).cells.toArray, .bool true]) ∧ Below w.heap.size w w' := fun w => aKind 2 w
  simp only [hasOf, Has.cells] at hK
  have HK := Lib.hid hK; clear hK
  go_enter Tryz.func40, Tryz.ntmps40; (try simp only [List.append_eq, List.cons_append, List.nil_append])
  go_upto_region 2 with (go_at_call 58; refine (HK.out _).mono ?_; rintro e w1 ⟨rfl, hb1⟩; have Hb1 := Lib.hid hb1; clear hb1)
  have hbe : Box (w1.alloc (.cells (hasOf 2).cells.toArray 95)) w.heap.size [.int .i64 2, .int .i64 fn, .int .i64 op, .int .i64 num, .string metric, .slice pm mats.length cm, .int .i64 span, .slice pn names.length cn, .slice pk kn ck] :=
    ((Box.new w _ 37).keep Hb1.out).keep ((Below.refl _ _).alloc (Nat.le_refl _) _)
  have hbh : Box (w1.alloc (.cells (hasOf 2).cells.toArray 95)) w1.heap.size (hasOf 2).cells := Box.new w1 _ _
  have hbw : Below w.heap.size w (w1.alloc (.cells (hasOf 2).cells.toArray 95)) :=
    (((Below.refl _ _).alloc (Nat.le_refl _) _).trans (Hb1.out.mono (by simp))).alloc (by have := Hb1.out.size; simp at this; omega) _
  simp only [hasOf, Has.cells] at hbe hbh hbw
  revert hbe hbh hbw
  simp only [Int.reduceEq, if_true, if_false]
  generalize w1.heap.size = B
  generalize w1.alloc _ = W
  intro hbe hbh hbw
  have hnW : n ≤ W.heap.size := Nat.le_trans hn hbw.size
  have Hmm := Lib.hid (hm.mono (hbw.mono hn) (Nat.le_refl _))
  have Hnn := Lib.hid (hna.mono (hbw.mono hn) (Nat.le_refl _))
  clear hm hna Hb1
  have Hbe := Lib.hid hbe; clear hbe
  have Hbh := Lib.hid hbh; clear hbh
  have Hbw := Lib.hid hbw; clear hbw
  have c1 := Hbe.out.2 1 _ rfl
  have c2 := Hbe.out.2 2 _ rfl
  have c3 := Hbe.out.2 3 _ rfl
  have c4 := Hbe.out.2 4 _ rfl
  have c5 := Hbe.out.2 5 _ rfl
  have c6 := Hbe.out.2 6 _ rfl
  have c7 := Hbe.out.2 7 _ rfl
  have c8 := Hbe.out.2 8 _ rfl
  have h0 := Hbh.out.2 0 _ rfl
  have h1 := Hbh.out.2 1 _ rfl
  have h2 := Hbh.out.2 2 _ rfl
  have h3 := Hbh.out.2 3 _ rfl
  have h4 := Hbh.out.2 4 _ rfl
  have h5 := Hbh.out.2 5 _ rfl
  have h6 := Hbh.out.2 6 _ rfl
  have h7 := Hbh.out.2 7 _ rfl
  go_wp2_with (first
    | (go_at_call 59; refine (aNames _ _ n _ hnW Hnn.out).mono ?_; rintro e wx ⟨rfl, rfl⟩)
    | (go_at_call 60; refine (lName _ _ hs).mono ?_; rintro e wx ⟨rfl, rfl⟩)
    | (go_at_call 26; refine (aSpan _ _).mono ?_; rintro e wx ⟨rfl, rfl⟩)
    | (go_at_call 61; refine (lCheckMatch _ _ n _ hnW Hmm.out).mono ?_; rintro e w2 ⟨rfl, hb2⟩; have x6 := (Hbe.out.keep hb2).2 6 _ rfl; have y6 := (Hbh.out.keep hb2).2 6 _ rfl; have y7 := (Hbh.out.keep hb2).2 7 _ rfl; have Hb2 := Lib.hid hb2; clear hb2))
  all_goals (try simp only [Bool.not_eq_true', Bool.not_eq_false', Bool.not_true, Bool.not_false, Bool.not_eq_true, Bool.not_eq_false, beq_iff_eq, beq_eq_false_iff_ne, bne_iff_ne, ne_eq, bne_eq_false_iff_eq, decide_eq_true_eq, decide_eq_false_iff_not, toList_inj] at *)
  all_goals go_ret
  all_goals refine ⟨ret_bool ?_, ?_⟩
  all_goals first
    | (rw [Bool.eq_iff_iff, rightH_2]
       first
         | omega
         | (simp_all; done)
         | (simp_all; omega)
         | (refine ⟨fun h => ?_, fun h => ?_⟩
            · cases h
            · exfalso; omega))
    | exact Hbw.out
    | exact Hbw.out.trans (Hb2.out.mono Hbw.out.size)
theorem aRight_3 (fn op num : Int) (metric : ByteArray) (mats : List Mat) (span : Int) (names : List ByteArray) (kn : Nat) (vm vn : Value) (pk : Option Addr) (ck n : Nat) (w : World) (hn : n ≤ w.heap.size)
    (hs : metric.size ≤ maxLen) (hm : IsMats n w vm mats) (hna : IsStrs n w vn names) (hkn : kn ≤ 9223372036854775807) :
    Calls Tryz.prog 40 #[.agg #[.int .i64 3, .int .i64 fn, .int .i64 op, .int .i64 num, .string metric, vm, .int .i64 span, vn, .slice pk kn ck]] w
      fun e w' => e = .returned (.bool (rightH (hasOf 3) kn fn op num metric mats span names)) ∧ Below w.heap.size w w' := by
  obtain ⟨pm, cm, rfl, _, _, hlm⟩ := hm.open
  obtain ⟨pn, cn, rfl, _, _, hln⟩ := hna.open
  unfold maxLen at hlm hln
  have hK : ∀ w : World, Calls Tryz.prog 58 #[.int .i64 3] w fun e w' => e = .returned (.tuple #[.agg (hasOf 3).cells.toArray, .bool true]) ∧ Below w.heap.size w w' := fun w => aKind 3 w
  simp only [hasOf, Has.cells] at hK
  have HK := Lib.hid hK; clear hK
  go_enter Tryz.func40, Tryz.ntmps40; (try simp only [List.append_eq, List.cons_append, List.nil_append])
  go_upto_region 2 with (go_at_call 58; refine (HK.out _).mono ?_; rintro e w1 ⟨rfl, hb1⟩; have Hb1 := Lib.hid hb1; clear hb1)
  have hbe : Box (w1.alloc (.cells (hasOf 3).cells.toArray 95)) w.heap.size [.int .i64 3, .int .i64 fn, .int .i64 op, .int .i64 num, .string metric, .slice pm mats.length cm, .int .i64 span, .slice pn names.length cn, .slice pk kn ck] :=
    ((Box.new w _ 37).keep Hb1.out).keep ((Below.refl _ _).alloc (Nat.le_refl _) _)
  have hbh : Box (w1.alloc (.cells (hasOf 3).cells.toArray 95)) w1.heap.size (hasOf 3).cells := Box.new w1 _ _
  have hbw : Below w.heap.size w (w1.alloc (.cells (hasOf 3).cells.toArray 95)) :=
    (((Below.refl _ _).alloc (Nat.le_refl _) _).trans (Hb1.out.mono (by simp))).alloc (by have := Hb1.out.size; simp at this; omega) _
  simp only [hasOf, Has.cells] at hbe hbh hbw
  revert hbe hbh hbw
  simp only [Int.reduceEq, if_true, if_false]
  generalize w1.heap.size = B
  generalize w1.alloc _ = W
  intro hbe hbh hbw
  have hnW : n ≤ W.heap.size := Nat.le_trans hn hbw.size
  have Hmm := Lib.hid (hm.mono (hbw.mono hn) (Nat.le_refl _))
  have Hnn := Lib.hid (hna.mono (hbw.mono hn) (Nat.le_refl _))
  clear hm hna Hb1
  have Hbe := Lib.hid hbe; clear hbe
  have Hbh := Lib.hid hbh; clear hbh
  have Hbw := Lib.hid hbw; clear hbw
  have c1 := Hbe.out.2 1 _ rfl
  have c2 := Hbe.out.2 2 _ rfl
  have c3 := Hbe.out.2 3 _ rfl
  have c4 := Hbe.out.2 4 _ rfl
  have c5 := Hbe.out.2 5 _ rfl
  have c6 := Hbe.out.2 6 _ rfl
  have c7 := Hbe.out.2 7 _ rfl
  have c8 := Hbe.out.2 8 _ rfl
  have h0 := Hbh.out.2 0 _ rfl
  have h1 := Hbh.out.2 1 _ rfl
  have h2 := Hbh.out.2 2 _ rfl
  have h3 := Hbh.out.2 3 _ rfl
  have h4 := Hbh.out.2 4 _ rfl
  have h5 := Hbh.out.2 5 _ rfl
  have h6 := Hbh.out.2 6 _ rfl
  have h7 := Hbh.out.2 7 _ rfl
  go_wp2_with (first
    | (go_at_call 59; refine (aNames _ _ n _ hnW Hnn.out).mono ?_; rintro e wx ⟨rfl, rfl⟩)
    | (go_at_call 60; refine (lName _ _ hs).mono ?_; rintro e wx ⟨rfl, rfl⟩)
    | (go_at_call 26; refine (aSpan _ _).mono ?_; rintro e wx ⟨rfl, rfl⟩)
    | (go_at_call 61; refine (lCheckMatch _ _ n _ hnW Hmm.out).mono ?_; rintro e w2 ⟨rfl, hb2⟩; have x6 := (Hbe.out.keep hb2).2 6 _ rfl; have y6 := (Hbh.out.keep hb2).2 6 _ rfl; have y7 := (Hbh.out.keep hb2).2 7 _ rfl; have Hb2 := Lib.hid hb2; clear hb2))
  all_goals (try simp only [Bool.not_eq_true', Bool.not_eq_false', Bool.not_true, Bool.not_false, Bool.not_eq_true, Bool.not_eq_false, beq_iff_eq, beq_eq_false_iff_ne, bne_iff_ne, ne_eq, bne_eq_false_iff_eq, decide_eq_true_eq, decide_eq_false_iff_not, toList_inj] at *)
  all_goals go_ret
  all_goals refine ⟨ret_bool ?_, ?_⟩
  all_goals first
    | (rw [Bool.eq_iff_iff, rightH_3]
       first
         | omega
         | (simp_all; done)
         | (simp_all; omega)
         | (refine ⟨fun h => ?_, fun h => ?_⟩
            · cases h
            · exfalso; omega))
    | exact Hbw.out
    | exact Hbw.out.trans (Hb2.out.mono Hbw.out.size)
theorem aRight_4 (fn op num : Int) (metric : ByteArray) (mats : List Mat) (span : Int) (names : List ByteArray) (kn : Nat) (vm vn : Value) (pk : Option Addr) (ck n : Nat) (w : World) (hn : n ≤ w.heap.size)
    (hs : metric.size ≤ maxLen) (hm : IsMats n w vm mats) (hna : IsStrs n w vn names) (hkn : kn ≤ 9223372036854775807) :
    Calls Tryz.prog 40 #[.agg #[.int .i64 4, .int .i64 fn, .int .i64 op, .int .i64 num, .string metric, vm, .int .i64 span, vn, .slice pk kn ck]] w
      fun e w' => e = .returned (.bool (rightH (hasOf 4) kn fn op num metric mats span names)) ∧ Below w.heap.size w w' := by
  obtain ⟨pm, cm, rfl, _, _, hlm⟩ := hm.open
  obtain ⟨pn, cn, rfl, _, _, hln⟩ := hna.open
  unfold maxLen at hlm hln
  have hK : ∀ w : World, Calls Tryz.prog 58 #[.int .i64 4] w fun e w' => e = .returned (.tuple #[.agg (hasOf 4).cells.toArray, .bool true]) ∧ Below w.heap.size w w' := fun w => aKind 4 w
  simp only [hasOf, Has.cells] at hK
  have HK := Lib.hid hK; clear hK
  go_enter Tryz.func40, Tryz.ntmps40; (try simp only [List.append_eq, List.cons_append, List.nil_append])
  go_upto_region 2 with (go_at_call 58; refine (HK.out _).mono ?_; rintro e w1 ⟨rfl, hb1⟩; have Hb1 := Lib.hid hb1; clear hb1)
  have hbe : Box (w1.alloc (.cells (hasOf 4).cells.toArray 95)) w.heap.size [.int .i64 4, .int .i64 fn, .int .i64 op, .int .i64 num, .string metric, .slice pm mats.length cm, .int .i64 span, .slice pn names.length cn, .slice pk kn ck] :=
    ((Box.new w _ 37).keep Hb1.out).keep ((Below.refl _ _).alloc (Nat.le_refl _) _)
  have hbh : Box (w1.alloc (.cells (hasOf 4).cells.toArray 95)) w1.heap.size (hasOf 4).cells := Box.new w1 _ _
  have hbw : Below w.heap.size w (w1.alloc (.cells (hasOf 4).cells.toArray 95)) :=
    (((Below.refl _ _).alloc (Nat.le_refl _) _).trans (Hb1.out.mono (by simp))).alloc (by have := Hb1.out.size; simp at this; omega) _
  simp only [hasOf, Has.cells] at hbe hbh hbw
  revert hbe hbh hbw
  simp only [Int.reduceEq, if_true, if_false]
  generalize w1.heap.size = B
  generalize w1.alloc _ = W
  intro hbe hbh hbw
  have hnW : n ≤ W.heap.size := Nat.le_trans hn hbw.size
  have Hmm := Lib.hid (hm.mono (hbw.mono hn) (Nat.le_refl _))
  have Hnn := Lib.hid (hna.mono (hbw.mono hn) (Nat.le_refl _))
  clear hm hna Hb1
  have Hbe := Lib.hid hbe; clear hbe
  have Hbh := Lib.hid hbh; clear hbh
  have Hbw := Lib.hid hbw; clear hbw
  have c1 := Hbe.out.2 1 _ rfl
  have c2 := Hbe.out.2 2 _ rfl
  have c3 := Hbe.out.2 3 _ rfl
  have c4 := Hbe.out.2 4 _ rfl
  have c5 := Hbe.out.2 5 _ rfl
  have c6 := Hbe.out.2 6 _ rfl
  have c7 := Hbe.out.2 7 _ rfl
  have c8 := Hbe.out.2 8 _ rfl
  have h0 := Hbh.out.2 0 _ rfl
  have h1 := Hbh.out.2 1 _ rfl
  have h2 := Hbh.out.2 2 _ rfl
  have h3 := Hbh.out.2 3 _ rfl
  have h4 := Hbh.out.2 4 _ rfl
  have h5 := Hbh.out.2 5 _ rfl
  have h6 := Hbh.out.2 6 _ rfl
  have h7 := Hbh.out.2 7 _ rfl
  go_wp2_with (first
    | (go_at_call 59; refine (aNames _ _ n _ hnW Hnn.out).mono ?_; rintro e wx ⟨rfl, rfl⟩)
    | (go_at_call 60; refine (lName _ _ hs).mono ?_; rintro e wx ⟨rfl, rfl⟩)
    | (go_at_call 26; refine (aSpan _ _).mono ?_; rintro e wx ⟨rfl, rfl⟩)
    | (go_at_call 61; refine (lCheckMatch _ _ n _ hnW Hmm.out).mono ?_; rintro e w2 ⟨rfl, hb2⟩; have x6 := (Hbe.out.keep hb2).2 6 _ rfl; have y6 := (Hbh.out.keep hb2).2 6 _ rfl; have y7 := (Hbh.out.keep hb2).2 7 _ rfl; have Hb2 := Lib.hid hb2; clear hb2))
  all_goals (try simp only [Bool.not_eq_true', Bool.not_eq_false', Bool.not_true, Bool.not_false, Bool.not_eq_true, Bool.not_eq_false, beq_iff_eq, beq_eq_false_iff_ne, bne_iff_ne, ne_eq, bne_eq_false_iff_eq, decide_eq_true_eq, decide_eq_false_iff_not, toList_inj] at *)
  all_goals go_ret
  all_goals refine ⟨ret_bool ?_, ?_⟩
  all_goals first
    | (rw [Bool.eq_iff_iff, rightH_4]
       first
         | omega
         | (simp_all; done)
         | (simp_all; omega)
         | (refine ⟨fun h => ?_, fun h => ?_⟩
            · cases h
            · exfalso; omega))
    | exact Hbw.out
    | exact Hbw.out.trans (Hb2.out.mono Hbw.out.size)
theorem aRight_5 (fn op num : Int) (metric : ByteArray) (mats : List Mat) (span : Int) (names : List ByteArray) (kn : Nat) (vm vn : Value) (pk : Option Addr) (ck n : Nat) (w : World) (hn : n ≤ w.heap.size)
    (hs : metric.size ≤ maxLen) (hm : IsMats n w vm mats) (hna : IsStrs n w vn names) (hkn : kn ≤ 9223372036854775807) :
    Calls Tryz.prog 40 #[.agg #[.int .i64 5, .int .i64 fn, .int .i64 op, .int .i64 num, .string metric, vm, .int .i64 span, vn, .slice pk kn ck]] w
      fun e w' => e = .returned (.bool (rightH (hasOf 5) kn fn op num metric mats span names)) ∧ Below w.heap.size w w' := by
  obtain ⟨pm, cm, rfl, _, _, hlm⟩ := hm.open
  obtain ⟨pn, cn, rfl, _, _, hln⟩ := hna.open
  unfold maxLen at hlm hln
  have hK : ∀ w : World, Calls Tryz.prog 58 #[.int .i64 5] w fun e w' => e = .returned (.tuple #[.agg (hasOf 5).cells.toArray, .bool true]) ∧ Below w.heap.size w w' := fun w => aKind 5 w
  simp only [hasOf, Has.cells] at hK
  have HK := Lib.hid hK; clear hK
  go_enter Tryz.func40, Tryz.ntmps40; (try simp only [List.append_eq, List.cons_append, List.nil_append])
  go_upto_region 2 with (go_at_call 58; refine (HK.out _).mono ?_; rintro e w1 ⟨rfl, hb1⟩; have Hb1 := Lib.hid hb1; clear hb1)
  have hbe : Box (w1.alloc (.cells (hasOf 5).cells.toArray 95)) w.heap.size [.int .i64 5, .int .i64 fn, .int .i64 op, .int .i64 num, .string metric, .slice pm mats.length cm, .int .i64 span, .slice pn names.length cn, .slice pk kn ck] :=
    ((Box.new w _ 37).keep Hb1.out).keep ((Below.refl _ _).alloc (Nat.le_refl _) _)
  have hbh : Box (w1.alloc (.cells (hasOf 5).cells.toArray 95)) w1.heap.size (hasOf 5).cells := Box.new w1 _ _
  have hbw : Below w.heap.size w (w1.alloc (.cells (hasOf 5).cells.toArray 95)) :=
    (((Below.refl _ _).alloc (Nat.le_refl _) _).trans (Hb1.out.mono (by simp))).alloc (by have := Hb1.out.size; simp at this; omega) _
  simp only [hasOf, Has.cells] at hbe hbh hbw
  revert hbe hbh hbw
  simp only [Int.reduceEq, if_true, if_false]
  generalize w1.heap.size = B
  generalize w1.alloc _ = W
  intro hbe hbh hbw
  have hnW : n ≤ W.heap.size := Nat.le_trans hn hbw.size
  have Hmm := Lib.hid (hm.mono (hbw.mono hn) (Nat.le_refl _))
  have Hnn := Lib.hid (hna.mono (hbw.mono hn) (Nat.le_refl _))
  clear hm hna Hb1
  have Hbe := Lib.hid hbe; clear hbe
  have Hbh := Lib.hid hbh; clear hbh
  have Hbw := Lib.hid hbw; clear hbw
  have c1 := Hbe.out.2 1 _ rfl
  have c2 := Hbe.out.2 2 _ rfl
  have c3 := Hbe.out.2 3 _ rfl
  have c4 := Hbe.out.2 4 _ rfl
  have c5 := Hbe.out.2 5 _ rfl
  have c6 := Hbe.out.2 6 _ rfl
  have c7 := Hbe.out.2 7 _ rfl
  have c8 := Hbe.out.2 8 _ rfl
  have h0 := Hbh.out.2 0 _ rfl
  have h1 := Hbh.out.2 1 _ rfl
  have h2 := Hbh.out.2 2 _ rfl
  have h3 := Hbh.out.2 3 _ rfl
  have h4 := Hbh.out.2 4 _ rfl
  have h5 := Hbh.out.2 5 _ rfl
  have h6 := Hbh.out.2 6 _ rfl
  have h7 := Hbh.out.2 7 _ rfl
  go_wp2_with (first
    | (go_at_call 59; refine (aNames _ _ n _ hnW Hnn.out).mono ?_; rintro e wx ⟨rfl, rfl⟩)
    | (go_at_call 60; refine (lName _ _ hs).mono ?_; rintro e wx ⟨rfl, rfl⟩)
    | (go_at_call 26; refine (aSpan _ _).mono ?_; rintro e wx ⟨rfl, rfl⟩)
    | (go_at_call 61; refine (lCheckMatch _ _ n _ hnW Hmm.out).mono ?_; rintro e w2 ⟨rfl, hb2⟩; have x6 := (Hbe.out.keep hb2).2 6 _ rfl; have y6 := (Hbh.out.keep hb2).2 6 _ rfl; have y7 := (Hbh.out.keep hb2).2 7 _ rfl; have Hb2 := Lib.hid hb2; clear hb2))
  all_goals (try simp only [Bool.not_eq_true', Bool.not_eq_false', Bool.not_true, Bool.not_false, Bool.not_eq_true, Bool.not_eq_false, beq_iff_eq, beq_eq_false_iff_ne, bne_iff_ne, ne_eq, bne_eq_false_iff_eq, decide_eq_true_eq, decide_eq_false_iff_not, toList_inj] at *)
  all_goals go_ret
  all_goals refine ⟨ret_bool ?_, ?_⟩
  all_goals first
    | (rw [Bool.eq_iff_iff, rightH_5]
       first
         | omega
         | (simp_all; done)
         | (simp_all; omega)
         | (refine ⟨fun h => ?_, fun h => ?_⟩
            · cases h
            · exfalso; omega))
    | exact Hbw.out
    | exact Hbw.out.trans (Hb2.out.mono Hbw.out.size)
theorem aRight (e : Ex) (cs : List Value) (n : Nat) (w : World) (hn : n ≤ w.heap.size) (he : IsEx n w e cs) :
    Calls Tryz.prog 40 #[.agg cs.toArray] w fun e' w' => e' = .returned (.bool (rightB e)) ∧ Below w.heap.size w w' := by
  cases he with
  | @mk kind fn op num metric mats span names kids vm vn vk rows hs hm hna hk hl hr =>
    obtain ⟨pk, ck, rfl, _, _⟩ := hk; rw [hl]; have hkl : kids.length ≤ 9223372036854775807 := by unfold maxLen at *; omega
    simp only [rightB, Ex.kind, Ex.kids, Ex.fn, Ex.op, Ex.num, Ex.metric, Ex.mats, Ex.span, Ex.names]
    by_cases hok : 1 ≤ kind ∧ kind ≤ 5
    · have hkk : kind = 1 ∨ kind = 2 ∨ kind = 3 ∨ kind = 4 ∨ kind = 5 := by omega
      rw [show kindOk kind = true from decide_eq_true hok, Bool.true_and]; rcases hkk with rfl | rfl | rfl | rfl | rfl
      · exact aRight_1 fn op num metric mats span names kids.length vm vn pk ck n w hn hs hm hna hkl
      · exact aRight_2 fn op num metric mats span names kids.length vm vn pk ck n w hn hs hm hna hkl
      · exact aRight_3 fn op num metric mats span names kids.length vm vn pk ck n w hn hs hm hna hkl
      · exact aRight_4 fn op num metric mats span names kids.length vm vn pk ck n w hn hs hm hna hkl
      · exact aRight_5 fn op num metric mats span names kids.length vm vn pk ck n w hn hs hm hna hkl
    · have hz : kindOk kind = false := decide_eq_false hok
      rw [hz, Bool.false_and]; have hK := fun w => aKind kind w
      generalize hasOf kind = H at hK; rw [hz] at hK; simp only [Has.cells] at hK; have HK := Lib.hid hK; clear hK; clear hz hok
      go_enter Tryz.func40, Tryz.ntmps40; (try simp only [List.append_eq, List.cons_append, List.nil_append])
      go_wp2_with (go_at_call 58; refine (HK.out _).mono ?_; rintro e w1 ⟨rfl, hb1⟩; have Hb1 := Lib.hid hb1; clear hb1)
      go_ret; exact ⟨rfl, (((Below.refl _ _).alloc (Nat.le_refl _) _).trans (Hb1.out.mono (by simp))).alloc (by have := Hb1.out.size; simp at this; omega) _⟩
end Go.Proofs.YtdjdikiimhhjpaaGreatDoor
namespace Go.Proofs.YtdjdikiimhhjpaaGreatDoor
open Go.RowKit
set_option linter.unusedSimpArgs false
set_option linter.unusedVariables false
theorem kLight (e : Ex) (cs : List Value) (most : Int) (n : Nat) (w : World) (hn : n ≤ w.heap.size) (h0 : 0 ≤ most) (h1 : most ≤ 1000) (he : IsEx n w e cs) :
    Calls Tryz.prog 13 #[.agg cs.toArray, .int .i64 most] w fun e' w' => e' = .returned (.bool (light e most)) ∧ Below w.heap.size w w' := by
  obtain ⟨vm, vn, vk, rfl, hsz, hm, hna, hk⟩ := he.cells
  have He := Lib.hid he; clear he
  go_enter Tryz.func13, Tryz.ntmps13
  go_wp2_with fail
  refine (kWeigh 40 e _ most 40 n _ (by simp; omega) h0 h1 rfl (by omega) (He.out.mono ((Below.refl _ _).alloc hn _) (Nat.le_refl _))).mono ?_
  rintro e' w1 ⟨rfl, hb1⟩
  have hbox := (Box.new w [.int .i64 e.kind, .int .i64 e.fn, .int .i64 e.op, .int .i64 e.num, .string e.metric, vm, .int .i64 e.span, vn, vk] 37).keep hb1
  have c0 := hbox.2 0 _ rfl
  have c1 := hbox.2 1 _ rfl
  have c2 := hbox.2 2 _ rfl
  have c3 := hbox.2 3 _ rfl
  have c4 := hbox.2 4 _ rfl
  have c5 := hbox.2 5 _ rfl
  have c6 := hbox.2 6 _ rfl
  have c7 := hbox.2 7 _ rfl
  have c8 := hbox.2 8 _ rfl
  have hbw : Below w.heap.size w w1 := ((Below.refl w.heap.size w).alloc (Nat.le_refl _) _).trans (hb1.mono (by simp))
  have Hbw := Lib.hid hbw; clear hbw
  have Hb1 := Lib.hid hb1; clear hb1
  have Hbox := Lib.hid hbox; clear hbox
  by_cases hw : weigh 40 e most ≤ most
  · go_wp2_with fail
    refine (kShort e _ n _ (by have := Hbw.out.size; omega) (He.out.mono (Hbw.out.mono hn) (Nat.le_refl _))).mono ?_; rintro e' w2 ⟨rfl, hb2⟩
    go_wp2_with fail
    go_ret; exact ⟨ret_bool (by unfold light; rw [decide_eq_true hw]; rfl), Hbw.out.trans (hb2.mono Hbw.out.size)⟩
  · go_wp2_with fail
    go_ret; exact ⟨ret_bool (by unfold light; rw [decide_eq_false (by omega)]; rfl), Hbw.out⟩
theorem ne_field {a b : Ex} {α : Type} (f : Ex → α) (h : ¬ f a = f b) : ¬ a = b := fun e => h (by rw [e])
def alike (a b : Ex) : Prop := a.kind = b.kind ∧ a.fn = b.fn ∧ a.op = b.op ∧ a.num = b.num ∧ a.metric = b.metric ∧ a.mats = b.mats ∧ a.span = b.span ∧ a.names = b.names ∧ a.kids.length = b.kids.length
instance (a b : Ex) : Decidable (alike a b) := by unfold alike; infer_instance
theorem alike_eq {a b : Ex} (h : alike a b) (hk : a.kids = b.kids) : a = b := Ex.ext h.1 h.2.1 h.2.2.1 h.2.2.2.1 h.2.2.2.2.1 h.2.2.2.2.2.1 h.2.2.2.2.2.2.1 h.2.2.2.2.2.2.2.1 hk
theorem alike_of {a b : Ex} (h : a = b) : alike a b := by subst h; exact ⟨rfl, rfl, rfl, rfl, rfl, rfl, rfl, rfl, rfl⟩
theorem take_eq_step' {α : Type} {a b : List α} {k : Nat} (h : a.take k = b.take k) (ha : k < a.length) (hb : k < b.length) : a[k] = b[k] → a.take (k + 1) = b.take (k + 1) := take_eq_step h ha hb
theorem kExpr : ∀ (a b : Ex) (cs ds : List Value) (n : Nat) (w : World), n ≤ w.heap.size → IsEx n w a cs → IsEx n w b ds →
    Calls Tryz.prog 18 #[.agg cs.toArray, .agg ds.toArray] w fun e' w' => e' = .returned (.bool (decide (a = b))) ∧ Below w.heap.size w w' := by
  refine Ex.ind fun a ih => ?_
  intro b cs ds n w hn ha hb
  obtain ⟨am, an, ak, rfl, hsa, hma, hna, hka⟩ := ha.cells
  obtain ⟨bm, bn, bk, rfl, hsb, hmb, hnb, hkb⟩ := hb.cells
  obtain ⟨pa, ca, rfl, _, _, hla⟩ := hka.open
  obtain ⟨pb, cb, rfl, _, _, hlb⟩ := hkb.open
  have Hih := Lib.hid ih; clear ih
  have Ha := Lib.hid ha; clear ha
  have Hb := Lib.hid hb; clear hb
  unfold maxLen at hla hlb
  go_enter Tryz.func18, Tryz.ntmps18; (try simp only [List.append_eq, List.cons_append, List.nil_append])
  go_upto_region 0 with fail
  go_cut [2, 3, 4] (fun s2 s3 s4 wx => s2 = .pointer (some ⟨w.heap.size, 0, none⟩) ∧ s3 = .pointer (some ⟨w.heap.size + 1, 0, none⟩) ∧ s4 = .bool false ∧ Below w.heap.size w wx ∧
      Box wx w.heap.size [.int .i64 a.kind, .int .i64 a.fn, .int .i64 a.op, .int .i64 a.num, .string a.metric, am, .int .i64 a.span, an, .slice pa a.kids.length ca] ∧ Box wx (w.heap.size + 1) [.int .i64 b.kind, .int .i64 b.fn, .int .i64 b.op, .int .i64 b.num, .string b.metric, bm, .int .i64 b.span, bn, .slice pb b.kids.length cb])
  case first =>
    go_wp2
    go_meet
    have hby := Box.new (w.alloc (.cells ([.int .i64 a.kind, .int .i64 a.fn, .int .i64 a.op, .int .i64 a.num, .string a.metric, am, .int .i64 a.span, an, .slice pa a.kids.length ca]).toArray 37)) [.int .i64 b.kind, .int .i64 b.fn, .int .i64 b.op, .int .i64 b.num, .string b.metric, bm, .int .i64 b.span, bn, .slice pb b.kids.length cb] 37; rw [World.size_alloc] at hby; exact ⟨rfl, rfl, rfl, ((Below.refl _ _).alloc (Nat.le_refl _) _).alloc (by simp) _, (Box.new w _ _).keep ((Below.refl _ _).alloc (Nat.le_refl _) _), hby⟩
  case rest =>
    obtain ⟨rfl, rfl, rfl, hbw, hbx, hby⟩ := hcut; obtain ⟨W, rfl⟩ : ∃ W : World, W = wc := ⟨_, rfl⟩; have hsz := hbx.1; have hsz2 := hby.1; have Hbx := Lib.hid hbx; clear hbx; have Hby := Lib.hid hby; clear hby; have Hbw := Lib.hid hbw; clear hbw; have Hma := Lib.hid (hma.mono (Hbw.out.mono hn) (Nat.le_refl _)); clear hma; have Hmb := Lib.hid (hmb.mono (Hbw.out.mono hn) (Nat.le_refl _)); clear hmb; have Hna := Lib.hid (hna.mono (Hbw.out.mono hn) (Nat.le_refl _)); clear hna; have Hnb := Lib.hid (hnb.mono (Hbw.out.mono hn) (Nat.le_refl _)); clear hnb; have Hka := Lib.hid (hka.mono (Hbw.out.mono hn) (Nat.le_refl _)); clear hka; have Hkb := Lib.hid (hkb.mono (Hbw.out.mono hn) (Nat.le_refl _)); clear hkb; have hnW : n ≤ W.heap.size := by omega
    clear hn
    go_upto_region 1 with fail
    go_cut [0, 1, 70] (fun s0 s1 s70 wx => s70 = .bool (!decide (alike a b)) ∧ Below W.heap.size W wx)
    case first =>
      have c0 := Hbx.out.2 0 _ rfl; have d0 := Hby.out.2 0 _ rfl; have c1 := Hbx.out.2 1 _ rfl; have d1 := Hby.out.2 1 _ rfl; have c2 := Hbx.out.2 2 _ rfl; have d2 := Hby.out.2 2 _ rfl; have c3 := Hbx.out.2 3 _ rfl; have d3 := Hby.out.2 3 _ rfl; have c4 := Hbx.out.2 4 _ rfl; have d4 := Hby.out.2 4 _ rfl; have c5 := Hbx.out.2 5 _ rfl; have d5 := Hby.out.2 5 _ rfl; have c6 := Hbx.out.2 6 _ rfl; have d6 := Hby.out.2 6 _ rfl; have c7 := Hbx.out.2 7 _ rfl; have d7 := Hby.out.2 7 _ rfl; have c8 := Hbx.out.2 8 _ rfl; have d8 := Hby.out.2 8 _ rfl
      go_wp2_with (first
        | (go_at_call 33; refine (kMatch _ _ _ _ n _ hnW Hma.out Hmb.out).mono ?_; rintro e' w1 ⟨rfl, hb1⟩; have x6 := (Hbx.out.keep hb1).2 6 _ rfl; have x7 := (Hbx.out.keep hb1).2 7 _ rfl; have x8 := (Hbx.out.keep hb1).2 8 _ rfl; have y6 := (Hby.out.keep hb1).2 6 _ rfl; have y7 := (Hby.out.keep hb1).2 7 _ rfl; have y8 := (Hby.out.keep hb1).2 8 _ rfl; have Hb1 := Lib.hid hb1; clear hb1)
        | (go_at_call 34; refine (kTexts _ _ _ _ n _ (Nat.le_trans hnW Hb1.out.size) (Hna.out.mono (Hb1.out.mono hnW) (Nat.le_refl _)) (Hnb.out.mono (Hb1.out.mono hnW) (Nat.le_refl _))).mono ?_; rintro e' w2 ⟨rfl, hb2⟩; have z8 := (Hbx.out.keep (Hb1.out.trans (hb2.mono Hb1.out.size))).2 8 _ rfl; have u8 := (Hby.out.keep (Hb1.out.trans (hb2.mono Hb1.out.size))).2 8 _ rfl; have Hb2 := Lib.hid hb2; clear hb2))
      all_goals go_meet
      all_goals (try simp only [Bool.not_eq_true', Bool.not_eq_false', Bool.not_true, Bool.not_false, Bool.not_eq_true, Bool.not_eq_false, beq_iff_eq, beq_eq_false_iff_ne, bne_iff_ne, ne_eq, bne_eq_false_iff_eq, decide_eq_true_eq, decide_eq_false_iff_not, toList_inj] at *)
      all_goals first
        | (refine ⟨?_, ?_⟩
           · rw [decide_eq_false (fun h => ?_)]
             · rfl
             · obtain ⟨h1, h2, h3, h4, h5, h6, h7, h8, h9⟩ := h
               contradiction
           · first
               | exact Below.refl _ _
               | exact Hb1.out
               | exact Hb1.out.trans (Hb2.out.mono Hb1.out.size))
        | skip
      refine ⟨?_, Hb1.out.trans (Hb2.out.mono Hb1.out.size)⟩
      by_cases hl : a.kids.length = b.kids.length
      · rw [decide_eq_true (show alike a b from ⟨by assumption, by assumption, by assumption, by assumption, by assumption, by assumption, by assumption, by assumption, hl⟩)]
        simp [hl]
      · rw [decide_eq_false (fun h : alike a b => hl h.2.2.2.2.2.2.2.2)]
        congr 1
        simp; omega
    case rest =>
      obtain ⟨rfl, hbc⟩ := hcut; have Hbc := Lib.hid hbc; clear hbc
      by_cases hal : alike a b
      · have Hal := Lib.hid hal; clear hal
        have hd : (!decide (alike a b)) = false := by rw [decide_eq_true Hal.out]; rfl
        have hlen : a.kids.length = b.kids.length := Hal.out.2.2.2.2.2.2.2.2; have Hlen := Lib.hid hlen; clear hlen; rw [hd]; clear hd; have hsz3 := Hbc.out.size; go_wp2
        go_loopw [5] (fun i wr => ∃ k : Nat, k ≤ a.kids.length ∧ i = .int .i64 k ∧ a.kids.take k = b.kids.take k ∧ Below W.heap.size W wr) (fun i _ => a.kids.length - (intOf i).toNat)
        case atStart => exact ⟨0, Nat.zero_le _, rfl, by simp, Hbc.out⟩
        case round =>
          obtain ⟨k, hk, rfl, hr, hbl⟩ := hrel; have Hr := Lib.hid hr; clear hr; have Hbl := Lib.hid hbl; clear hbl; have c8 := (Hbx.out.keep Hbl.out).2 8 _ rfl; have d8 := (Hby.out.keep Hbl.out).2 8 _ rfl
          by_cases hlt : k < a.kids.length
          · have hltb : k < b.kids.length := by have := Hlen.out; omega
            obtain ⟨b1, off, r0, r1, r2, r3, r4, r5, r6, r7, r8, rfl, hbn, hei, e0, e1, e2, e3, e4, e5, e6, e7, e8⟩ := (Hka.out.mono (Hbl.out.mono hnW) (Nat.le_refl _)).get hlt; obtain ⟨b2, off2, q0, q1, q2, q3, q4, q5, q6, q7, q8, rfl, hbn2, hei2, f0, f1, f2, f3, f4, f5, f6, f7, f8⟩ := (Hkb.out.mono (Hbl.out.mono hnW) (Nat.le_refl _)).get hltb; have Hei := Lib.hid hei; clear hei; have Hei2 := Lib.hid hei2; clear hei2; have hszr := Hbl.out.size; have Hl := Lib.hid (take_eq_step' (a := a.kids) (b := b.kids) Hr.out hlt hltb); go_wp2
            go_still_tail 10, (by kernel_rfl)
            change wpList _ _ _ _ _ wr.drew
            have hbd : Below wr.heap.size wr wr.drew := (Below.refl _ _).drew; have hszd : wr.drew.heap.size = wr.heap.size := rfl; generalize wr.drew = wd at hbd hszd
            go_wp2_with (go_at_call 18; refine (Hih.out _ (List.getElem_mem hlt) b.kids[k] _ _ n wd (by omega) (Hei.out.mono (hbd.mono (by omega)) (Nat.le_refl _)) (Hei2.out.mono (hbd.mono (by omega)) (Nat.le_refl _))).mono ?_; rintro e' w2 ⟨rfl, hb2⟩)
            all_goals (try simp only [Bool.not_eq_true', Bool.not_eq_false', Bool.not_true, Bool.not_false, Bool.not_eq_true, Bool.not_eq_false, beq_iff_eq, beq_eq_false_iff_ne, bne_iff_ne, ne_eq, bne_eq_false_iff_eq, decide_eq_true_eq, decide_eq_false_iff_not, toList_inj] at *)
            · go_ret
              refine ⟨ret_bool (Eq.symm (decide_eq_false (fun e => ?_))), Hbw.out.trans ((Hbl.out.trans ((hbd.trans (hb2.mono hbd.size)).mono Hbl.out.size)).mono (by omega))⟩; subst e
              contradiction
            · refine ⟨⟨k + 1, by omega, by go_num, Hl.out ?_, Hbl.out.trans ((hbd.trans (hb2.mono hbd.size)).mono Hbl.out.size)⟩, by simp [intOf]; omega⟩
              assumption
          · go_wp2
            go_ret; refine ⟨ret_bool (Eq.symm (decide_eq_true (alike_eq Hal.out ?_))), Hbw.out.trans (Hbl.out.mono (by omega))⟩; have hk' : k = a.kids.length := by omega
            have hr := Hr.out; rw [hk'] at hr; exact eq_of_upto Hlen.out hr
      · have hd : (!decide (alike a b)) = true := by rw [decide_eq_false hal]; rfl
        rw [hd]; have Hal := Lib.hid hal; clear hal; go_wp2; go_ret; exact ⟨ret_bool (Eq.symm (decide_eq_false (fun e => Hal.out (alike_of e)))), Hbw.out.trans (Hbc.out.mono (by omega))⟩
end Go.Proofs.YtdjdikiimhhjpaaGreatDoor
namespace Go.Proofs.YtdjdikiimhhjpaaGreatDoor
open Go.RowKit
set_option linter.unusedSimpArgs false
set_option linter.unusedVariables false
theorem eqMats (la lb : List Mat) (va vb : Value) (n : Nat) (w : World) (hn : n ≤ w.heap.size) (ha : IsMats n w va la) (hb : IsMats n w vb lb) :
    Calls Tryz.prog 85 #[va, vb] w fun e w' => e = .returned (.bool (decide (la = lb))) ∧ Below w.heap.size w w' := by
  obtain ⟨p, cap, rfl, _, _, hla⟩ := ha.open
  obtain ⟨q, cbp, rfl, _, _, hlb⟩ := hb.open
  unfold maxLen at hla hlb
  go_enter Tryz.func85, Tryz.ntmps85; (try simp only [List.append_eq, List.cons_append, List.nil_append])
  by_cases hl : la.length = lb.length
  · have Hl := Lib.hid hl; clear hl
    have hl : ((la.length : Int) != (lb.length : Int)) = false := by simp [Hl.out]
    go_wp2
    go_loopw [13] (fun i wr => ∃ k : Nat, k ≤ la.length ∧ i = .int .i64 k ∧ la.take k = lb.take k ∧ Below w.heap.size w wr) (fun i _ => la.length - (intOf i).toNat)
    case atStart => exact ⟨0, Nat.zero_le _, rfl, by simp, Below.refl _ _⟩
    case round =>
      obtain ⟨k, hk, rfl, hr, hbl⟩ := hrel; have Hr := Lib.hid hr; clear hr; have Hb := Lib.hid hbl; clear hbl
      by_cases hlt : k < la.length
      · have hltb : k < lb.length := by have := Hl.out; omega
        obtain ⟨b, off, rfl, hbn, h1, h2, h3, hs1, hs2⟩ := (ha.mono (Hb.out.mono hn) (Nat.le_refl _)).get hlt; obtain ⟨b', off', rfl, hbn', h1', h2', h3', hs1', hs2'⟩ := (hb.mono (Hb.out.mono hn) (Nat.le_refl _)).get hltb; have Ha := Lib.hid ha; clear ha; have Hbb := Lib.hid hb; clear hb; have hne := fun w => matNe la[k] lb[k] w
        go_wp2
        go_quiet (fail)
        go_wp2
        all_goals (try simp only [Bool.not_eq_true', Bool.not_eq_false', Bool.not_true, Bool.not_false, Bool.not_eq_true, Bool.not_eq_false, beq_iff_eq, beq_eq_false_iff_ne, bne_iff_ne, ne_eq, bne_eq_false_iff_eq, decide_eq_true_eq, decide_eq_false_iff_not, toList_inj] at *)
        · go_ret
          refine ⟨ret_bool (Eq.symm (decide_eq_false (ne_of_at hlt hltb ?_))), below_drewN Hb.out _⟩
          assumption
        · refine ⟨⟨k + 1, by omega, by go_num, take_eq_step Hr.out hlt hltb ?_, below_drewN Hb.out _⟩, by simp [intOf]; omega⟩
          assumption
      · go_wp2
        go_ret; refine ⟨ret_bool (Eq.symm (decide_eq_true ?_)), Hb.out⟩; have hk' : k = la.length := by omega
        subst hk'; exact eq_of_upto Hl.out Hr.out
  · have hl' : ((la.length : Int) != (lb.length : Int)) = true := by simp; omega
    go_wp2; go_ret; exact ⟨ret_bool (Eq.symm (decide_eq_false (fun e => hl (by rw [e])))), Below.refl _ _⟩
theorem eqStrs (la lb : List ByteArray) (va vb : Value) (n : Nat) (w : World) (hn : n ≤ w.heap.size) (ha : IsStrs n w va la) (hb : IsStrs n w vb lb) :
    Calls Tryz.prog 86 #[va, vb] w fun e w' => e = .returned (.bool (decide (la = lb))) ∧ Below w.heap.size w w' := by
  obtain ⟨p, cap, rfl, _, _, hla⟩ := ha.open
  obtain ⟨q, cbp, rfl, _, _, hlb⟩ := hb.open
  unfold maxLen at hla hlb
  go_enter Tryz.func86, Tryz.ntmps86; (try simp only [List.append_eq, List.cons_append, List.nil_append])
  by_cases hl : la.length = lb.length
  · have Hl := Lib.hid hl; clear hl
    have hl : ((la.length : Int) != (lb.length : Int)) = false := by simp [Hl.out]
    go_wp2
    go_loopw [13] (fun i wr => ∃ k : Nat, k ≤ la.length ∧ i = .int .i64 k ∧ la.take k = lb.take k ∧ Below w.heap.size w wr) (fun i _ => la.length - (intOf i).toNat)
    case atStart => exact ⟨0, Nat.zero_le _, rfl, by simp, Below.refl _ _⟩
    case round =>
      obtain ⟨k, hk, rfl, hr, hbl⟩ := hrel; have Hr := Lib.hid hr; clear hr; have Hb := Lib.hid hbl; clear hbl
      by_cases hlt : k < la.length
      · have hltb : k < lb.length := by have := Hl.out; omega
        obtain ⟨b, off, rfl, hbn, h1, hs1⟩ := (ha.mono (Hb.out.mono hn) (Nat.le_refl _)).get hlt; obtain ⟨b', off', rfl, hbn', h1', hs1'⟩ := (hb.mono (Hb.out.mono hn) (Nat.le_refl _)).get hltb; have Ha := Lib.hid ha; clear ha; have Hbb := Lib.hid hb; clear hb; go_wp2
        go_quiet (fail)
        go_wp2
        all_goals (try simp only [Bool.not_eq_true', Bool.not_eq_false', Bool.not_true, Bool.not_false, Bool.not_eq_true, Bool.not_eq_false, beq_iff_eq, beq_eq_false_iff_ne, bne_iff_ne, ne_eq, bne_eq_false_iff_eq, decide_eq_true_eq, decide_eq_false_iff_not, toList_inj] at *)
        · go_ret
          refine ⟨ret_bool (Eq.symm (decide_eq_false (ne_of_at hlt hltb ?_))), below_drewN Hb.out _⟩
          assumption
        · refine ⟨⟨k + 1, by omega, by go_num, take_eq_step Hr.out hlt hltb ?_, below_drewN Hb.out _⟩, by simp [intOf]; omega⟩
          assumption
      · go_wp2
        go_ret; refine ⟨ret_bool (Eq.symm (decide_eq_true ?_)), Hb.out⟩; have hk' : k = la.length := by omega
        subst hk'; exact eq_of_upto Hl.out Hr.out
  · have hl' : ((la.length : Int) != (lb.length : Int)) = true := by simp; omega
    go_wp2; go_ret; exact ⟨ret_bool (Eq.symm (decide_eq_false (fun e => hl (by rw [e])))), Below.refl _ _⟩
end Go.Proofs.YtdjdikiimhhjpaaGreatDoor
