/- The reference Same. -/
import Derived.Test.YtdjdikiimhhjpaaGreatDoorK9
set_option maxRecDepth 100000
set_option maxHeartbeats 16000000
namespace Go.Proofs.YtdjdikiimhhjpaaGreatDoor
open Go.RowKit
set_option linter.unusedSimpArgs false
set_option linter.unusedVariables false
def like (a b : Ex) : Prop := a.kind = b.kind ∧ a.fn = b.fn ∧ a.op = b.op ∧ a.num = b.num ∧ a.metric = b.metric ∧ a.span = b.span ∧ a.mats.length = b.mats.length ∧ a.names.length = b.names.length ∧ a.kids.length = b.kids.length
instance (a b : Ex) : Decidable (like a b) := by unfold like; infer_instance
theorem like_eq {a b : Ex} (h : like a b) (hm : a.mats = b.mats) (hn : a.names = b.names) (hk : a.kids = b.kids) : a = b := Ex.ext h.1 h.2.1 h.2.2.1 h.2.2.2.1 h.2.2.2.2.1 hm h.2.2.2.2.2.1 hn hk
theorem like_of {a b : Ex} (h : a = b) : like a b := by subst h; exact ⟨rfl, rfl, rfl, rfl, rfl, rfl, rfl, rfl, rfl⟩
theorem rSame : ∀ (a b : Ex) (cs ds : List Value) (n : Nat) (w : World), n ≤ w.heap.size → IsEx n w a cs → IsEx n w b ds →
    Calls Tryz.prog 50 #[.agg cs.toArray, .agg ds.toArray] w fun e' w' => e' = .returned (.bool (decide (a = b))) ∧ Below w.heap.size w w' := by
  refine Ex.ind fun a ih => ?_
  intro b cs ds n w hn ha hb
  obtain ⟨am, an, ak, rfl, hsa, hma, hna, hka⟩ := ha.cells
  obtain ⟨bm, bn, bk, rfl, hsb, hmb, hnb, hkb⟩ := hb.cells
  obtain ⟨pa, ca, rfl, _, _, hla⟩ := hka.open
  obtain ⟨pb, cb, rfl, _, _, hlb⟩ := hkb.open
  obtain ⟨pam, cam, rfl, _, _, hlam⟩ := hma.open
  obtain ⟨pbm, cbm, rfl, _, _, hlbm⟩ := hmb.open
  obtain ⟨pan, can, rfl, _, _, hlan⟩ := hna.open
  obtain ⟨pbn, cbn, rfl, _, _, hlbn⟩ := hnb.open
  have Hih := Lib.hid ih; clear ih
  have Ha := Lib.hid ha; clear ha
  have Hb := Lib.hid hb; clear hb
  unfold maxLen at hla hlb hlam hlbm hlan hlbn
  go_enter Tryz.func50, Tryz.ntmps50; (try simp only [List.append_eq, List.cons_append, List.nil_append])
  go_upto_region 0 with fail
  go_cut [2, 3, 4] (fun s2 s3 s4 wx => s2 = .pointer (some ⟨w.heap.size, 0, none⟩) ∧ s3 = .pointer (some ⟨w.heap.size + 1, 0, none⟩) ∧ s4 = .bool false ∧ Below w.heap.size w wx ∧
      Box wx w.heap.size [.int .i64 a.kind, .int .i64 a.fn, .int .i64 a.op, .int .i64 a.num, .string a.metric, .slice pam a.mats.length cam, .int .i64 a.span, .slice pan a.names.length can, .slice pa a.kids.length ca] ∧ Box wx (w.heap.size + 1) [.int .i64 b.kind, .int .i64 b.fn, .int .i64 b.op, .int .i64 b.num, .string b.metric, .slice pbm b.mats.length cbm, .int .i64 b.span, .slice pbn b.names.length cbn, .slice pb b.kids.length cb])
  case first =>
    go_wp2
    go_meet
    have hby := Box.new (w.alloc (.cells ([.int .i64 a.kind, .int .i64 a.fn, .int .i64 a.op, .int .i64 a.num, .string a.metric, .slice pam a.mats.length cam, .int .i64 a.span, .slice pan a.names.length can, .slice pa a.kids.length ca]).toArray 37)) [.int .i64 b.kind, .int .i64 b.fn, .int .i64 b.op, .int .i64 b.num, .string b.metric, .slice pbm b.mats.length cbm, .int .i64 b.span, .slice pbn b.names.length cbn, .slice pb b.kids.length cb] 37; rw [World.size_alloc] at hby; exact ⟨rfl, rfl, rfl, ((Below.refl _ _).alloc (Nat.le_refl _) _).alloc (by simp) _, (Box.new w _ _).keep ((Below.refl _ _).alloc (Nat.le_refl _) _), hby⟩
  case rest =>
    obtain ⟨rfl, rfl, rfl, hbw, hbx, hby⟩ := hcut; obtain ⟨W, rfl⟩ : ∃ W : World, W = wc := ⟨_, rfl⟩; have hsz := hbx.1; have hsz2 := hby.1; have Hbx := Lib.hid hbx; clear hbx; have Hby := Lib.hid hby; clear hby; have Hbw := Lib.hid hbw; clear hbw; have Hma := Lib.hid (hma.mono (Hbw.out.mono hn) (Nat.le_refl _)); clear hma; have Hmb := Lib.hid (hmb.mono (Hbw.out.mono hn) (Nat.le_refl _)); clear hmb; have Hna := Lib.hid (hna.mono (Hbw.out.mono hn) (Nat.le_refl _)); clear hna; have Hnb := Lib.hid (hnb.mono (Hbw.out.mono hn) (Nat.le_refl _)); clear hnb; have Hka := Lib.hid (hka.mono (Hbw.out.mono hn) (Nat.le_refl _)); clear hka; have Hkb := Lib.hid (hkb.mono (Hbw.out.mono hn) (Nat.le_refl _)); clear hkb; have hnW : n ≤ W.heap.size := by omega
    clear hn
    go_upto_region 1 with fail
    go_cut [0, 1, 74] (fun s0 s1 s74 wx => s74 = .bool (!decide (like a b)) ∧ Below W.heap.size W wx)
    case first =>
      have c0 := Hbx.out.2 0 _ rfl; have d0 := Hby.out.2 0 _ rfl; have c1 := Hbx.out.2 1 _ rfl; have d1 := Hby.out.2 1 _ rfl; have c2 := Hbx.out.2 2 _ rfl; have d2 := Hby.out.2 2 _ rfl; have c3 := Hbx.out.2 3 _ rfl; have d3 := Hby.out.2 3 _ rfl; have c4 := Hbx.out.2 4 _ rfl; have d4 := Hby.out.2 4 _ rfl; have c5 := Hbx.out.2 5 _ rfl; have d5 := Hby.out.2 5 _ rfl; have c6 := Hbx.out.2 6 _ rfl; have d6 := Hby.out.2 6 _ rfl; have c7 := Hbx.out.2 7 _ rfl; have d7 := Hby.out.2 7 _ rfl; have c8 := Hbx.out.2 8 _ rfl; have d8 := Hby.out.2 8 _ rfl; go_wp2
      all_goals go_meet
      all_goals (try simp only [Bool.not_eq_true', Bool.not_eq_false', Bool.not_true, Bool.not_false, Bool.not_eq_true, Bool.not_eq_false, beq_iff_eq, beq_eq_false_iff_ne, bne_iff_ne, ne_eq, bne_eq_false_iff_eq, decide_eq_true_eq, decide_eq_false_iff_not, toList_inj] at *)
      all_goals first
        | (refine ⟨?_, Below.refl _ _⟩
           rw [decide_eq_false (fun h => ?_)]
           · rfl
           · obtain ⟨h1, h2, h3, h4, h5, h6, h7, h8, h9⟩ := h
             first
               | contradiction
               | omega)
        | skip
      refine ⟨?_, Below.refl _ _⟩
      by_cases hl : a.kids.length = b.kids.length
      · rw [decide_eq_true (show like a b from ⟨by assumption, by assumption, by assumption, by assumption, by assumption, by assumption, by omega, by omega, hl⟩)]
        simp [hl]
      · rw [decide_eq_false (fun h : like a b => hl h.2.2.2.2.2.2.2.2)]
        congr 1
        simp; omega
    case rest =>
      obtain ⟨rfl, hbc⟩ := hcut; have Hbc := Lib.hid hbc; clear hbc
      by_cases hal : like a b
      · have Hal := Lib.hid hal; clear hal
        have hd : (!decide (like a b)) = false := by rw [decide_eq_true Hal.out]; rfl
        have Hlk := Lib.hid Hal.out.2.2.2.2.2.2.2.2; have Hlm := Lib.hid Hal.out.2.2.2.2.2.2.1; have Hln := Lib.hid Hal.out.2.2.2.2.2.2.2.1; rw [hd]; clear hd; have hsz3 := Hbc.out.size; go_wp2
        go_loopw [5] (fun i wr => ∃ k : Nat, k ≤ a.mats.length ∧ i = .int .i64 k ∧ a.mats.take k = b.mats.take k ∧ Below W.heap.size W wr) (fun i _ => a.mats.length - (intOf i).toNat)
        case atStart => exact ⟨0, Nat.zero_le _, rfl, by simp, Hbc.out⟩
        case round =>
          obtain ⟨k, hk, rfl, hr, hbl⟩ := hrel; have Hr := Lib.hid hr; clear hr; have Hbl5 := Lib.hid hbl; clear hbl; have c5 := (Hbx.out.keep Hbl5.out).2 5 _ rfl; have d5 := (Hby.out.keep Hbl5.out).2 5 _ rfl
          by_cases hlt : k < a.mats.length
          · have hltb : k < b.mats.length := by have := Hlm.out; omega
            obtain ⟨b1, off, rfl, hbn, h1, h2, h3, hs1, hs2⟩ := (Hma.out.mono (Hbl5.out.mono hnW) (Nat.le_refl _)).get hlt; obtain ⟨b2, off', hq, hbn', h1', h2', h3', hs1', hs2'⟩ := (Hmb.out.mono (Hbl5.out.mono hnW) (Nat.le_refl _)).get hltb; cases hq; have hne := fun w => matNe a.mats[k] b.mats[k] w
            go_wp2
            go_quiet (fail)
            go_wp2
            all_goals (try simp only [Bool.not_eq_true', Bool.not_eq_false', Bool.not_true, Bool.not_false, Bool.not_eq_true, Bool.not_eq_false, beq_iff_eq, beq_eq_false_iff_ne, bne_iff_ne, ne_eq, bne_eq_false_iff_eq, decide_eq_true_eq, decide_eq_false_iff_not, toList_inj] at *)
            · go_ret
              refine ⟨ret_bool (Eq.symm (decide_eq_false (fun e => ne_of_at hlt hltb ?_ (congrArg Ex.mats e)))), Hbw.out.trans ((below_drewN Hbl5.out _).mono (by omega))⟩
              assumption
            · refine ⟨⟨k + 1, by omega, by go_num, take_eq_step Hr.out hlt hltb ?_, below_drewN Hbl5.out _⟩, by simp [intOf]; omega⟩
              assumption
          · have Emats : a.mats = b.mats := by
              have hk' : k = a.mats.length := by omega
              have hr := Hr.out; rw [hk'] at hr; exact eq_of_upto Hlm.out hr
            have HEmats := Lib.hid Emats; clear Emats; go_wp2; clear hlt hk Hr
            go_loopw [6] (fun i wr => ∃ k : Nat, k ≤ a.names.length ∧ i = .int .i64 k ∧ a.names.take k = b.names.take k ∧ Below W.heap.size W wr) (fun i _ => a.names.length - (intOf i).toNat)
            case atStart => exact ⟨0, Nat.zero_le _, rfl, by simp, Hbl5.out⟩
            case round =>
              obtain ⟨k, hk, rfl, hr, hbl⟩ := hrel; have Hr := Lib.hid hr; clear hr; have Hbl6 := Lib.hid hbl; clear hbl; have c7 := (Hbx.out.keep Hbl6.out).2 7 _ rfl; have d7 := (Hby.out.keep Hbl6.out).2 7 _ rfl
              by_cases hlt : k < a.names.length
              · have hltb : k < b.names.length := by have := Hln.out; omega
                obtain ⟨b1, off, rfl, hbn, h1, hs1⟩ := (Hna.out.mono (Hbl6.out.mono hnW) (Nat.le_refl _)).get hlt; obtain ⟨b2, off', hq, hbn', h1', hs1'⟩ := (Hnb.out.mono (Hbl6.out.mono hnW) (Nat.le_refl _)).get hltb; cases hq; go_wp2
                go_quiet (fail)
                go_wp2
                all_goals (try simp only [Bool.not_eq_true', Bool.not_eq_false', Bool.not_true, Bool.not_false, Bool.not_eq_true, Bool.not_eq_false, beq_iff_eq, beq_eq_false_iff_ne, bne_iff_ne, ne_eq, bne_eq_false_iff_eq, decide_eq_true_eq, decide_eq_false_iff_not, toList_inj] at *)
                · go_ret
                  refine ⟨ret_bool (Eq.symm (decide_eq_false (fun e => ne_of_at hlt hltb ?_ (congrArg Ex.names e)))), Hbw.out.trans ((below_drewN Hbl6.out _).mono (by omega))⟩
                  assumption
                · refine ⟨⟨k + 1, by omega, by go_num, take_eq_step Hr.out hlt hltb ?_, below_drewN Hbl6.out _⟩, by simp [intOf]; omega⟩
                  assumption
              · have Enames : a.names = b.names := by
                  have hk' : k = a.names.length := by omega
                  have hr := Hr.out; rw [hk'] at hr; exact eq_of_upto Hln.out hr
                have HEnames := Lib.hid Enames; clear Enames; go_wp2; clear hlt hk Hr
                go_loopw [7] (fun i wr => ∃ k : Nat, k ≤ a.kids.length ∧ i = .int .i64 k ∧ a.kids.take k = b.kids.take k ∧ Below W.heap.size W wr) (fun i _ => a.kids.length - (intOf i).toNat)
                case atStart => exact ⟨0, Nat.zero_le _, rfl, by simp, Hbl6.out⟩
                case round =>
                  obtain ⟨k, hk, rfl, hr, hbl⟩ := hrel; have Hr := Lib.hid hr; clear hr; have Hbl7 := Lib.hid hbl; clear hbl; have c8 := (Hbx.out.keep Hbl7.out).2 8 _ rfl; have d8 := (Hby.out.keep Hbl7.out).2 8 _ rfl
                  by_cases hlt : k < a.kids.length
                  · have hltb : k < b.kids.length := by have := Hlk.out; omega
                    obtain ⟨b1, off, r0, r1, r2, r3, r4, r5, r6, r7, r8, rfl, hbn, hei, e0, e1, e2, e3, e4, e5, e6, e7, e8⟩ := (Hka.out.mono (Hbl7.out.mono hnW) (Nat.le_refl _)).get hlt; obtain ⟨b2, off2, q0, q1, q2, q3, q4, q5, q6, q7, q8, rfl, hbn2, hei2, f0, f1, f2, f3, f4, f5, f6, f7, f8⟩ := (Hkb.out.mono (Hbl7.out.mono hnW) (Nat.le_refl _)).get hltb; have Hei := Lib.hid hei; clear hei; have Hei2 := Lib.hid hei2; clear hei2; have hszr := Hbl7.out.size; have Hl := Lib.hid (take_eq_step' (a := a.kids) (b := b.kids) Hr.out hlt hltb); go_wp2
                    go_still_tail 10, (by kernel_rfl)
                    change wpList _ _ _ _ _ wr.drew
                    have hbd : Below wr.heap.size wr wr.drew := (Below.refl _ _).drew; have hszd : wr.drew.heap.size = wr.heap.size := rfl; generalize wr.drew = wd at hbd hszd
                    go_wp2_with (go_at_call 50; refine (Hih.out _ (List.getElem_mem hlt) b.kids[k] _ _ n wd (by omega) (Hei.out.mono (hbd.mono (by omega)) (Nat.le_refl _)) (Hei2.out.mono (hbd.mono (by omega)) (Nat.le_refl _))).mono ?_; rintro e' w2 ⟨rfl, hb2⟩)
                    all_goals (try simp only [Bool.not_eq_true', Bool.not_eq_false', Bool.not_true, Bool.not_false, Bool.not_eq_true, Bool.not_eq_false, beq_iff_eq, beq_eq_false_iff_ne, bne_iff_ne, ne_eq, bne_eq_false_iff_eq, decide_eq_true_eq, decide_eq_false_iff_not, toList_inj] at *)
                    · go_ret
                      refine ⟨ret_bool (Eq.symm (decide_eq_false (fun e => ?_))), Hbw.out.trans ((Hbl7.out.trans ((hbd.trans (hb2.mono hbd.size)).mono Hbl7.out.size)).mono (by omega))⟩; subst e
                      contradiction
                    · refine ⟨⟨k + 1, by omega, by go_num, Hl.out ?_, Hbl7.out.trans ((hbd.trans (hb2.mono hbd.size)).mono Hbl7.out.size)⟩, by simp [intOf]; omega⟩
                      assumption
                  · have Ekids : a.kids = b.kids := by
                      have hk' : k = a.kids.length := by omega
                      have hr := Hr.out; rw [hk'] at hr; exact eq_of_upto Hlk.out hr
                    have HEkids := Lib.hid Ekids; clear Ekids; go_wp2; go_ret; exact ⟨ret_bool (Eq.symm (decide_eq_true (like_eq Hal.out HEmats.out HEnames.out HEkids.out))), Hbw.out.trans (Hbl7.out.mono (by omega))⟩
      · have hd : (!decide (like a b)) = true := by rw [decide_eq_false hal]; rfl
        rw [hd]; have Hal := Lib.hid hal; clear hal; go_wp2; go_ret; exact ⟨ret_bool (Eq.symm (decide_eq_false (fun e => Hal.out (like_of e)))), Hbw.out.trans (Hbc.out.mono (by omega))⟩
end Go.Proofs.YtdjdikiimhhjpaaGreatDoor
