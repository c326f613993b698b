/- show.expr (printed by wip/gen_show2.py). -/
import Derived.Test.YtdjdikiimhhjpaaGreatDoorK25
import Derived.Deep.RegionHeld3
set_option maxRecDepth 100000
set_option maxHeartbeats 16000000
namespace Go.Proofs.YtdjdikiimhhjpaaGreatDoor
open Go.RowKit
set_option linter.unusedSimpArgs false
set_option linter.unusedVariables false
theorem names8 {l : List ByteArray} (h : namesB l = true) : l.length ≤ 8 := by
  unfold namesB at h; simp only [Bool.and_eq_true, decide_eq_true_eq] at h; exact h.2
theorem sExpr_1 (fn op num span : Int) (metric : ByteArray) (mats : List Mat) (names : List ByteArray) (kids : List Ex) (ih : ∀ k ∈ kids, ShExprC k) : ShExprC (Ex.mk 1 fn op num metric mats span names kids) := by
  intro hv h64 cs n B b l W he hn hb hB hT hl
  have hv1 := hv
  rw [Ex.flat_eq, List.all_cons, Bool.and_eq_true] at hv1
  have hrt : rightH (hasOf 1) kids.length fn op num metric mats span names = true := by have := hv1.1; simpa [rightB, kindOk, Ex.kind, Ex.fn, Ex.op, Ex.num, Ex.metric, Ex.mats, Ex.span, Ex.names, Ex.kids] using this
  rw [rightH_1] at hrt
  have HR := Lib.hid hrt; clear hrt
  have hkv : ∀ k ∈ kids, k.flat.all rightB = true := fun k hk => List.all_eq_true.2 fun x hx => List.all_eq_true.1 hv1.2 x (flats_iff.2 ⟨k, hk, hx⟩)
  have hk64 : ∀ k ∈ kids, k.num64 := fun k hk => h64.kid (e := Ex.mk 1 fn op num metric mats span names kids) hk
  have hn64 : -9223372036854775808 ≤ num ∧ num ≤ 9223372036854775807 := h64.self (e := Ex.mk 1 fn op num metric mats span names kids)
  obtain ⟨pm, cm, pn, cn, pk, ck, hcs, hes, hma, hna, hka⟩ := he.cellsE
  simp only [Ex.kind, Ex.fn, Ex.op, Ex.num, Ex.metric, Ex.mats, Ex.span, Ex.names, Ex.kids] at hcs hes hma hna hka
  subst hcs
  have hjl : (Lib.join (names.map (·.data.toList)) [44, 32]).length ≤ 1000000000 := by obtain ⟨hkn, hfn, hop, hnum, hnam, ⟨hmet, hmats⟩, hspan⟩ := HR.out; rw [List.eq_nil_of_length_eq_zero hnam]; simp [Lib.join_nil]
  have h1000 : names.length ≤ 1000 := by obtain ⟨hkn, hfn, hop, hnum, hnam, ⟨hmet, hmats⟩, hspan⟩ := HR.out; omega
  rw [exT_eq] at hl ⊢
  simp only [Ex.kind, Ex.fn, Ex.op, Ex.num, Ex.metric, Ex.mats, Ex.span, Ex.names, Ex.kids] at hl ⊢
  have HV := Lib.hid hkv; clear hkv hv hv1 h64
  have HK64 := Lib.hid hk64; clear hk64
  have Hih := Lib.hid ih; clear ih
  have HL := Lib.hid hl; clear hl
  have He := Lib.hid he; clear he
  have HJl := Lib.hid hjl; clear hjl
  have HNa := Lib.hid hna; clear hna
  have HKa := Lib.hid hka; clear hka hma
  have HW0 := Lib.hid (St.start hb); clear hb
  go_enter Tryz.func41, Tryz.ntmps41; (try simp only [List.append_eq, List.cons_append, List.nil_append])
  go_upto_region 1 with fail
  have hblk := Blk.new W [.int .i64 1, .int .i64 fn, .int .i64 op, .int .i64 num, .string metric, .slice pm mats.length cm, .int .i64 span, .slice pn names.length cn, .slice pk kids.length ck] 37
  have hst := HW0.out.alloc hB (.cells [.int .i64 1, .int .i64 fn, .int .i64 op, .int .i64 num, .string metric, .slice pm mats.length cm, .int .i64 span, .slice pn names.length cn, .slice pk kids.length ck].toArray 37)
  have hT1 := hT.on (hst.bel)
  have HIn := Lib.hid (He.out.mono (hst.bel.mono hn) (Nat.le_refl _))
  have HNa1 := Lib.hid (HNa.out.mono (hst.bel.mono hn) (Nat.le_refl _))
  have HKa1 := Lib.hid (HKa.out.mono (hst.bel.mono hn) (Nat.le_refl _))
  obtain ⟨W1, hW1⟩ : ∃ W1, W.alloc (.cells [.int .i64 1, .int .i64 fn, .int .i64 op, .int .i64 num, .string metric, .slice pm mats.length cm, .int .i64 span, .slice pn names.length cn, .slice pk kids.length ck].toArray 37) = W1 := ⟨_, rfl⟩
  rw [hW1] at hblk hst hT1 HIn HNa1 HKa1
  have hW1' : W.alloc (.cells #[.int .i64 1, .int .i64 fn, .int .i64 op, .int .i64 num, .string metric, .slice pm mats.length cm, .int .i64 span, .slice pn names.length cn, .slice pk kids.length ck] 37) = W1 := hW1
  rw [hW1']
  have hB1 : B ≤ W1.heap.size := hst.size hB
  have gne : W.heap.size ≠ b := hst.bld.ne hblk (by decide)
  have HS0 := Lib.hid hst; clear hst
  have HT := Lib.hid hT1; clear hT1 hT
  have HBk := Lib.hid hblk; clear hblk hW1 hW1' HNa HKa He
  have HC := Lib.hid (fun (l' : List UInt8) (X : World) (h : St B b W1 l' X) => show X.cell? ⟨W.heap.size, 0, none⟩ = some (.int .i64 1) ∧ X.cell? ⟨W.heap.size, 1, none⟩ = some (.int .i64 fn) ∧ X.cell? ⟨W.heap.size, 2, none⟩ = some (.int .i64 op) ∧ X.cell? ⟨W.heap.size, 3, none⟩ = some (.int .i64 num) ∧ X.cell? ⟨W.heap.size, 4, none⟩ = some (.string metric) ∧ X.cell? ⟨W.heap.size, 5, none⟩ = some (.slice pm mats.length cm) ∧ X.cell? ⟨W.heap.size, 6, none⟩ = some (.int .i64 span) ∧ X.cell? ⟨W.heap.size, 7, none⟩ = some (.slice pn names.length cn) ∧ X.cell? ⟨W.heap.size, 8, none⟩ = some (.slice pk kids.length ck) from
    have q := HBk.out.kp h.kp gne (by decide)
    ⟨q.cell 0 _ rfl, q.cell 1 _ rfl, q.cell 2 _ rfl, q.cell 3 _ rfl, q.cell 4 _ rfl, q.cell 5 _ rfl, q.cell 6 _ rfl, q.cell 7 _ rfl, q.cell 8 _ rfl⟩)
  have CJ := Lib.hid (fun (l' : List UInt8) (X : World) (h : St B b W1 l' X) => show Calls Tryz.prog 62 #[.slice pn names.length cn, .string ⟨#[44, 32]⟩] X (fun e' w' => e' = .returned (.string ⟨(namesL names).toArray⟩) ∧ St B b W1 l' w') from
    (bJoin names pn cn n ⟨#[44, 32]⟩ X (HNa1.out.mono (h.bel.mono hn) (Nat.le_refl _)) (Nat.le_trans hn (h.size hB1)) h1000 HJl.out).mono fun e' w' ⟨h1, h2⟩ => ⟨h1, h.keep hB1 h2⟩)
  have CO := Lib.hid (fun (l' : List UInt8) (X : World) (h : St B b W1 l' X) => show Calls Tryz.prog 63 #[.agg #[.int .i64 1, .int .i64 fn, .int .i64 op, .int .i64 num, .string metric, .slice pm mats.length cm, .int .i64 span, .slice pn names.length cn, .slice pk kids.length ck]] X (fun e' w' => e' = .returned (.agg #[.int .i64 1, .int .i64 op]) ∧ St B b W1 l' w') from
    (sOf (Ex.mk 1 fn op num metric mats span names kids) pm pn pk cm cn ck X).mono fun e' w' ⟨h1, h2⟩ => ⟨h1, h.keep hB1 h2⟩)
  have CS := Lib.hid (fun (l' : List UInt8) (X : World) (h : St B b W1 l' X) => show Calls Tryz.prog 64 #[.agg #[.int .i64 1, .int .i64 op]] X (fun e' w' => e' = .returned (.int .i64 (strI 1 op)) ∧ St B b W1 l' w') from
    (sStrength 1 op X).mono fun e' w' ⟨h1, h2⟩ => ⟨h1, h.keep hB1 h2⟩)
  have hst0 : St B b W1 l W1 := St.start HS0.out.bld
  have hc0 := HC.out _ _ hst0
  go_upto_region 3 with (first
    | (go_at_call 62; refine (CJ.out _ _ hst0).mono ?_; rintro e' w1 ⟨rfl, hst1⟩; have hc1 := HC.out _ _ hst1)
    | (go_at_call 63; refine (CO.out _ _ hst1).mono ?_; rintro e' w2 ⟨rfl, hst2⟩)
    | (go_at_call 64; refine (CS.out _ _ hst2).mono ?_; rintro e' w3 ⟨rfl, hst3⟩))
  clear hc0 hc1 hst0 hst1 hst2
  have hc3 := HC.out _ _ hst3
  have HX : Hid (nodeT 1 fn op num metric mats span names (exTs kids) = windowL 1 fn metric mats span) := by show _ = _; simp [nodeT]
  have hl1 : l.length + (windowL 1 fn metric mats span).length ≤ 1000000000 := by have := HL.out; rw [HX.out] at this; exact this
  have CWin := Lib.hid (fun (X : World) (h : St B b W1 l X) => show Calls Tryz.prog 65 #[.pointer (some ⟨b, 0, none⟩), .agg #[.int .i64 1, .int .i64 fn, .int .i64 op, .int .i64 num, .string metric, .slice pm mats.length cm, .int .i64 span, .slice pn names.length cn, .slice pk kids.length ck]] X (fun e' w' => e' = .returned (.tuple #[]) ∧ St B b W1 (l ++ windowL 1 fn metric mats span) w') from
    (sWindow (Ex.mk 1 fn op num metric mats span names kids) _ n B b l X (HIn.out.mono (h.bel.mono hn) (Nat.le_refl _)) hn h.bld (h.size hB1) (HT.out.on h.bel) (by obtain ⟨hkn, hfn, hop, hnum, hnam, ⟨hmet, hmats⟩, hspan⟩ := HR.out; exact hmats) (by obtain ⟨hkn, hfn, hop, hnum, hnam, ⟨hmet, hmats⟩, hspan⟩ := HR.out; exact hspan) hl1).mono fun e' w' ⟨h1, h2⟩ => ⟨h1, h.other h2⟩)
  go_wp2_with (go_at_call 65; refine (CWin.out _ hst3).mono ?_; rintro e' w4 ⟨rfl, hst4⟩)
  refine bodyPost_end (results_none rfl _ _ _) rfl ?_
  exact ⟨rfl, by rw [HX.out]; exact HS0.out.other hst4⟩
theorem sExpr_2 (fn op num span : Int) (metric : ByteArray) (mats : List Mat) (names : List ByteArray) (kids : List Ex) (ih : ∀ k ∈ kids, ShExprC k) : ShExprC (Ex.mk 2 fn op num metric mats span names kids) := by
  intro hv h64 cs n B b l W he hn hb hB hT hl
  have hv1 := hv
  rw [Ex.flat_eq, List.all_cons, Bool.and_eq_true] at hv1
  have hrt : rightH (hasOf 2) kids.length fn op num metric mats span names = true := by have := hv1.1; simpa [rightB, kindOk, Ex.kind, Ex.fn, Ex.op, Ex.num, Ex.metric, Ex.mats, Ex.span, Ex.names, Ex.kids] using this
  rw [rightH_2] at hrt
  have HR := Lib.hid hrt; clear hrt
  have hkv : ∀ k ∈ kids, k.flat.all rightB = true := fun k hk => List.all_eq_true.2 fun x hx => List.all_eq_true.1 hv1.2 x (flats_iff.2 ⟨k, hk, hx⟩)
  have hk64 : ∀ k ∈ kids, k.num64 := fun k hk => h64.kid (e := Ex.mk 2 fn op num metric mats span names kids) hk
  have hn64 : -9223372036854775808 ≤ num ∧ num ≤ 9223372036854775807 := h64.self (e := Ex.mk 2 fn op num metric mats span names kids)
  obtain ⟨pm, cm, pn, cn, pk, ck, hcs, hes, hma, hna, hka⟩ := he.cellsE
  simp only [Ex.kind, Ex.fn, Ex.op, Ex.num, Ex.metric, Ex.mats, Ex.span, Ex.names, Ex.kids] at hcs hes hma hna hka
  subst hcs
  have hjl : (Lib.join (names.map (·.data.toList)) [44, 32]).length ≤ 1000000000 := by obtain ⟨hkn, hfn, hop, hnum, hnam, ⟨hmet, hmats⟩, hspan⟩ := HR.out; have := names_length hnam; unfold namesL at this; omega
  have h1000 : names.length ≤ 1000 := by obtain ⟨hkn, hfn, hop, hnum, hnam, ⟨hmet, hmats⟩, hspan⟩ := HR.out; have := names8 hnam; omega
  rw [exT_eq] at hl ⊢
  simp only [Ex.kind, Ex.fn, Ex.op, Ex.num, Ex.metric, Ex.mats, Ex.span, Ex.names, Ex.kids] at hl ⊢
  have HV := Lib.hid hkv; clear hkv hv hv1 h64
  have HK64 := Lib.hid hk64; clear hk64
  have Hih := Lib.hid ih; clear ih
  have HL := Lib.hid hl; clear hl
  have He := Lib.hid he; clear he
  have HJl := Lib.hid hjl; clear hjl
  have HNa := Lib.hid hna; clear hna
  have HKa := Lib.hid hka; clear hka hma
  have HW0 := Lib.hid (St.start hb); clear hb
  go_enter Tryz.func41, Tryz.ntmps41; (try simp only [List.append_eq, List.cons_append, List.nil_append])
  go_upto_region 1 with fail
  have hblk := Blk.new W [.int .i64 2, .int .i64 fn, .int .i64 op, .int .i64 num, .string metric, .slice pm mats.length cm, .int .i64 span, .slice pn names.length cn, .slice pk kids.length ck] 37
  have hst := HW0.out.alloc hB (.cells [.int .i64 2, .int .i64 fn, .int .i64 op, .int .i64 num, .string metric, .slice pm mats.length cm, .int .i64 span, .slice pn names.length cn, .slice pk kids.length ck].toArray 37)
  have hT1 := hT.on (hst.bel)
  have HIn := Lib.hid (He.out.mono (hst.bel.mono hn) (Nat.le_refl _))
  have HNa1 := Lib.hid (HNa.out.mono (hst.bel.mono hn) (Nat.le_refl _))
  have HKa1 := Lib.hid (HKa.out.mono (hst.bel.mono hn) (Nat.le_refl _))
  obtain ⟨W1, hW1⟩ : ∃ W1, W.alloc (.cells [.int .i64 2, .int .i64 fn, .int .i64 op, .int .i64 num, .string metric, .slice pm mats.length cm, .int .i64 span, .slice pn names.length cn, .slice pk kids.length ck].toArray 37) = W1 := ⟨_, rfl⟩
  rw [hW1] at hblk hst hT1 HIn HNa1 HKa1
  have hW1' : W.alloc (.cells #[.int .i64 2, .int .i64 fn, .int .i64 op, .int .i64 num, .string metric, .slice pm mats.length cm, .int .i64 span, .slice pn names.length cn, .slice pk kids.length ck] 37) = W1 := hW1
  rw [hW1']
  have hB1 : B ≤ W1.heap.size := hst.size hB
  have gne : W.heap.size ≠ b := hst.bld.ne hblk (by decide)
  have HS0 := Lib.hid hst; clear hst
  have HT := Lib.hid hT1; clear hT1 hT
  have HBk := Lib.hid hblk; clear hblk hW1 hW1' HNa HKa He
  have HC := Lib.hid (fun (l' : List UInt8) (X : World) (h : St B b W1 l' X) => show X.cell? ⟨W.heap.size, 0, none⟩ = some (.int .i64 2) ∧ X.cell? ⟨W.heap.size, 1, none⟩ = some (.int .i64 fn) ∧ X.cell? ⟨W.heap.size, 2, none⟩ = some (.int .i64 op) ∧ X.cell? ⟨W.heap.size, 3, none⟩ = some (.int .i64 num) ∧ X.cell? ⟨W.heap.size, 4, none⟩ = some (.string metric) ∧ X.cell? ⟨W.heap.size, 5, none⟩ = some (.slice pm mats.length cm) ∧ X.cell? ⟨W.heap.size, 6, none⟩ = some (.int .i64 span) ∧ X.cell? ⟨W.heap.size, 7, none⟩ = some (.slice pn names.length cn) ∧ X.cell? ⟨W.heap.size, 8, none⟩ = some (.slice pk kids.length ck) from
    have q := HBk.out.kp h.kp gne (by decide)
    ⟨q.cell 0 _ rfl, q.cell 1 _ rfl, q.cell 2 _ rfl, q.cell 3 _ rfl, q.cell 4 _ rfl, q.cell 5 _ rfl, q.cell 6 _ rfl, q.cell 7 _ rfl, q.cell 8 _ rfl⟩)
  have CJ := Lib.hid (fun (l' : List UInt8) (X : World) (h : St B b W1 l' X) => show Calls Tryz.prog 62 #[.slice pn names.length cn, .string ⟨#[44, 32]⟩] X (fun e' w' => e' = .returned (.string ⟨(namesL names).toArray⟩) ∧ St B b W1 l' w') from
    (bJoin names pn cn n ⟨#[44, 32]⟩ X (HNa1.out.mono (h.bel.mono hn) (Nat.le_refl _)) (Nat.le_trans hn (h.size hB1)) h1000 HJl.out).mono fun e' w' ⟨h1, h2⟩ => ⟨h1, h.keep hB1 h2⟩)
  have CO := Lib.hid (fun (l' : List UInt8) (X : World) (h : St B b W1 l' X) => show Calls Tryz.prog 63 #[.agg #[.int .i64 2, .int .i64 fn, .int .i64 op, .int .i64 num, .string metric, .slice pm mats.length cm, .int .i64 span, .slice pn names.length cn, .slice pk kids.length ck]] X (fun e' w' => e' = .returned (.agg #[.int .i64 2, .int .i64 op]) ∧ St B b W1 l' w') from
    (sOf (Ex.mk 2 fn op num metric mats span names kids) pm pn pk cm cn ck X).mono fun e' w' ⟨h1, h2⟩ => ⟨h1, h.keep hB1 h2⟩)
  have CS := Lib.hid (fun (l' : List UInt8) (X : World) (h : St B b W1 l' X) => show Calls Tryz.prog 64 #[.agg #[.int .i64 2, .int .i64 op]] X (fun e' w' => e' = .returned (.int .i64 (strI 2 op)) ∧ St B b W1 l' w') from
    (sStrength 2 op X).mono fun e' w' ⟨h1, h2⟩ => ⟨h1, h.keep hB1 h2⟩)
  have hst0 : St B b W1 l W1 := St.start HS0.out.bld
  have hc0 := HC.out _ _ hst0
  go_upto_region 3 with (first
    | (go_at_call 62; refine (CJ.out _ _ hst0).mono ?_; rintro e' w1 ⟨rfl, hst1⟩; have hc1 := HC.out _ _ hst1)
    | (go_at_call 63; refine (CO.out _ _ hst1).mono ?_; rintro e' w2 ⟨rfl, hst2⟩)
    | (go_at_call 64; refine (CS.out _ _ hst2).mono ?_; rintro e' w3 ⟨rfl, hst3⟩))
  clear hc0 hc1 hst0 hst1 hst2
  have hc3 := HC.out _ _ hst3
  have hj0 : 0 < kids.length := by have := HR.out.1; omega
  obtain ⟨kb0, ko0, km0, kc0, kn0, kd0, kk0, ke0, hpk0, hbn0, hei0, y0, y1, y2, y3, y4, y5, y6, y7, y8⟩ := HKa1.out.getE (Cells.refl _ _) hj0
  subst hpk0
  have Hei0 := Lib.hid hei0; clear hei0
  have HKC0 := Lib.hid (fun (l' : List UInt8) (X : World) (h : St B b W1 l' X) => show X.cell? ⟨kb0, ko0, none⟩ = some (.int .i64 kids[0].kind) ∧ X.cell? ⟨kb0, ko0 + 1, none⟩ = some (.int .i64 kids[0].fn) ∧ X.cell? ⟨kb0, ko0 + 2, none⟩ = some (.int .i64 kids[0].op) ∧ X.cell? ⟨kb0, ko0 + 3, none⟩ = some (.int .i64 kids[0].num) ∧ X.cell? ⟨kb0, ko0 + 4, none⟩ = some (.string kids[0].metric) ∧ X.cell? ⟨kb0, ko0 + 5, none⟩ = some (.slice km0 kids[0].mats.length kc0) ∧ X.cell? ⟨kb0, ko0 + 6, none⟩ = some (.int .i64 kids[0].span) ∧ X.cell? ⟨kb0, ko0 + 7, none⟩ = some (.slice kn0 kids[0].names.length kd0) ∧ X.cell? ⟨kb0, ko0 + 8, none⟩ = some (.slice kk0 kids[0].kids.length ke0) from
    have q := Cells.of_below (h.bel.mono hn)
    ⟨q _ _ _ hbn0 (by simpa using y0), q _ _ _ hbn0 (by simpa [Nat.add_assoc] using y1), q _ _ _ hbn0 (by simpa [Nat.add_assoc] using y2), q _ _ _ hbn0 (by simpa [Nat.add_assoc] using y3), q _ _ _ hbn0 (by simpa [Nat.add_assoc] using y4), q _ _ _ hbn0 (by simpa [Nat.add_assoc] using y5), q _ _ _ hbn0 (by simpa [Nat.add_assoc] using y6), q _ _ _ hbn0 (by simpa [Nat.add_assoc] using y7), q _ _ _ hbn0 (by simpa [Nat.add_assoc] using y8)⟩)
  clear y0 y1 y2 y3 y4 y5 y6 y7 y8
  have HX : Hid (nodeT 2 fn op num metric mats span names (exTs kids) = (wordL 2 fn ++ ([32, 98, 121, 32, 40] : List UInt8) ++ namesL names ++ ([41, 32, 40] : List UInt8) ++ exT kids[0] ++ ([41] : List UInt8))) := by show _ = _; rw [nodeT, exTs_getD kids 0 hj0]; simp
  have hl1 := HL.out
  rw [HX.out] at hl1
  simp only [List.length_append, List.length_cons, List.length_nil] at hl1
  have CWord := Lib.hid (fun (l' : List UInt8) (X : World) (h : St B b W1 l' X) => show Calls Tryz.prog 67 #[.int .i64 2, .int .i64 fn] X (fun e' w' => e' = .returned (.string ⟨(wordL 2 fn).toArray⟩) ∧ St B b W1 l' w') from
    (sWord 2 fn X).mono fun e' w' ⟨h1, h2⟩ => ⟨h1, h.keep hB1 h2⟩)
  have CK0 := Lib.hid (fun (l' : List UInt8) (X : World) (h : St B b W1 l' X) (hl' : l'.length + (exT kids[0]).length ≤ 1000000000) => show Calls Tryz.prog 41 #[.pointer (some ⟨b, 0, none⟩), .agg #[.int .i64 kids[0].kind, .int .i64 kids[0].fn, .int .i64 kids[0].op, .int .i64 kids[0].num, .string kids[0].metric, .slice km0 kids[0].mats.length kc0, .int .i64 kids[0].span, .slice kn0 kids[0].names.length kd0, .slice kk0 kids[0].kids.length ke0]] X (fun e' w' => e' = .returned (.tuple #[]) ∧ St B b W1 (l' ++ exT kids[0]) w') from
    (Hih.out _ (List.getElem_mem hj0) (HV.out _ (List.getElem_mem hj0)) (HK64.out _ (List.getElem_mem hj0)) _ n B b l' X (Hei0.out.mono (h.bel.mono hn) (Nat.le_refl _)) hn h.bld (h.size hB1) (HT.out.on h.bel) hl').mono fun e' w' ⟨h1, h2⟩ => ⟨h1, h.other h2⟩)
  obtain ⟨E0, hE0⟩ : ∃ E0, exT kids[0] = E0 := ⟨_, rfl⟩
  rw [hE0] at CK0 HX hl1
  have CW1 := Lib.hid (fun (X : World) (h : St B b W1 (l) X) => show Calls Tryz.prog 66 #[.pointer (some ⟨b, 0, none⟩), .slice (some ⟨X.heap.size, 0, none⟩) 4 4] (X.alloc (.cells #[.string ⟨(wordL 2 fn).toArray⟩, .string ⟨#[32, 98, 121, 32, 40]⟩, .string ⟨(namesL names).toArray⟩, .string ⟨#[41, 32, 40]⟩] 9)) (fun e' w' => e' = .returned (.tuple #[]) ∧ St B b W1 (l ++ (wordL 2 fn ++ [32, 98, 121, 32, 40] ++ namesL names ++ [41, 32, 40])) w') from
    (h.write (xs := [⟨(wordL 2 fn).toArray⟩, ⟨#[32, 98, 121, 32, 40]⟩, ⟨(namesL names).toArray⟩, ⟨#[41, 32, 40]⟩]) hB1 _ rfl 4 rfl (by simp [catL]; omega) (by decide) _ rfl).mono fun e' w' ⟨h1, h2⟩ => ⟨h1, (by have e1 : l ++ catL [⟨(wordL 2 fn).toArray⟩, ⟨#[32, 98, 121, 32, 40]⟩, ⟨(namesL names).toArray⟩, ⟨#[41, 32, 40]⟩] = l ++ (wordL 2 fn ++ [32, 98, 121, 32, 40] ++ namesL names ++ [41, 32, 40]) := (by simp [catL]); rw [e1] at h2; exact h2)⟩)
  have CW2 := Lib.hid (fun (X : World) (h : St B b W1 (l ++ (wordL 2 fn ++ [32, 98, 121, 32, 40] ++ namesL names ++ [41, 32, 40]) ++ E0) X) => show Calls Tryz.prog 66 #[.pointer (some ⟨b, 0, none⟩), .slice (some ⟨X.heap.size, 0, none⟩) 1 1] (X.alloc (.cells #[.string ⟨#[41]⟩] 9)) (fun e' w' => e' = .returned (.tuple #[]) ∧ St B b W1 (l ++ (wordL 2 fn ++ [32, 98, 121, 32, 40] ++ namesL names ++ [41, 32, 40]) ++ E0 ++ [41]) w') from
    (h.write (xs := [⟨#[41]⟩]) hB1 _ rfl 1 rfl (by simp [catL]; omega) (by decide) _ rfl).mono fun e' w' ⟨h1, h2⟩ => ⟨h1, (by have e1 : l ++ (wordL 2 fn ++ [32, 98, 121, 32, 40] ++ namesL names ++ [41, 32, 40]) ++ E0 ++ catL [⟨#[41]⟩] = l ++ (wordL 2 fn ++ [32, 98, 121, 32, 40] ++ namesL names ++ [41, 32, 40]) ++ E0 ++ [41] := (by simp [catL]); rw [e1] at h2; exact h2)⟩)
  go_upto_region 8 with (first
    | (go_at_call 67; refine (CWord.out _ _ hst3).mono ?_; rintro e' w4 ⟨rfl, hst4⟩)
    | (go_at_call 66; refine (CW1.out _ hst4).mono ?_; rintro e' w5 ⟨rfl, hst5⟩))
  clear hc3
  have hc5 := HC.out _ _ hst5
  have hz := HKC0.out _ _ hst5
  go_upto_region 9 with (go_at_call 41; refine (CK0.out _ _ hst5 (by simp only [List.length_append, List.length_cons, List.length_nil]; omega)).mono ?_; rintro e' w6 ⟨rfl, hst6⟩)
  go_wp2_with (go_at_call 66; refine (CW2.out _ hst6).mono ?_; rintro e' w7 ⟨rfl, hst7⟩)
  refine bodyPost_end (results_none rfl _ _ _) rfl ?_
  exact ⟨rfl, by rw [HX.out]; have := HS0.out.other hst7; simpa using this⟩
theorem sExpr_3 (fn op num span : Int) (metric : ByteArray) (mats : List Mat) (names : List ByteArray) (kids : List Ex) (ih : ∀ k ∈ kids, ShExprC k) : ShExprC (Ex.mk 3 fn op num metric mats span names kids) := by
  intro hv h64 cs n B b l W he hn hb hB hT hl
  have hv1 := hv
  rw [Ex.flat_eq, List.all_cons, Bool.and_eq_true] at hv1
  have hrt : rightH (hasOf 3) kids.length fn op num metric mats span names = true := by have := hv1.1; simpa [rightB, kindOk, Ex.kind, Ex.fn, Ex.op, Ex.num, Ex.metric, Ex.mats, Ex.span, Ex.names, Ex.kids] using this
  rw [rightH_3] at hrt
  have HR := Lib.hid hrt; clear hrt
  have hkv : ∀ k ∈ kids, k.flat.all rightB = true := fun k hk => List.all_eq_true.2 fun x hx => List.all_eq_true.1 hv1.2 x (flats_iff.2 ⟨k, hk, hx⟩)
  have hk64 : ∀ k ∈ kids, k.num64 := fun k hk => h64.kid (e := Ex.mk 3 fn op num metric mats span names kids) hk
  have hn64 : -9223372036854775808 ≤ num ∧ num ≤ 9223372036854775807 := h64.self (e := Ex.mk 3 fn op num metric mats span names kids)
  obtain ⟨pm, cm, pn, cn, pk, ck, hcs, hes, hma, hna, hka⟩ := he.cellsE
  simp only [Ex.kind, Ex.fn, Ex.op, Ex.num, Ex.metric, Ex.mats, Ex.span, Ex.names, Ex.kids] at hcs hes hma hna hka
  subst hcs
  have hjl : (Lib.join (names.map (·.data.toList)) [44, 32]).length ≤ 1000000000 := by obtain ⟨hkn, hfn, hop, hnum, hnam, ⟨hmet, hmats⟩, hspan⟩ := HR.out; have := names_length hnam; unfold namesL at this; omega
  have h1000 : names.length ≤ 1000 := by obtain ⟨hkn, hfn, hop, hnum, hnam, ⟨hmet, hmats⟩, hspan⟩ := HR.out; have := names8 hnam; omega
  rw [exT_eq] at hl ⊢
  simp only [Ex.kind, Ex.fn, Ex.op, Ex.num, Ex.metric, Ex.mats, Ex.span, Ex.names, Ex.kids] at hl ⊢
  have HV := Lib.hid hkv; clear hkv hv hv1 h64
  have HK64 := Lib.hid hk64; clear hk64
  have Hih := Lib.hid ih; clear ih
  have HL := Lib.hid hl; clear hl
  have He := Lib.hid he; clear he
  have HJl := Lib.hid hjl; clear hjl
  have HNa := Lib.hid hna; clear hna
  have HKa := Lib.hid hka; clear hka hma
  have HW0 := Lib.hid (St.start hb); clear hb
  go_enter Tryz.func41, Tryz.ntmps41; (try simp only [List.append_eq, List.cons_append, List.nil_append])
  go_upto_region 1 with fail
  have hblk := Blk.new W [.int .i64 3, .int .i64 fn, .int .i64 op, .int .i64 num, .string metric, .slice pm mats.length cm, .int .i64 span, .slice pn names.length cn, .slice pk kids.length ck] 37
  have hst := HW0.out.alloc hB (.cells [.int .i64 3, .int .i64 fn, .int .i64 op, .int .i64 num, .string metric, .slice pm mats.length cm, .int .i64 span, .slice pn names.length cn, .slice pk kids.length ck].toArray 37)
  have hT1 := hT.on (hst.bel)
  have HIn := Lib.hid (He.out.mono (hst.bel.mono hn) (Nat.le_refl _))
  have HNa1 := Lib.hid (HNa.out.mono (hst.bel.mono hn) (Nat.le_refl _))
  have HKa1 := Lib.hid (HKa.out.mono (hst.bel.mono hn) (Nat.le_refl _))
  obtain ⟨W1, hW1⟩ : ∃ W1, W.alloc (.cells [.int .i64 3, .int .i64 fn, .int .i64 op, .int .i64 num, .string metric, .slice pm mats.length cm, .int .i64 span, .slice pn names.length cn, .slice pk kids.length ck].toArray 37) = W1 := ⟨_, rfl⟩
  rw [hW1] at hblk hst hT1 HIn HNa1 HKa1
  have hW1' : W.alloc (.cells #[.int .i64 3, .int .i64 fn, .int .i64 op, .int .i64 num, .string metric, .slice pm mats.length cm, .int .i64 span, .slice pn names.length cn, .slice pk kids.length ck] 37) = W1 := hW1
  rw [hW1']
  have hB1 : B ≤ W1.heap.size := hst.size hB
  have gne : W.heap.size ≠ b := hst.bld.ne hblk (by decide)
  have HS0 := Lib.hid hst; clear hst
  have HT := Lib.hid hT1; clear hT1 hT
  have HBk := Lib.hid hblk; clear hblk hW1 hW1' HNa HKa He
  have HC := Lib.hid (fun (l' : List UInt8) (X : World) (h : St B b W1 l' X) => show X.cell? ⟨W.heap.size, 0, none⟩ = some (.int .i64 3) ∧ X.cell? ⟨W.heap.size, 1, none⟩ = some (.int .i64 fn) ∧ X.cell? ⟨W.heap.size, 2, none⟩ = some (.int .i64 op) ∧ X.cell? ⟨W.heap.size, 3, none⟩ = some (.int .i64 num) ∧ X.cell? ⟨W.heap.size, 4, none⟩ = some (.string metric) ∧ X.cell? ⟨W.heap.size, 5, none⟩ = some (.slice pm mats.length cm) ∧ X.cell? ⟨W.heap.size, 6, none⟩ = some (.int .i64 span) ∧ X.cell? ⟨W.heap.size, 7, none⟩ = some (.slice pn names.length cn) ∧ X.cell? ⟨W.heap.size, 8, none⟩ = some (.slice pk kids.length ck) from
    have q := HBk.out.kp h.kp gne (by decide)
    ⟨q.cell 0 _ rfl, q.cell 1 _ rfl, q.cell 2 _ rfl, q.cell 3 _ rfl, q.cell 4 _ rfl, q.cell 5 _ rfl, q.cell 6 _ rfl, q.cell 7 _ rfl, q.cell 8 _ rfl⟩)
  have CJ := Lib.hid (fun (l' : List UInt8) (X : World) (h : St B b W1 l' X) => show Calls Tryz.prog 62 #[.slice pn names.length cn, .string ⟨#[44, 32]⟩] X (fun e' w' => e' = .returned (.string ⟨(namesL names).toArray⟩) ∧ St B b W1 l' w') from
    (bJoin names pn cn n ⟨#[44, 32]⟩ X (HNa1.out.mono (h.bel.mono hn) (Nat.le_refl _)) (Nat.le_trans hn (h.size hB1)) h1000 HJl.out).mono fun e' w' ⟨h1, h2⟩ => ⟨h1, h.keep hB1 h2⟩)
  have CO := Lib.hid (fun (l' : List UInt8) (X : World) (h : St B b W1 l' X) => show Calls Tryz.prog 63 #[.agg #[.int .i64 3, .int .i64 fn, .int .i64 op, .int .i64 num, .string metric, .slice pm mats.length cm, .int .i64 span, .slice pn names.length cn, .slice pk kids.length ck]] X (fun e' w' => e' = .returned (.agg #[.int .i64 3, .int .i64 op]) ∧ St B b W1 l' w') from
    (sOf (Ex.mk 3 fn op num metric mats span names kids) pm pn pk cm cn ck X).mono fun e' w' ⟨h1, h2⟩ => ⟨h1, h.keep hB1 h2⟩)
  have CS := Lib.hid (fun (l' : List UInt8) (X : World) (h : St B b W1 l' X) => show Calls Tryz.prog 64 #[.agg #[.int .i64 3, .int .i64 op]] X (fun e' w' => e' = .returned (.int .i64 (strI 3 op)) ∧ St B b W1 l' w') from
    (sStrength 3 op X).mono fun e' w' ⟨h1, h2⟩ => ⟨h1, h.keep hB1 h2⟩)
  have hst0 : St B b W1 l W1 := St.start HS0.out.bld
  have hc0 := HC.out _ _ hst0
  go_upto_region 3 with (first
    | (go_at_call 62; refine (CJ.out _ _ hst0).mono ?_; rintro e' w1 ⟨rfl, hst1⟩; have hc1 := HC.out _ _ hst1)
    | (go_at_call 63; refine (CO.out _ _ hst1).mono ?_; rintro e' w2 ⟨rfl, hst2⟩)
    | (go_at_call 64; refine (CS.out _ _ hst2).mono ?_; rintro e' w3 ⟨rfl, hst3⟩))
  clear hc0 hc1 hst0 hst1 hst2
  have hc3 := HC.out _ _ hst3
  have hj0 : 0 < kids.length := by have := HR.out.1; omega
  obtain ⟨kb0, ko0, km0, kc0, kn0, kd0, kk0, ke0, hpk0, hbn0, hei0, y0, y1, y2, y3, y4, y5, y6, y7, y8⟩ := HKa1.out.getE (Cells.refl _ _) hj0
  subst hpk0
  have Hei0 := Lib.hid hei0; clear hei0
  have HKC0 := Lib.hid (fun (l' : List UInt8) (X : World) (h : St B b W1 l' X) => show X.cell? ⟨kb0, ko0, none⟩ = some (.int .i64 kids[0].kind) ∧ X.cell? ⟨kb0, ko0 + 1, none⟩ = some (.int .i64 kids[0].fn) ∧ X.cell? ⟨kb0, ko0 + 2, none⟩ = some (.int .i64 kids[0].op) ∧ X.cell? ⟨kb0, ko0 + 3, none⟩ = some (.int .i64 kids[0].num) ∧ X.cell? ⟨kb0, ko0 + 4, none⟩ = some (.string kids[0].metric) ∧ X.cell? ⟨kb0, ko0 + 5, none⟩ = some (.slice km0 kids[0].mats.length kc0) ∧ X.cell? ⟨kb0, ko0 + 6, none⟩ = some (.int .i64 kids[0].span) ∧ X.cell? ⟨kb0, ko0 + 7, none⟩ = some (.slice kn0 kids[0].names.length kd0) ∧ X.cell? ⟨kb0, ko0 + 8, none⟩ = some (.slice kk0 kids[0].kids.length ke0) from
    have q := Cells.of_below (h.bel.mono hn)
    ⟨q _ _ _ hbn0 (by simpa using y0), q _ _ _ hbn0 (by simpa [Nat.add_assoc] using y1), q _ _ _ hbn0 (by simpa [Nat.add_assoc] using y2), q _ _ _ hbn0 (by simpa [Nat.add_assoc] using y3), q _ _ _ hbn0 (by simpa [Nat.add_assoc] using y4), q _ _ _ hbn0 (by simpa [Nat.add_assoc] using y5), q _ _ _ hbn0 (by simpa [Nat.add_assoc] using y6), q _ _ _ hbn0 (by simpa [Nat.add_assoc] using y7), q _ _ _ hbn0 (by simpa [Nat.add_assoc] using y8)⟩)
  clear y0 y1 y2 y3 y4 y5 y6 y7 y8
  have hj1 : 1 < kids.length := by have := HR.out.1; omega
  obtain ⟨kb1, ko1, km1, kc1, kn1, kd1, kk1, ke1, hpk1, hbn1, hei1, y0, y1, y2, y3, y4, y5, y6, y7, y8⟩ := HKa1.out.getE (Cells.refl _ _) hj1
  cases hpk1
  have Hei1 := Lib.hid hei1; clear hei1
  have HKC1 := Lib.hid (fun (l' : List UInt8) (X : World) (h : St B b W1 l' X) => show X.cell? ⟨kb0, ko0 + 9, none⟩ = some (.int .i64 kids[1].kind) ∧ X.cell? ⟨kb0, ko0 + 10, none⟩ = some (.int .i64 kids[1].fn) ∧ X.cell? ⟨kb0, ko0 + 11, none⟩ = some (.int .i64 kids[1].op) ∧ X.cell? ⟨kb0, ko0 + 12, none⟩ = some (.int .i64 kids[1].num) ∧ X.cell? ⟨kb0, ko0 + 13, none⟩ = some (.string kids[1].metric) ∧ X.cell? ⟨kb0, ko0 + 14, none⟩ = some (.slice km1 kids[1].mats.length kc1) ∧ X.cell? ⟨kb0, ko0 + 15, none⟩ = some (.int .i64 kids[1].span) ∧ X.cell? ⟨kb0, ko0 + 16, none⟩ = some (.slice kn1 kids[1].names.length kd1) ∧ X.cell? ⟨kb0, ko0 + 17, none⟩ = some (.slice kk1 kids[1].kids.length ke1) from
    have q := Cells.of_below (h.bel.mono hn)
    ⟨q _ _ _ hbn1 (by simpa using y0), q _ _ _ hbn1 (by simpa [Nat.add_assoc] using y1), q _ _ _ hbn1 (by simpa [Nat.add_assoc] using y2), q _ _ _ hbn1 (by simpa [Nat.add_assoc] using y3), q _ _ _ hbn1 (by simpa [Nat.add_assoc] using y4), q _ _ _ hbn1 (by simpa [Nat.add_assoc] using y5), q _ _ _ hbn1 (by simpa [Nat.add_assoc] using y6), q _ _ _ hbn1 (by simpa [Nat.add_assoc] using y7), q _ _ _ hbn1 (by simpa [Nat.add_assoc] using y8)⟩)
  clear y0 y1 y2 y3 y4 y5 y6 y7 y8
  have HX : Hid (nodeT 3 fn op num metric mats span names (exTs kids) = (kidT (strI 3 op) (strI kids[0].kind kids[0].op, exT kids[0]) ++ (([32] : List UInt8) ++ signL op ++ ([32] : List UInt8)) ++ onL names ++ kidT (strI 3 op + 1) (strI kids[1].kind kids[1].op, exT kids[1]))) := by show _ = _; rw [nodeT, exTs_getD kids 0 hj0, exTs_getD kids 1 hj1]; simp
  have hl1 := HL.out
  rw [HX.out] at hl1
  simp only [List.length_append, List.length_cons, List.length_nil] at hl1
  have hk0l : (exT kids[0]).length ≤ (kidT (strI 3 op) (strI kids[0].kind kids[0].op, exT kids[0])).length := by unfold kidT; split <;> simp <;> omega
  have hk1l : (exT kids[1]).length ≤ (kidT (strI 3 op + 1) (strI kids[1].kind kids[1].op, exT kids[1])).length := by unfold kidT; split <;> simp <;> omega
  have CSg := Lib.hid (fun (l' : List UInt8) (X : World) (h : St B b W1 l' X) => show Calls Tryz.prog 69 #[.int .i64 op] X (fun e' w' => e' = .returned (.string ⟨(signL op).toArray⟩) ∧ St B b W1 l' w') from
    (sSign op X (by obtain ⟨_, _, hop, _⟩ := HR.out; omega)).mono fun e' w' ⟨h1, h2⟩ => ⟨h1, h.keep hB1 h2⟩)
  have CK0 := Lib.hid (fun (l' : List UInt8) (X : World) (h : St B b W1 l' X) (hl' : l'.length + (kidT (strI 3 op) (strI kids[0].kind kids[0].op, exT kids[0])).length ≤ 1000000000) => show Calls Tryz.prog 68 #[.pointer (some ⟨b, 0, none⟩), .agg #[.int .i64 kids[0].kind, .int .i64 kids[0].fn, .int .i64 kids[0].op, .int .i64 kids[0].num, .string kids[0].metric, .slice km0 kids[0].mats.length kc0, .int .i64 kids[0].span, .slice kn0 kids[0].names.length kd0, .slice kk0 kids[0].kids.length ke0], .int .i64 (strI 3 op)] X (fun e' w' => e' = .returned (.tuple #[]) ∧ St B b W1 (l' ++ kidT (strI 3 op) (strI kids[0].kind kids[0].op, exT kids[0])) w') from
    (sKid kids[0] (Hih.out _ (List.getElem_mem hj0)) (HV.out _ (List.getElem_mem hj0)) (HK64.out _ (List.getElem_mem hj0)) (strI 3 op) _ n B b l' X (Hei0.out.mono (h.bel.mono hn) (Nat.le_refl _)) hn h.bld (h.size hB1) (HT.out.on h.bel) hl').mono fun e' w' ⟨h1, h2⟩ => ⟨h1, h.other h2⟩)
  have CK1 := Lib.hid (fun (l' : List UInt8) (X : World) (h : St B b W1 l' X) (hl' : l'.length + (kidT (strI 3 op + 1) (strI kids[1].kind kids[1].op, exT kids[1])).length ≤ 1000000000) => show Calls Tryz.prog 68 #[.pointer (some ⟨b, 0, none⟩), .agg #[.int .i64 kids[1].kind, .int .i64 kids[1].fn, .int .i64 kids[1].op, .int .i64 kids[1].num, .string kids[1].metric, .slice km1 kids[1].mats.length kc1, .int .i64 kids[1].span, .slice kn1 kids[1].names.length kd1, .slice kk1 kids[1].kids.length ke1], .int .i64 (strI 3 op + 1)] X (fun e' w' => e' = .returned (.tuple #[]) ∧ St B b W1 (l' ++ kidT (strI 3 op + 1) (strI kids[1].kind kids[1].op, exT kids[1])) w') from
    (sKid kids[1] (Hih.out _ (List.getElem_mem hj1)) (HV.out _ (List.getElem_mem hj1)) (HK64.out _ (List.getElem_mem hj1)) (strI 3 op + 1) _ n B b l' X (Hei1.out.mono (h.bel.mono hn) (Nat.le_refl _)) hn h.bld (h.size hB1) (HT.out.on h.bel) hl').mono fun e' w' ⟨h1, h2⟩ => ⟨h1, h.other h2⟩)
  obtain ⟨K0, hK0⟩ : ∃ K0, kidT (strI 3 op) (strI kids[0].kind kids[0].op, exT kids[0]) = K0 := ⟨_, rfl⟩
  rw [hK0] at CK0 HX hl1 hk0l
  obtain ⟨K1, hK1⟩ : ∃ K1, kidT (strI 3 op + 1) (strI kids[1].kind kids[1].op, exT kids[1]) = K1 := ⟨_, rfl⟩
  rw [hK1] at CK1 HX hl1 hk1l
  have CW1 := Lib.hid (fun (X : World) (h : St B b W1 (l ++ K0) X) => show Calls Tryz.prog 66 #[.pointer (some ⟨b, 0, none⟩), .slice (some ⟨X.heap.size, 0, none⟩) 3 3] (X.alloc (.cells #[.string ⟨#[32]⟩, .string ⟨(signL op).toArray⟩, .string ⟨#[32]⟩] 9)) (fun e' w' => e' = .returned (.tuple #[]) ∧ St B b W1 (l ++ K0 ++ ([32] ++ signL op ++ [32])) w') from
    (h.write (xs := [⟨#[32]⟩, ⟨(signL op).toArray⟩, ⟨#[32]⟩]) hB1 _ rfl 3 rfl (by simp [catL]; omega) (by decide) _ rfl).mono fun e' w' ⟨h1, h2⟩ => ⟨h1, (by have e1 : l ++ K0 ++ catL [⟨#[32]⟩, ⟨(signL op).toArray⟩, ⟨#[32]⟩] = l ++ K0 ++ ([32] ++ signL op ++ [32]) := (by simp [catL]); rw [e1] at h2; exact h2)⟩)
  have hz0 := HKC0.out _ _ hst3
  have hs3 : strI 3 op ≤ 2 ∧ 1 ≤ strI 3 op := by unfold strI; rw [if_pos (by omega)]; split <;> simp
  obtain ⟨hs3a, hs3b⟩ := hs3
  go_upto_region 12 with (go_at_call 68; refine (CK0.out _ _ hst3 (by omega)).mono ?_; rintro e' w4 ⟨rfl, hst4⟩)
  clear hc3 hz0
  have hc4 := HC.out _ _ hst4
  go_upto_region 13 with (first
    | (go_at_call 69; refine (CSg.out _ _ hst4).mono ?_; rintro e' w5 ⟨rfl, hst5⟩)
    | (go_at_call 66; refine (CW1.out _ hst5).mono ?_; rintro e' w6 ⟨rfl, hst6⟩))
  clear hc4
  have hc6 := HC.out _ _ hst6
  by_cases hne : names = []
  · have hnl : names.length = 0 := by rw [hne]; rfl
    have hol : onL names = [] := by unfold onL; rw [if_pos hne]
    rw [hol] at HX; rw [hnl] at hc6; have hz1 := HKC1.out _ _ hst6; have hlk : (l ++ K0 ++ ([32] ++ signL op ++ [32])).length + K1.length ≤ 1000000000 := by simp only [List.length_append, List.length_cons, List.length_nil]; omega
    have HLk := Lib.hid hlk; clear hlk; clear hne
    go_wp2_with (go_at_call 68; refine (CK1.out _ _ hst6 HLk.out).mono ?_; rintro e' w7 ⟨rfl, hst7⟩)
    refine bodyPost_end (results_none rfl _ _ _) rfl ?_; exact ⟨rfl, by rw [HX.out]; have := HS0.out.other hst7; simpa using this⟩
  · have hnl : 0 < names.length := List.length_pos_iff.2 hne
    have hnl' : (0 : Int) < (names.length : Int) := by omega
    have hol : onL names = [111, 110, 32, 40] ++ namesL names ++ [41, 32] := by unfold onL; rw [if_neg hne]
    rw [hol] at HX hl1; simp only [List.length_append, List.length_cons, List.length_nil] at hl1; have CW2 := Lib.hid (fun (X : World) (h : St B b W1 (l ++ K0 ++ ([32] ++ signL op ++ [32])) X) => show Calls Tryz.prog 66 #[.pointer (some ⟨b, 0, none⟩), .slice (some ⟨X.heap.size, 0, none⟩) 3 3] (X.alloc (.cells #[.string ⟨#[111, 110, 32, 40]⟩, .string ⟨(namesL names).toArray⟩, .string ⟨#[41, 32]⟩] 9)) (fun e' w' => e' = .returned (.tuple #[]) ∧ St B b W1 (l ++ K0 ++ ([32] ++ signL op ++ [32]) ++ ([111, 110, 32, 40] ++ namesL names ++ [41, 32])) w') from
      (h.write (xs := [⟨#[111, 110, 32, 40]⟩, ⟨(namesL names).toArray⟩, ⟨#[41, 32]⟩]) hB1 _ rfl 3 rfl (by simp [catL]; omega) (by decide) _ rfl).mono fun e' w' ⟨h1, h2⟩ => ⟨h1, (by have e1 : l ++ K0 ++ ([32] ++ signL op ++ [32]) ++ catL [⟨#[111, 110, 32, 40]⟩, ⟨(namesL names).toArray⟩, ⟨#[41, 32]⟩] = l ++ K0 ++ ([32] ++ signL op ++ [32]) ++ ([111, 110, 32, 40] ++ namesL names ++ [41, 32]) := (by simp [catL]); rw [e1] at h2; exact h2)⟩)
    have hlk : (l ++ K0 ++ ([32] ++ signL op ++ [32]) ++ ([111, 110, 32, 40] ++ namesL names ++ [41, 32])).length + K1.length ≤ 1000000000 := by simp only [List.length_append, List.length_cons, List.length_nil]; omega
    have HLk := Lib.hid hlk; clear hlk; clear hne
    go_upto_region 15 with (go_at_call 66; refine (CW2.out _ hst6).mono ?_; rintro e' w7 ⟨rfl, hst7⟩)
    clear hc6; have hc7 := HC.out _ _ hst7; have hz1 := HKC1.out _ _ hst7
    go_wp2_with (go_at_call 68; refine (CK1.out _ _ hst7 HLk.out).mono ?_; rintro e' w8 ⟨rfl, hst8⟩)
    refine bodyPost_end (results_none rfl _ _ _) rfl ?_; exact ⟨rfl, by rw [HX.out]; have := HS0.out.other hst8; simpa using this⟩
theorem sExpr_4 (fn op num span : Int) (metric : ByteArray) (mats : List Mat) (names : List ByteArray) (kids : List Ex) (ih : ∀ k ∈ kids, ShExprC k) : ShExprC (Ex.mk 4 fn op num metric mats span names kids) := by
  intro hv h64 cs n B b l W he hn hb hB hT hl
  have hv1 := hv
  rw [Ex.flat_eq, List.all_cons, Bool.and_eq_true] at hv1
  have hrt : rightH (hasOf 4) kids.length fn op num metric mats span names = true := by have := hv1.1; simpa [rightB, kindOk, Ex.kind, Ex.fn, Ex.op, Ex.num, Ex.metric, Ex.mats, Ex.span, Ex.names, Ex.kids] using this
  rw [rightH_4] at hrt
  have HR := Lib.hid hrt; clear hrt
  have hkv : ∀ k ∈ kids, k.flat.all rightB = true := fun k hk => List.all_eq_true.2 fun x hx => List.all_eq_true.1 hv1.2 x (flats_iff.2 ⟨k, hk, hx⟩)
  have hk64 : ∀ k ∈ kids, k.num64 := fun k hk => h64.kid (e := Ex.mk 4 fn op num metric mats span names kids) hk
  have hn64 : -9223372036854775808 ≤ num ∧ num ≤ 9223372036854775807 := h64.self (e := Ex.mk 4 fn op num metric mats span names kids)
  obtain ⟨pm, cm, pn, cn, pk, ck, hcs, hes, hma, hna, hka⟩ := he.cellsE
  simp only [Ex.kind, Ex.fn, Ex.op, Ex.num, Ex.metric, Ex.mats, Ex.span, Ex.names, Ex.kids] at hcs hes hma hna hka
  subst hcs
  have hjl : (Lib.join (names.map (·.data.toList)) [44, 32]).length ≤ 1000000000 := by obtain ⟨hkn, hfn, hop, hnam, ⟨hmet, hmats⟩, hspan⟩ := HR.out; rw [List.eq_nil_of_length_eq_zero hnam]; simp [Lib.join_nil]
  have h1000 : names.length ≤ 1000 := by obtain ⟨hkn, hfn, hop, hnam, ⟨hmet, hmats⟩, hspan⟩ := HR.out; omega
  rw [exT_eq] at hl ⊢
  simp only [Ex.kind, Ex.fn, Ex.op, Ex.num, Ex.metric, Ex.mats, Ex.span, Ex.names, Ex.kids] at hl ⊢
  have HV := Lib.hid hkv; clear hkv hv hv1 h64
  have HK64 := Lib.hid hk64; clear hk64
  have Hih := Lib.hid ih; clear ih
  have HL := Lib.hid hl; clear hl
  have He := Lib.hid he; clear he
  have HJl := Lib.hid hjl; clear hjl
  have HNa := Lib.hid hna; clear hna
  have HKa := Lib.hid hka; clear hka hma
  have HW0 := Lib.hid (St.start hb); clear hb
  go_enter Tryz.func41, Tryz.ntmps41; (try simp only [List.append_eq, List.cons_append, List.nil_append])
  go_upto_region 1 with fail
  have hblk := Blk.new W [.int .i64 4, .int .i64 fn, .int .i64 op, .int .i64 num, .string metric, .slice pm mats.length cm, .int .i64 span, .slice pn names.length cn, .slice pk kids.length ck] 37
  have hst := HW0.out.alloc hB (.cells [.int .i64 4, .int .i64 fn, .int .i64 op, .int .i64 num, .string metric, .slice pm mats.length cm, .int .i64 span, .slice pn names.length cn, .slice pk kids.length ck].toArray 37)
  have hT1 := hT.on (hst.bel)
  have HIn := Lib.hid (He.out.mono (hst.bel.mono hn) (Nat.le_refl _))
  have HNa1 := Lib.hid (HNa.out.mono (hst.bel.mono hn) (Nat.le_refl _))
  have HKa1 := Lib.hid (HKa.out.mono (hst.bel.mono hn) (Nat.le_refl _))
  obtain ⟨W1, hW1⟩ : ∃ W1, W.alloc (.cells [.int .i64 4, .int .i64 fn, .int .i64 op, .int .i64 num, .string metric, .slice pm mats.length cm, .int .i64 span, .slice pn names.length cn, .slice pk kids.length ck].toArray 37) = W1 := ⟨_, rfl⟩
  rw [hW1] at hblk hst hT1 HIn HNa1 HKa1
  have hW1' : W.alloc (.cells #[.int .i64 4, .int .i64 fn, .int .i64 op, .int .i64 num, .string metric, .slice pm mats.length cm, .int .i64 span, .slice pn names.length cn, .slice pk kids.length ck] 37) = W1 := hW1
  rw [hW1']
  have hB1 : B ≤ W1.heap.size := hst.size hB
  have gne : W.heap.size ≠ b := hst.bld.ne hblk (by decide)
  have HS0 := Lib.hid hst; clear hst
  have HT := Lib.hid hT1; clear hT1 hT
  have HBk := Lib.hid hblk; clear hblk hW1 hW1' HNa HKa He
  have HC := Lib.hid (fun (l' : List UInt8) (X : World) (h : St B b W1 l' X) => show X.cell? ⟨W.heap.size, 0, none⟩ = some (.int .i64 4) ∧ X.cell? ⟨W.heap.size, 1, none⟩ = some (.int .i64 fn) ∧ X.cell? ⟨W.heap.size, 2, none⟩ = some (.int .i64 op) ∧ X.cell? ⟨W.heap.size, 3, none⟩ = some (.int .i64 num) ∧ X.cell? ⟨W.heap.size, 4, none⟩ = some (.string metric) ∧ X.cell? ⟨W.heap.size, 5, none⟩ = some (.slice pm mats.length cm) ∧ X.cell? ⟨W.heap.size, 6, none⟩ = some (.int .i64 span) ∧ X.cell? ⟨W.heap.size, 7, none⟩ = some (.slice pn names.length cn) ∧ X.cell? ⟨W.heap.size, 8, none⟩ = some (.slice pk kids.length ck) from
    have q := HBk.out.kp h.kp gne (by decide)
    ⟨q.cell 0 _ rfl, q.cell 1 _ rfl, q.cell 2 _ rfl, q.cell 3 _ rfl, q.cell 4 _ rfl, q.cell 5 _ rfl, q.cell 6 _ rfl, q.cell 7 _ rfl, q.cell 8 _ rfl⟩)
  have CJ := Lib.hid (fun (l' : List UInt8) (X : World) (h : St B b W1 l' X) => show Calls Tryz.prog 62 #[.slice pn names.length cn, .string ⟨#[44, 32]⟩] X (fun e' w' => e' = .returned (.string ⟨(namesL names).toArray⟩) ∧ St B b W1 l' w') from
    (bJoin names pn cn n ⟨#[44, 32]⟩ X (HNa1.out.mono (h.bel.mono hn) (Nat.le_refl _)) (Nat.le_trans hn (h.size hB1)) h1000 HJl.out).mono fun e' w' ⟨h1, h2⟩ => ⟨h1, h.keep hB1 h2⟩)
  have CO := Lib.hid (fun (l' : List UInt8) (X : World) (h : St B b W1 l' X) => show Calls Tryz.prog 63 #[.agg #[.int .i64 4, .int .i64 fn, .int .i64 op, .int .i64 num, .string metric, .slice pm mats.length cm, .int .i64 span, .slice pn names.length cn, .slice pk kids.length ck]] X (fun e' w' => e' = .returned (.agg #[.int .i64 4, .int .i64 op]) ∧ St B b W1 l' w') from
    (sOf (Ex.mk 4 fn op num metric mats span names kids) pm pn pk cm cn ck X).mono fun e' w' ⟨h1, h2⟩ => ⟨h1, h.keep hB1 h2⟩)
  have CS := Lib.hid (fun (l' : List UInt8) (X : World) (h : St B b W1 l' X) => show Calls Tryz.prog 64 #[.agg #[.int .i64 4, .int .i64 op]] X (fun e' w' => e' = .returned (.int .i64 (strI 4 op)) ∧ St B b W1 l' w') from
    (sStrength 4 op X).mono fun e' w' ⟨h1, h2⟩ => ⟨h1, h.keep hB1 h2⟩)
  have hst0 : St B b W1 l W1 := St.start HS0.out.bld
  have hc0 := HC.out _ _ hst0
  go_upto_region 3 with (first
    | (go_at_call 62; refine (CJ.out _ _ hst0).mono ?_; rintro e' w1 ⟨rfl, hst1⟩; have hc1 := HC.out _ _ hst1)
    | (go_at_call 63; refine (CO.out _ _ hst1).mono ?_; rintro e' w2 ⟨rfl, hst2⟩)
    | (go_at_call 64; refine (CS.out _ _ hst2).mono ?_; rintro e' w3 ⟨rfl, hst3⟩))
  clear hc0 hc1 hst0 hst1 hst2
  have hc3 := HC.out _ _ hst3
  have hj0 : 0 < kids.length := by have := HR.out.1; omega
  obtain ⟨kb0, ko0, km0, kc0, kn0, kd0, kk0, ke0, hpk0, hbn0, hei0, y0, y1, y2, y3, y4, y5, y6, y7, y8⟩ := HKa1.out.getE (Cells.refl _ _) hj0
  subst hpk0
  have Hei0 := Lib.hid hei0; clear hei0
  have HKC0 := Lib.hid (fun (l' : List UInt8) (X : World) (h : St B b W1 l' X) => show X.cell? ⟨kb0, ko0, none⟩ = some (.int .i64 kids[0].kind) ∧ X.cell? ⟨kb0, ko0 + 1, none⟩ = some (.int .i64 kids[0].fn) ∧ X.cell? ⟨kb0, ko0 + 2, none⟩ = some (.int .i64 kids[0].op) ∧ X.cell? ⟨kb0, ko0 + 3, none⟩ = some (.int .i64 kids[0].num) ∧ X.cell? ⟨kb0, ko0 + 4, none⟩ = some (.string kids[0].metric) ∧ X.cell? ⟨kb0, ko0 + 5, none⟩ = some (.slice km0 kids[0].mats.length kc0) ∧ X.cell? ⟨kb0, ko0 + 6, none⟩ = some (.int .i64 kids[0].span) ∧ X.cell? ⟨kb0, ko0 + 7, none⟩ = some (.slice kn0 kids[0].names.length kd0) ∧ X.cell? ⟨kb0, ko0 + 8, none⟩ = some (.slice kk0 kids[0].kids.length ke0) from
    have q := Cells.of_below (h.bel.mono hn)
    ⟨q _ _ _ hbn0 (by simpa using y0), q _ _ _ hbn0 (by simpa [Nat.add_assoc] using y1), q _ _ _ hbn0 (by simpa [Nat.add_assoc] using y2), q _ _ _ hbn0 (by simpa [Nat.add_assoc] using y3), q _ _ _ hbn0 (by simpa [Nat.add_assoc] using y4), q _ _ _ hbn0 (by simpa [Nat.add_assoc] using y5), q _ _ _ hbn0 (by simpa [Nat.add_assoc] using y6), q _ _ _ hbn0 (by simpa [Nat.add_assoc] using y7), q _ _ _ hbn0 (by simpa [Nat.add_assoc] using y8)⟩)
  clear y0 y1 y2 y3 y4 y5 y6 y7 y8
  have HX : Hid (nodeT 4 fn op num metric mats span names (exTs kids) = (kidT (strI 4 op) (strI kids[0].kind kids[0].op, exT kids[0]) ++ ([32] ++ signL op ++ [32] ++ Lib.itoa num) : List UInt8)) := by show _ = _; rw [nodeT, exTs_getD kids 0 hj0]; simp
  have hl1 := HL.out
  rw [HX.out] at hl1
  simp only [List.length_append, List.length_cons, List.length_nil] at hl1
  have hk0l : (exT kids[0]).length ≤ (kidT (strI 4 op) (strI kids[0].kind kids[0].op, exT kids[0])).length := by unfold kidT; split <;> simp <;> omega
  have CSg := Lib.hid (fun (l' : List UInt8) (X : World) (h : St B b W1 l' X) => show Calls Tryz.prog 69 #[.int .i64 op] X (fun e' w' => e' = .returned (.string ⟨(signL op).toArray⟩) ∧ St B b W1 l' w') from
    (sSign op X (by obtain ⟨_, _, hop, _⟩ := HR.out; omega)).mono fun e' w' ⟨h1, h2⟩ => ⟨h1, h.keep hB1 h2⟩)
  have CF := Lib.hid (fun (l' : List UInt8) (X : World) (h : St B b W1 l' X) => show Calls Tryz.prog 70 #[.int .i64 num, .int .i64 10] X (fun e' w' => e' = .returned (.string ⟨(Lib.itoa num).toArray⟩) ∧ St B b W1 l' w') from
    (bFmt num hn64 B X (HT.out.on h.bel)).mono fun e' w' ⟨h1, h2⟩ => ⟨h1, h.keep hB1 h2⟩)
  have CK0 := Lib.hid (fun (l' : List UInt8) (X : World) (h : St B b W1 l' X) (hl' : l'.length + (kidT (strI 4 op) (strI kids[0].kind kids[0].op, exT kids[0])).length ≤ 1000000000) => show Calls Tryz.prog 68 #[.pointer (some ⟨b, 0, none⟩), .agg #[.int .i64 kids[0].kind, .int .i64 kids[0].fn, .int .i64 kids[0].op, .int .i64 kids[0].num, .string kids[0].metric, .slice km0 kids[0].mats.length kc0, .int .i64 kids[0].span, .slice kn0 kids[0].names.length kd0, .slice kk0 kids[0].kids.length ke0], .int .i64 (strI 4 op)] X (fun e' w' => e' = .returned (.tuple #[]) ∧ St B b W1 (l' ++ kidT (strI 4 op) (strI kids[0].kind kids[0].op, exT kids[0])) w') from
    (sKid kids[0] (Hih.out _ (List.getElem_mem hj0)) (HV.out _ (List.getElem_mem hj0)) (HK64.out _ (List.getElem_mem hj0)) (strI 4 op) _ n B b l' X (Hei0.out.mono (h.bel.mono hn) (Nat.le_refl _)) hn h.bld (h.size hB1) (HT.out.on h.bel) hl').mono fun e' w' ⟨h1, h2⟩ => ⟨h1, h.other h2⟩)
  obtain ⟨K0, hK0⟩ : ∃ K0, kidT (strI 4 op) (strI kids[0].kind kids[0].op, exT kids[0]) = K0 := ⟨_, rfl⟩
  rw [hK0] at CK0 HX hl1 hk0l
  have CW1 := Lib.hid (fun (X : World) (h : St B b W1 (l ++ K0) X) => show Calls Tryz.prog 66 #[.pointer (some ⟨b, 0, none⟩), .slice (some ⟨X.heap.size, 0, none⟩) 4 4] (X.alloc (.cells #[.string ⟨#[32]⟩, .string ⟨(signL op).toArray⟩, .string ⟨#[32]⟩, .string ⟨(Lib.itoa num).toArray⟩] 9)) (fun e' w' => e' = .returned (.tuple #[]) ∧ St B b W1 (l ++ K0 ++ ([32] ++ signL op ++ [32] ++ Lib.itoa num)) w') from
    (h.write (xs := [⟨#[32]⟩, ⟨(signL op).toArray⟩, ⟨#[32]⟩, ⟨(Lib.itoa num).toArray⟩]) hB1 _ rfl 4 rfl (by simp [catL]; omega) (by decide) _ rfl).mono fun e' w' ⟨h1, h2⟩ => ⟨h1, (by have e1 : l ++ K0 ++ catL [⟨#[32]⟩, ⟨(signL op).toArray⟩, ⟨#[32]⟩, ⟨(Lib.itoa num).toArray⟩] = l ++ K0 ++ ([32] ++ signL op ++ [32] ++ Lib.itoa num) := (by simp [catL]); rw [e1] at h2; exact h2)⟩)
  have hz0 := HKC0.out _ _ hst3
  go_upto_region 18 with (go_at_call 68; refine (CK0.out _ _ hst3 (by omega)).mono ?_; rintro e' w4 ⟨rfl, hst4⟩)
  clear hc3 hz0
  have hst4d := hst4.drew
  have hc4 := HC.out _ _ hst4d
  go_region_held3 (fun X => X.cell? ⟨W.heap.size, 0, none⟩ = some (.int .i64 4) ∧ X.cell? ⟨W.heap.size, 1, none⟩ = some (.int .i64 fn) ∧ X.cell? ⟨W.heap.size, 2, none⟩ = some (.int .i64 op) ∧ X.cell? ⟨W.heap.size, 3, none⟩ = some (.int .i64 num) ∧ X.cell? ⟨W.heap.size, 4, none⟩ = some (.string metric) ∧ X.cell? ⟨W.heap.size, 5, none⟩ = some (.slice pm mats.length cm) ∧ X.cell? ⟨W.heap.size, 6, none⟩ = some (.int .i64 span) ∧ X.cell? ⟨W.heap.size, 7, none⟩ = some (.slice pn names.length cn) ∧ X.cell? ⟨W.heap.size, 8, none⟩ = some (.slice (some ⟨kb0, ko0, none⟩) kids.length ck)) (first | exact HC.out _ _ (by assumption) | exact HC.out _ _ (St.alloc (by assumption) hB1 _))
    (first
      | (go_at_call 69; refine (CSg.out _ _ (by assumption)).mono ?_; rintro e' w5 ⟨rfl, hst5⟩)
      | (go_at_call 70; refine (CF.out _ _ (by assumption)).mono ?_; rintro e' w6 ⟨rfl, hst6⟩)
      | (go_at_call 66; refine (CW1.out _ (by assumption)).mono ?_; rintro e' w7 ⟨rfl, hst7⟩)
      | fail)
  all_goals go_wp2
  all_goals refine bodyPost_end (results_none rfl _ _ _) rfl ?_
  all_goals exact ⟨rfl, by rw [HX.out]; have := HS0.out.other hst7; simpa using this⟩
theorem sExpr_5 (fn op num span : Int) (metric : ByteArray) (mats : List Mat) (names : List ByteArray) (kids : List Ex) (ih : ∀ k ∈ kids, ShExprC k) : ShExprC (Ex.mk 5 fn op num metric mats span names kids) := by
  intro hv h64 cs n B b l W he hn hb hB hT hl
  have hv1 := hv
  rw [Ex.flat_eq, List.all_cons, Bool.and_eq_true] at hv1
  have hrt : rightH (hasOf 5) kids.length fn op num metric mats span names = true := by have := hv1.1; simpa [rightB, kindOk, Ex.kind, Ex.fn, Ex.op, Ex.num, Ex.metric, Ex.mats, Ex.span, Ex.names, Ex.kids] using this
  rw [rightH_5] at hrt
  have HR := Lib.hid hrt; clear hrt
  have hkv : ∀ k ∈ kids, k.flat.all rightB = true := fun k hk => List.all_eq_true.2 fun x hx => List.all_eq_true.1 hv1.2 x (flats_iff.2 ⟨k, hk, hx⟩)
  have hk64 : ∀ k ∈ kids, k.num64 := fun k hk => h64.kid (e := Ex.mk 5 fn op num metric mats span names kids) hk
  have hn64 : -9223372036854775808 ≤ num ∧ num ≤ 9223372036854775807 := h64.self (e := Ex.mk 5 fn op num metric mats span names kids)
  obtain ⟨pm, cm, pn, cn, pk, ck, hcs, hes, hma, hna, hka⟩ := he.cellsE
  simp only [Ex.kind, Ex.fn, Ex.op, Ex.num, Ex.metric, Ex.mats, Ex.span, Ex.names, Ex.kids] at hcs hes hma hna hka
  subst hcs
  have hjl : (Lib.join (names.map (·.data.toList)) [44, 32]).length ≤ 1000000000 := by obtain ⟨hkn, hfn, hop, hnam, ⟨hmet, hmats⟩, hspan⟩ := HR.out; rw [List.eq_nil_of_length_eq_zero hnam]; simp [Lib.join_nil]
  have h1000 : names.length ≤ 1000 := by obtain ⟨hkn, hfn, hop, hnam, ⟨hmet, hmats⟩, hspan⟩ := HR.out; omega
  rw [exT_eq] at hl ⊢
  simp only [Ex.kind, Ex.fn, Ex.op, Ex.num, Ex.metric, Ex.mats, Ex.span, Ex.names, Ex.kids] at hl ⊢
  have HV := Lib.hid hkv; clear hkv hv hv1 h64
  have HK64 := Lib.hid hk64; clear hk64
  have Hih := Lib.hid ih; clear ih
  have HL := Lib.hid hl; clear hl
  have He := Lib.hid he; clear he
  have HJl := Lib.hid hjl; clear hjl
  have HNa := Lib.hid hna; clear hna
  have HKa := Lib.hid hka; clear hka hma
  have HW0 := Lib.hid (St.start hb); clear hb
  go_enter Tryz.func41, Tryz.ntmps41; (try simp only [List.append_eq, List.cons_append, List.nil_append])
  go_upto_region 1 with fail
  have hblk := Blk.new W [.int .i64 5, .int .i64 fn, .int .i64 op, .int .i64 num, .string metric, .slice pm mats.length cm, .int .i64 span, .slice pn names.length cn, .slice pk kids.length ck] 37
  have hst := HW0.out.alloc hB (.cells [.int .i64 5, .int .i64 fn, .int .i64 op, .int .i64 num, .string metric, .slice pm mats.length cm, .int .i64 span, .slice pn names.length cn, .slice pk kids.length ck].toArray 37)
  have hT1 := hT.on (hst.bel)
  have HIn := Lib.hid (He.out.mono (hst.bel.mono hn) (Nat.le_refl _))
  have HNa1 := Lib.hid (HNa.out.mono (hst.bel.mono hn) (Nat.le_refl _))
  have HKa1 := Lib.hid (HKa.out.mono (hst.bel.mono hn) (Nat.le_refl _))
  obtain ⟨W1, hW1⟩ : ∃ W1, W.alloc (.cells [.int .i64 5, .int .i64 fn, .int .i64 op, .int .i64 num, .string metric, .slice pm mats.length cm, .int .i64 span, .slice pn names.length cn, .slice pk kids.length ck].toArray 37) = W1 := ⟨_, rfl⟩
  rw [hW1] at hblk hst hT1 HIn HNa1 HKa1
  have hW1' : W.alloc (.cells #[.int .i64 5, .int .i64 fn, .int .i64 op, .int .i64 num, .string metric, .slice pm mats.length cm, .int .i64 span, .slice pn names.length cn, .slice pk kids.length ck] 37) = W1 := hW1
  rw [hW1']
  have hB1 : B ≤ W1.heap.size := hst.size hB
  have gne : W.heap.size ≠ b := hst.bld.ne hblk (by decide)
  have HS0 := Lib.hid hst; clear hst
  have HT := Lib.hid hT1; clear hT1 hT
  have HBk := Lib.hid hblk; clear hblk hW1 hW1' HNa HKa He
  have HC := Lib.hid (fun (l' : List UInt8) (X : World) (h : St B b W1 l' X) => show X.cell? ⟨W.heap.size, 0, none⟩ = some (.int .i64 5) ∧ X.cell? ⟨W.heap.size, 1, none⟩ = some (.int .i64 fn) ∧ X.cell? ⟨W.heap.size, 2, none⟩ = some (.int .i64 op) ∧ X.cell? ⟨W.heap.size, 3, none⟩ = some (.int .i64 num) ∧ X.cell? ⟨W.heap.size, 4, none⟩ = some (.string metric) ∧ X.cell? ⟨W.heap.size, 5, none⟩ = some (.slice pm mats.length cm) ∧ X.cell? ⟨W.heap.size, 6, none⟩ = some (.int .i64 span) ∧ X.cell? ⟨W.heap.size, 7, none⟩ = some (.slice pn names.length cn) ∧ X.cell? ⟨W.heap.size, 8, none⟩ = some (.slice pk kids.length ck) from
    have q := HBk.out.kp h.kp gne (by decide)
    ⟨q.cell 0 _ rfl, q.cell 1 _ rfl, q.cell 2 _ rfl, q.cell 3 _ rfl, q.cell 4 _ rfl, q.cell 5 _ rfl, q.cell 6 _ rfl, q.cell 7 _ rfl, q.cell 8 _ rfl⟩)
  have CJ := Lib.hid (fun (l' : List UInt8) (X : World) (h : St B b W1 l' X) => show Calls Tryz.prog 62 #[.slice pn names.length cn, .string ⟨#[44, 32]⟩] X (fun e' w' => e' = .returned (.string ⟨(namesL names).toArray⟩) ∧ St B b W1 l' w') from
    (bJoin names pn cn n ⟨#[44, 32]⟩ X (HNa1.out.mono (h.bel.mono hn) (Nat.le_refl _)) (Nat.le_trans hn (h.size hB1)) h1000 HJl.out).mono fun e' w' ⟨h1, h2⟩ => ⟨h1, h.keep hB1 h2⟩)
  have CO := Lib.hid (fun (l' : List UInt8) (X : World) (h : St B b W1 l' X) => show Calls Tryz.prog 63 #[.agg #[.int .i64 5, .int .i64 fn, .int .i64 op, .int .i64 num, .string metric, .slice pm mats.length cm, .int .i64 span, .slice pn names.length cn, .slice pk kids.length ck]] X (fun e' w' => e' = .returned (.agg #[.int .i64 5, .int .i64 op]) ∧ St B b W1 l' w') from
    (sOf (Ex.mk 5 fn op num metric mats span names kids) pm pn pk cm cn ck X).mono fun e' w' ⟨h1, h2⟩ => ⟨h1, h.keep hB1 h2⟩)
  have CS := Lib.hid (fun (l' : List UInt8) (X : World) (h : St B b W1 l' X) => show Calls Tryz.prog 64 #[.agg #[.int .i64 5, .int .i64 op]] X (fun e' w' => e' = .returned (.int .i64 (strI 5 op)) ∧ St B b W1 l' w') from
    (sStrength 5 op X).mono fun e' w' ⟨h1, h2⟩ => ⟨h1, h.keep hB1 h2⟩)
  have hst0 : St B b W1 l W1 := St.start HS0.out.bld
  have hc0 := HC.out _ _ hst0
  go_upto_region 3 with (first
    | (go_at_call 62; refine (CJ.out _ _ hst0).mono ?_; rintro e' w1 ⟨rfl, hst1⟩; have hc1 := HC.out _ _ hst1)
    | (go_at_call 63; refine (CO.out _ _ hst1).mono ?_; rintro e' w2 ⟨rfl, hst2⟩)
    | (go_at_call 64; refine (CS.out _ _ hst2).mono ?_; rintro e' w3 ⟨rfl, hst3⟩))
  clear hc0 hc1 hst0 hst1 hst2
  have hc3 := HC.out _ _ hst3
  have hj0 : 0 < kids.length := by have := HR.out.1; omega
  obtain ⟨kb0, ko0, km0, kc0, kn0, kd0, kk0, ke0, hpk0, hbn0, hei0, y0, y1, y2, y3, y4, y5, y6, y7, y8⟩ := HKa1.out.getE (Cells.refl _ _) hj0
  subst hpk0
  have Hei0 := Lib.hid hei0; clear hei0
  have HKC0 := Lib.hid (fun (l' : List UInt8) (X : World) (h : St B b W1 l' X) => show X.cell? ⟨kb0, ko0, none⟩ = some (.int .i64 kids[0].kind) ∧ X.cell? ⟨kb0, ko0 + 1, none⟩ = some (.int .i64 kids[0].fn) ∧ X.cell? ⟨kb0, ko0 + 2, none⟩ = some (.int .i64 kids[0].op) ∧ X.cell? ⟨kb0, ko0 + 3, none⟩ = some (.int .i64 kids[0].num) ∧ X.cell? ⟨kb0, ko0 + 4, none⟩ = some (.string kids[0].metric) ∧ X.cell? ⟨kb0, ko0 + 5, none⟩ = some (.slice km0 kids[0].mats.length kc0) ∧ X.cell? ⟨kb0, ko0 + 6, none⟩ = some (.int .i64 kids[0].span) ∧ X.cell? ⟨kb0, ko0 + 7, none⟩ = some (.slice kn0 kids[0].names.length kd0) ∧ X.cell? ⟨kb0, ko0 + 8, none⟩ = some (.slice kk0 kids[0].kids.length ke0) from
    have q := Cells.of_below (h.bel.mono hn)
    ⟨q _ _ _ hbn0 (by simpa using y0), q _ _ _ hbn0 (by simpa [Nat.add_assoc] using y1), q _ _ _ hbn0 (by simpa [Nat.add_assoc] using y2), q _ _ _ hbn0 (by simpa [Nat.add_assoc] using y3), q _ _ _ hbn0 (by simpa [Nat.add_assoc] using y4), q _ _ _ hbn0 (by simpa [Nat.add_assoc] using y5), q _ _ _ hbn0 (by simpa [Nat.add_assoc] using y6), q _ _ _ hbn0 (by simpa [Nat.add_assoc] using y7), q _ _ _ hbn0 (by simpa [Nat.add_assoc] using y8)⟩)
  clear y0 y1 y2 y3 y4 y5 y6 y7 y8
  have HX : Hid (nodeT 5 fn op num metric mats span names (exTs kids) = (kidT (1) (strI kids[0].kind kids[0].op, exT kids[0]) ++ ([32] ++ signL op ++ [32] ++ Lib.itoa num) : List UInt8)) := by show _ = _; rw [nodeT, exTs_getD kids 0 hj0]; simp
  have hl1 := HL.out
  rw [HX.out] at hl1
  simp only [List.length_append, List.length_cons, List.length_nil] at hl1
  have hk0l : (exT kids[0]).length ≤ (kidT (1) (strI kids[0].kind kids[0].op, exT kids[0])).length := by unfold kidT; split <;> simp <;> omega
  have CSg := Lib.hid (fun (l' : List UInt8) (X : World) (h : St B b W1 l' X) => show Calls Tryz.prog 69 #[.int .i64 op] X (fun e' w' => e' = .returned (.string ⟨(signL op).toArray⟩) ∧ St B b W1 l' w') from
    (sSign op X (by obtain ⟨_, _, hop, _⟩ := HR.out; omega)).mono fun e' w' ⟨h1, h2⟩ => ⟨h1, h.keep hB1 h2⟩)
  have CF := Lib.hid (fun (l' : List UInt8) (X : World) (h : St B b W1 l' X) => show Calls Tryz.prog 70 #[.int .i64 num, .int .i64 10] X (fun e' w' => e' = .returned (.string ⟨(Lib.itoa num).toArray⟩) ∧ St B b W1 l' w') from
    (bFmt num hn64 B X (HT.out.on h.bel)).mono fun e' w' ⟨h1, h2⟩ => ⟨h1, h.keep hB1 h2⟩)
  have CK0 := Lib.hid (fun (l' : List UInt8) (X : World) (h : St B b W1 l' X) (hl' : l'.length + (kidT (1) (strI kids[0].kind kids[0].op, exT kids[0])).length ≤ 1000000000) => show Calls Tryz.prog 68 #[.pointer (some ⟨b, 0, none⟩), .agg #[.int .i64 kids[0].kind, .int .i64 kids[0].fn, .int .i64 kids[0].op, .int .i64 kids[0].num, .string kids[0].metric, .slice km0 kids[0].mats.length kc0, .int .i64 kids[0].span, .slice kn0 kids[0].names.length kd0, .slice kk0 kids[0].kids.length ke0], .int .i64 (1)] X (fun e' w' => e' = .returned (.tuple #[]) ∧ St B b W1 (l' ++ kidT (1) (strI kids[0].kind kids[0].op, exT kids[0])) w') from
    (sKid kids[0] (Hih.out _ (List.getElem_mem hj0)) (HV.out _ (List.getElem_mem hj0)) (HK64.out _ (List.getElem_mem hj0)) (1) _ n B b l' X (Hei0.out.mono (h.bel.mono hn) (Nat.le_refl _)) hn h.bld (h.size hB1) (HT.out.on h.bel) hl').mono fun e' w' ⟨h1, h2⟩ => ⟨h1, h.other h2⟩)
  obtain ⟨K0, hK0⟩ : ∃ K0, kidT (1) (strI kids[0].kind kids[0].op, exT kids[0]) = K0 := ⟨_, rfl⟩
  rw [hK0] at CK0 HX hl1 hk0l
  have CW1 := Lib.hid (fun (X : World) (h : St B b W1 (l ++ K0) X) => show Calls Tryz.prog 66 #[.pointer (some ⟨b, 0, none⟩), .slice (some ⟨X.heap.size, 0, none⟩) 4 4] (X.alloc (.cells #[.string ⟨#[32]⟩, .string ⟨(signL op).toArray⟩, .string ⟨#[32]⟩, .string ⟨(Lib.itoa num).toArray⟩] 9)) (fun e' w' => e' = .returned (.tuple #[]) ∧ St B b W1 (l ++ K0 ++ ([32] ++ signL op ++ [32] ++ Lib.itoa num)) w') from
    (h.write (xs := [⟨#[32]⟩, ⟨(signL op).toArray⟩, ⟨#[32]⟩, ⟨(Lib.itoa num).toArray⟩]) hB1 _ rfl 4 rfl (by simp [catL]; omega) (by decide) _ rfl).mono fun e' w' ⟨h1, h2⟩ => ⟨h1, (by have e1 : l ++ K0 ++ catL [⟨#[32]⟩, ⟨(signL op).toArray⟩, ⟨#[32]⟩, ⟨(Lib.itoa num).toArray⟩] = l ++ K0 ++ ([32] ++ signL op ++ [32] ++ Lib.itoa num) := (by simp [catL]); rw [e1] at h2; exact h2)⟩)
  have hz0 := HKC0.out _ _ hst3
  go_upto_region 21 with (go_at_call 68; refine (CK0.out _ _ hst3 (by omega)).mono ?_; rintro e' w4 ⟨rfl, hst4⟩)
  clear hc3 hz0
  have hst4d := hst4.drew
  have hc4 := HC.out _ _ hst4d
  go_region_held3 (fun X => X.cell? ⟨W.heap.size, 0, none⟩ = some (.int .i64 5) ∧ X.cell? ⟨W.heap.size, 1, none⟩ = some (.int .i64 fn) ∧ X.cell? ⟨W.heap.size, 2, none⟩ = some (.int .i64 op) ∧ X.cell? ⟨W.heap.size, 3, none⟩ = some (.int .i64 num) ∧ X.cell? ⟨W.heap.size, 4, none⟩ = some (.string metric) ∧ X.cell? ⟨W.heap.size, 5, none⟩ = some (.slice pm mats.length cm) ∧ X.cell? ⟨W.heap.size, 6, none⟩ = some (.int .i64 span) ∧ X.cell? ⟨W.heap.size, 7, none⟩ = some (.slice pn names.length cn) ∧ X.cell? ⟨W.heap.size, 8, none⟩ = some (.slice (some ⟨kb0, ko0, none⟩) kids.length ck)) (first | exact HC.out _ _ (by assumption) | exact HC.out _ _ (St.alloc (by assumption) hB1 _))
    (first
      | (go_at_call 69; refine (CSg.out _ _ (by assumption)).mono ?_; rintro e' w5 ⟨rfl, hst5⟩)
      | (go_at_call 70; refine (CF.out _ _ (by assumption)).mono ?_; rintro e' w6 ⟨rfl, hst6⟩)
      | (go_at_call 66; refine (CW1.out _ (by assumption)).mono ?_; rintro e' w7 ⟨rfl, hst7⟩)
      | fail)
  all_goals go_wp2
  all_goals refine bodyPost_end (results_none rfl _ _ _) rfl ?_
  all_goals exact ⟨rfl, by rw [HX.out]; have := HS0.out.other hst7; simpa using this⟩
theorem sExpr : ∀ e : Ex, ShExprC e := by
  refine Ex.ind fun e ih hv => ?_
  have hk : e.kind = 1 ∨ e.kind = 2 ∨ e.kind = 3 ∨ e.kind = 4 ∨ e.kind = 5 := by
    have h := hv; rw [Ex.flat_eq, List.all_cons, Bool.and_eq_true] at h; have h1 := h.1; simp only [rightB, Bool.and_eq_true, kindOk, decide_eq_true_eq] at h1; omega
  revert hv
  show ShExprC e
  rw [e.eq_mk]
  rcases hk with h | h | h | h | h <;> rw [h]
  · exact sExpr_1 _ _ _ _ _ _ _ _ ih
  · exact sExpr_2 _ _ _ _ _ _ _ _ ih
  · exact sExpr_3 _ _ _ _ _ _ _ _ ih
  · exact sExpr_4 _ _ _ _ _ _ _ _ ih
  · exact sExpr_5 _ _ _ _ _ _ _ _ ih
end Go.Proofs.YtdjdikiimhhjpaaGreatDoor
