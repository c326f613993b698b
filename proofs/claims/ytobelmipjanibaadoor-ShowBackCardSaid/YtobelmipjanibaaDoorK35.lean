/- ShowBack's walk. -/
import Derived.Test.YtobelmipjanibaaDoorK22
import Derived.Test.YtobelmipjanibaaDoorK8
import Derived.Test.YtobelmipjanibaaDoorK34
import Derived.Deep.DeepCutAuto
namespace Go.Proofs.YtobelmipjanibaaDoor
open Go.RowKit
set_option linter.unusedSimpArgs false
set_option linter.unusedVariables false

theorem queryO_ok {x : Int} {a : Ex} (h : checkQuery x a = 0) : queryO x a = [101, 118, 101, 114, 121, 32] ++ Lib.itoa x ++ [58, 32] ++ exprO a := by
  have h2 : checkExpr a = 0 := by
    unfold checkQuery at h
    split at h
    · exact h
    · cases h
  unfold queryO exprO
  rw [if_pos h, if_pos h2]; rfl
theorem queryO_no {x : Int} {a : Ex} (h : ¬ checkQuery x a = 0) : queryO x a = [] := by unfold queryO; rw [if_neg h]
theorem checkQ_ex {x : Int} {a : Ex} (h : checkQuery x a = 0) : checkExpr a = 0 := by
  unfold checkQuery at h
  split at h
  · exact h
  · cases h
theorem queryO_len {x : Int} {a : Ex} (h64 : a.num64) (hx : -9223372036854775808 ≤ x ∧ x ≤ 9223372036854775807) : (queryO x a).length ≤ 800100 := by
  by_cases h : checkQuery x a = 0
  · rw [queryO_ok h]
    have h1 := exT_short (checkQ_ex h) h64
    have h2 := itoa_len x hx
    have h3 : exprO a = exT a := by unfold exprO; rw [if_pos (checkQ_ex h)]
    rw [h3]
    simp only [List.length_append, List.length_cons, List.length_nil]; omega
  · rw [queryO_no h]; simp

set_option maxRecDepth 100000 in
set_option maxHeartbeats 8000000 in
theorem xBack (a : Ex) (cs : List Value) (x : Int) (t : ByteArray) (n : Nat) (w : World) (hT : TB w.heap.size w) (hn : n ≤ w.heap.size) (ha : IsEx n w a cs) (h64 : a.num64)
    (hx : -9223372036854775808 ≤ x ∧ x ≤ 9223372036854775807) (ht : t.size ≤ maxLen) :
    Calls Tryd.prog 5 #[.agg (.int .i64 x :: cs).toArray, .string t] w fun e' w' => e' = .returned (.bool true) ∧ Below w.heap.size w w' := by
  have HHa := Lib.hid (fun (X : World) (hb : Below w.heap.size w X) => ha.mono (hb.mono hn) (Nat.le_refl n))
  obtain ⟨pm, cm, pn, cn, pk, ck, rfl, -⟩ := ha.cellsE
  clear ha
  have HT := Lib.hid hT; clear hT
  have H64 := Lib.hid h64; clear h64
  have Hx := Lib.hid hx; clear hx
  have Ht := Lib.hid ht; clear ht
  go_enter Tryd.func5, Tryd.ntmps5; (try simp only [List.append_eq, List.cons_append, List.nil_append])
  go_wp2_with fail
  have k1 := Blk.new w [.int .i64 x, .int .i64 a.kind, .int .i64 a.fn, .int .i64 a.op, .int .i64 a.num, .string a.metric, .slice pm a.mats.length cm, .int .i64 a.span, .slice pn a.names.length cn, .slice pk a.kids.length ck] 38
  have kb : Below w.heap.size w (w.alloc (.cells ([.int .i64 x, .int .i64 a.kind, .int .i64 a.fn, .int .i64 a.op, .int .i64 a.num, .string a.metric, .slice pm a.mats.length cm, .int .i64 a.span, .slice pn a.names.length cn, .slice pk a.kids.length ck] : List Value).toArray 38)) := (Below.refl _ _).alloc (Nat.le_refl _) _
  generalize w.alloc (.cells ([.int .i64 x, .int .i64 a.kind, .int .i64 a.fn, .int .i64 a.op, .int .i64 a.num, .string a.metric, .slice pm a.mats.length cm, .int .i64 a.span, .slice pn a.names.length cn, .slice pk a.kids.length ck] : List Value).toArray 38) = X at k1 kb
  refine (xLives _ ((HT.out.on kb).less kb.size)).mono ?_
  rintro e' w1 ⟨rfl, hb1⟩
  have HQ := Lib.hid (k1.keep hb1); clear k1
  have HB := Lib.hid (kb.trans (hb1.mono kb.size)); clear kb hb1
  have d0 := HQ.out.cell 0 _ rfl; have d1 := HQ.out.cell 1 _ rfl; have d2 := HQ.out.cell 2 _ rfl; have d3 := HQ.out.cell 3 _ rfl; have d4 := HQ.out.cell 4 _ rfl; have d5 := HQ.out.cell 5 _ rfl; have d6 := HQ.out.cell 6 _ rfl; have d7 := HQ.out.cell 7 _ rfl; have d8 := HQ.out.cell 8 _ rfl; have d9 := HQ.out.cell 9 _ rfl
  go_wp2_with fail
  refine (kLight a _ 400 n w1 (Nat.le_trans hn HB.out.size) (by decide) (by decide) (HHa.out _ HB.out)).mono ?_
  rintro e' w2 ⟨rfl, hb2⟩
  clear d0 d1 d2 d3 d4 d5 d6 d7 d8 d9
  have HQ2 := Lib.hid (HQ.out.keep hb2); clear HQ
  have HB2 := Lib.hid (HB.out.trans (hb2.mono HB.out.size)); clear hb2 HB
  cases hlt : light a 400 with
  | false =>
    go_wp2
    go_ret
    exact ⟨rfl, HB2.out⟩
  | true =>
  have hsz := light_size hlt (by decide)
  have Hsz : Hid (a.size ≤ 1000000) := Lib.hid (by omega)
  clear hsz hlt
  by_cases htl : 2000 < t.size
  · have htl2 : (2000 : Int) < (t.size : Int) := by omega
    go_wp2
    go_ret
    exact ⟨rfl, HB2.out⟩
  have htl2 : ¬ (2000 : Int) < (t.size : Int) := by omega
  go_wp2_with fail
  refine (rdAny t w2 Ht.out).mono ?_
  rintro e' w3 ⟨hb3, ev, e, ps, er, at', rfl, hx3, hok⟩
  obtain ⟨qm, dm, qn, dn, qk, dk, rfl, -⟩ := hx3.cellsE
  have HQ3 := Lib.hid (HQ2.out.keep hb3); clear HQ2
  have HB3 := Lib.hid (HB2.out.trans (hb3.mono HB2.out.size)); clear hb3 HB2
  have HX3 := Lib.hid hx3; clear hx3
  have HOK := Lib.hid hok; clear hok
  go_upto_region 6 with fail
  have k1 := two_at w3 [.int .i64 ev, .int .i64 e.kind, .int .i64 e.fn, .int .i64 e.op, .int .i64 e.num, .string e.metric, .slice qm e.mats.length dm, .int .i64 e.span, .slice qn e.names.length dn, .slice qk e.kids.length dk] [.int .i64 er, .int .i64 at'] 38 42
  have k2 := two_at' w3 (.cells ([.int .i64 ev, .int .i64 e.kind, .int .i64 e.fn, .int .i64 e.op, .int .i64 e.num, .string e.metric, .slice qm e.mats.length dm, .int .i64 e.span, .slice qn e.names.length dn, .slice qk e.kids.length dk] : List Value).toArray 38) [.int .i64 er, .int .i64 at'] 42
  have kb := two_below w3 (.cells ([.int .i64 ev, .int .i64 e.kind, .int .i64 e.fn, .int .i64 e.op, .int .i64 e.num, .string e.metric, .slice qm e.mats.length dm, .int .i64 e.span, .slice qn e.names.length dn, .slice qk e.kids.length dk] : List Value).toArray 38) (.cells ([.int .i64 er, .int .i64 at'] : List Value).toArray 42)
  generalize ((w3.alloc (.cells ([.int .i64 ev, .int .i64 e.kind, .int .i64 e.fn, .int .i64 e.op, .int .i64 e.num, .string e.metric, .slice qm e.mats.length dm, .int .i64 e.span, .slice qn e.names.length dn, .slice qk e.kids.length dk] : List Value).toArray 38)).alloc (.cells ([.int .i64 er, .int .i64 at'] : List Value).toArray 42)) = w4 at k1 k2 kb
  have HP4 := Lib.hid k1; clear k1
  have HF4 := Lib.hid k2; clear k2
  have HQ4 := Lib.hid (HQ3.out.keep kb); clear HQ3
  have HX4 := Lib.hid (HX3.out.mono kb (Nat.le_refl _)); clear HX3
  have HB4 := Lib.hid (HB3.out.trans (kb.mono HB3.out.size)); clear HB3
  have Hbn := Lib.hid kb.size; clear kb
  obtain ⟨pb, hpb⟩ : ∃ k, w3.heap.size = k := ⟨_, rfl⟩
  rw [hpb] at HP4 HF4 HX4 Hbn ⊢
  clear hpb
  go_cut [34] (fun s34 wx => s34 = .bool (decide (er = 0) && decide (at' = 0)) ∧ wx = w4)
  case first =>
    have f0 := HF4.out.cell 0 _ rfl
    have f1 := HF4.out.cell 1 _ rfl
    by_cases h0 : er = 0
    · by_cases h1 : at' = 0
      · go_wp2
        all_goals first | (exfalso; contradiction) | skip
        go_meet
        exact ⟨by simp [h0, h1], rfl⟩
      · go_wp2
        all_goals first | (exfalso; contradiction) | skip
        go_meet
        exact ⟨by simp [h0, h1], rfl⟩
    · go_wp2
      all_goals go_meet
      all_goals exact ⟨by simp [h0], rfl⟩
  case rest =>
  obtain ⟨rfl, rfl⟩ := hcut
  go_upto_if 34 with fail
  go_cut [] (fun wx => Below w.heap.size w wx ∧ Blk wx w.heap.size 38 [.int .i64 x, .int .i64 a.kind, .int .i64 a.fn, .int .i64 a.op, .int .i64 a.num, .string a.metric, .slice pm a.mats.length cm, .int .i64 a.span, .slice pn a.names.length cn, .slice pk a.kids.length ck])
  case first =>
    by_cases h0 : er = 0 ∧ at' = 0
    · obtain ⟨rfl, rfl⟩ := h0
      obtain ⟨hcq, h64e, hsze, heve⟩ := HOK.out rfl
      have Hcq := Lib.hid hcq; have H64e := Lib.hid h64e; have Heve := Lib.hid heve
      have HX := Lib.hid (sShowQuery ev e _ pb _ Hbn.out HX4.out h64e heve hsze ((HT.out.on HB4.out).less HB4.out.size))
      clear hcq h64e hsze heve HOK
      have g0 := HP4.out.cell 0 _ rfl; have g1 := HP4.out.cell 1 _ rfl; have g2 := HP4.out.cell 2 _ rfl; have g3 := HP4.out.cell 3 _ rfl; have g4 := HP4.out.cell 4 _ rfl; have g5 := HP4.out.cell 5 _ rfl; have g6 := HP4.out.cell 6 _ rfl; have g7 := HP4.out.cell 7 _ rfl; have g8 := HP4.out.cell 8 _ rfl; have g9 := HP4.out.cell 9 _ rfl
      go_wp2_with fail
      refine HX.out.mono ?_
      rintro e' w5 ⟨rfl, hb5⟩
      clear g0 g1 g2 g3 g4 g5 g6 g7 g8 g9 HX
      have HP5 := Lib.hid (HP4.out.keep hb5); clear HP4
      have HQ5 := Lib.hid (HQ4.out.keep hb5); clear HQ4
      have HX5 := Lib.hid (HX4.out.mono (hb5.mono Hbn.out) (Nat.le_refl _)); clear HX4
      have HB5 := Lib.hid (HB4.out.trans (hb5.mono HB4.out.size)); clear HB4
      have Hbn5 := Lib.hid (Nat.le_trans Hbn.out hb5.size); clear Hbn hb5
      rw [Hcq.out]
      obtain ⟨S2, hS2⟩ : ∃ S : ByteArray, (⟨(queryO ev e).toArray⟩ : ByteArray) = S := ⟨_, rfl⟩
      rw [hS2]
      have hS3 : (⟨(queryT ev e).toArray⟩ : ByteArray) = S2 := by rw [← hS2]; unfold queryO; rw [if_pos Hcq.out]
      have hbd : S2.size ≤ 800100 := by rw [← hS2]; simpa [ByteArray.size] using queryO_len H64e.out Heve.out
      have HR := Lib.hid (rdShown Hcq.out H64e.out S2 hS3 (by unfold maxLen; omega))
      clear hS2 hS3
      go_wp2_with fail
      refine (HR.out _).mono ?_
      rintro e' w6 ⟨hb6, ev2, e2, rs, er2, at2, rfl, hx6, hcase⟩
      obtain ⟨rm, fm, rn, fn2, rk, fk, rfl, -⟩ := hx6.cellsE
      have HP6 := Lib.hid (HP5.out.keep hb6); clear HP5
      have HQ6 := Lib.hid (HQ5.out.keep hb6); clear HQ5
      have HX6 := Lib.hid (HX5.out.mono (hb6.mono Hbn5.out) (Nat.le_refl _)); clear HX5
      have HB6 := Lib.hid (HB5.out.trans (hb6.mono HB5.out.size)); clear HB5
      have Hbn6 := Lib.hid (Nat.le_trans Hbn5.out hb6.size); clear Hbn5 hb6
      have HY6 := Lib.hid hx6; clear hx6
      have HC := Lib.hid hcase; clear hcase HR
      go_upto_region 9 with fail
      have k1 := two_at w6 [.int .i64 ev2, .int .i64 e2.kind, .int .i64 e2.fn, .int .i64 e2.op, .int .i64 e2.num, .string e2.metric, .slice rm e2.mats.length fm, .int .i64 e2.span, .slice rn e2.names.length fn2, .slice rk e2.kids.length fk] [.int .i64 er2, .int .i64 at2] 38 42
      have k2 := two_at' w6 (.cells ([.int .i64 ev2, .int .i64 e2.kind, .int .i64 e2.fn, .int .i64 e2.op, .int .i64 e2.num, .string e2.metric, .slice rm e2.mats.length fm, .int .i64 e2.span, .slice rn e2.names.length fn2, .slice rk e2.kids.length fk] : List Value).toArray 38) [.int .i64 er2, .int .i64 at2] 42
      have kb := two_below w6 (.cells ([.int .i64 ev2, .int .i64 e2.kind, .int .i64 e2.fn, .int .i64 e2.op, .int .i64 e2.num, .string e2.metric, .slice rm e2.mats.length fm, .int .i64 e2.span, .slice rn e2.names.length fn2, .slice rk e2.kids.length fk] : List Value).toArray 38) (.cells ([.int .i64 er2, .int .i64 at2] : List Value).toArray 42)
      generalize ((w6.alloc (.cells ([.int .i64 ev2, .int .i64 e2.kind, .int .i64 e2.fn, .int .i64 e2.op, .int .i64 e2.num, .string e2.metric, .slice rm e2.mats.length fm, .int .i64 e2.span, .slice rn e2.names.length fn2, .slice rk e2.kids.length fk] : List Value).toArray 38)).alloc (.cells ([.int .i64 er2, .int .i64 at2] : List Value).toArray 42)) = w7 at k1 k2 kb
      have HR7 := Lib.hid k1; clear k1
      have HG7 := Lib.hid k2; clear k2
      have HP7 := Lib.hid (HP6.out.keep kb); clear HP6
      have HQ7 := Lib.hid (HQ6.out.keep kb); clear HQ6
      have HX7 := Lib.hid (HX6.out.mono (kb.mono Hbn6.out) (Nat.le_trans Hbn6.out kb.size)); clear HX6
      have HY7 := Lib.hid (HY6.out.mono kb kb.size); clear HY6
      have HB7 := Lib.hid (HB6.out.trans (kb.mono HB6.out.size)); clear HB6 Hbn6 kb
      obtain ⟨rb, hrb⟩ : ∃ k, w6.heap.size = k := ⟨_, rfl⟩
      rw [hrb] at HR7 HG7 ⊢
      clear hrb
      have f0 := HG7.out.cell 0 _ rfl
      have f1 := HG7.out.cell 1 _ rfl
      rcases HC.out with ⟨hle, rfl, rfl, rfl, rfl⟩ | ⟨hgt, rfl⟩
      · have hle2 : (S2.size : Int) ≤ 16384 := by omega
        clear HC
        have g0 := HP7.out.cell 0 _ rfl; have g1 := HP7.out.cell 1 _ rfl; have g2 := HP7.out.cell 2 _ rfl; have g3 := HP7.out.cell 3 _ rfl; have g4 := HP7.out.cell 4 _ rfl; have g5 := HP7.out.cell 5 _ rfl; have g6 := HP7.out.cell 6 _ rfl; have g7 := HP7.out.cell 7 _ rfl; have g8 := HP7.out.cell 8 _ rfl; have g9 := HP7.out.cell 9 _ rfl
        have d0 := HR7.out.cell 0 _ rfl; have d1 := HR7.out.cell 1 _ rfl; have d2 := HR7.out.cell 2 _ rfl; have d3 := HR7.out.cell 3 _ rfl; have d4 := HR7.out.cell 4 _ rfl; have d5 := HR7.out.cell 5 _ rfl; have d6 := HR7.out.cell 6 _ rfl; have d7 := HR7.out.cell 7 _ rfl; have d8 := HR7.out.cell 8 _ rfl; have d9 := HR7.out.cell 9 _ rfl
        go_wp2_with (go_at_call 21; refine (kExpr _ _ _ _ _ w7 (Nat.le_refl _) HY7.out HX7.out).mono ?_; rintro e' w8 ⟨rfl, hb8⟩; have HB8 := Lib.hid (HB7.out.trans (hb8.mono HB7.out.size)); have HQ8 := Lib.hid (HQ7.out.keep hb8); clear hb8)
        go_meet
        exact ⟨HB8.out, HQ8.out⟩
      · have hgt2 : ¬ (S2.size : Int) ≤ 16384 := by omega
        clear HC
        go_wp2_with fail
        go_meet
        exact ⟨HB7.out, HQ7.out⟩
    · have h0b : (decide (er = 0) && decide (at' = 0)) = false := by simpa using h0
      go_wp2
      go_meet
      exact ⟨HB4.out, HQ4.out⟩
  case rest =>
    clear HP4 HF4 HQ4 HX4 HB4 Hbn HOK
    obtain ⟨hb5, hq5⟩ := hcut
    have HQ5 := Lib.hid hq5; have HB5 := Lib.hid hb5; clear hq5 hb5
    have HX := Lib.hid (sShowQuery x a _ n wc (Nat.le_trans hn HB5.out.size) (HHa.out _ HB5.out) H64.out Hx.out Hsz.out ((HT.out.on HB5.out).less HB5.out.size))
    have d0 := HQ5.out.cell 0 _ rfl; have d1 := HQ5.out.cell 1 _ rfl; have d2 := HQ5.out.cell 2 _ rfl; have d3 := HQ5.out.cell 3 _ rfl; have d4 := HQ5.out.cell 4 _ rfl; have d5 := HQ5.out.cell 5 _ rfl; have d6 := HQ5.out.cell 6 _ rfl; have d7 := HQ5.out.cell 7 _ rfl; have d8 := HQ5.out.cell 8 _ rfl; have d9 := HQ5.out.cell 9 _ rfl
    go_wp2_with fail
    refine HX.out.mono ?_
    rintro e' w6 ⟨rfl, hb6⟩
    clear d0 d1 d2 d3 d4 d5 d6 d7 d8 d9 HX
    have HQ6 := Lib.hid (HQ5.out.keep hb6); clear HQ5
    have HB6 := Lib.hid (HB5.out.trans (hb6.mono HB5.out.size)); clear hb6 HB5
    obtain ⟨SA, hSA⟩ : ∃ S : ByteArray, (⟨(queryO x a).toArray⟩ : ByteArray) = S := ⟨_, rfl⟩
    obtain ⟨ca, hca⟩ : ∃ c : Int, checkQuery x a = c := ⟨_, rfl⟩
    rw [hSA, hca]
    have HSA := Lib.hid hSA; clear hSA
    have Hca := Lib.hid hca; clear hca
    by_cases h0 : ca = 0
    · subst h0
      have hS3 : (⟨(queryT x a).toArray⟩ : ByteArray) = SA := by rw [← HSA.out]; unfold queryO; rw [if_pos Hca.out]
      have hbd : SA.size ≤ 800100 := by rw [← HSA.out]; simpa [ByteArray.size] using queryO_len H64.out Hx.out
      have HR := Lib.hid (rdShown Hca.out H64.out SA hS3 (by unfold maxLen; omega))
      clear hS3
      go_wp2_with fail
      refine (HR.out _).mono ?_
      rintro e' w7 ⟨hb7, ev, e, rs, er, at', rfl, hx7, hcase⟩
      obtain ⟨rm, fm, rn, fn2, rk, fk, rfl, -⟩ := hx7.cellsE
      have HQ7 := Lib.hid (HQ6.out.keep hb7); clear HQ6
      have HB7 := Lib.hid (HB6.out.trans (hb7.mono HB6.out.size)); clear HB6 hb7
      have HY7 := Lib.hid hx7; clear hx7
      have HC := Lib.hid hcase; clear hcase HR
      go_upto_region 15 with fail
      have k1 := two_at w7 [.int .i64 ev, .int .i64 e.kind, .int .i64 e.fn, .int .i64 e.op, .int .i64 e.num, .string e.metric, .slice rm e.mats.length fm, .int .i64 e.span, .slice rn e.names.length fn2, .slice rk e.kids.length fk] [.int .i64 er, .int .i64 at'] 38 42
      have k2 := two_at' w7 (.cells ([.int .i64 ev, .int .i64 e.kind, .int .i64 e.fn, .int .i64 e.op, .int .i64 e.num, .string e.metric, .slice rm e.mats.length fm, .int .i64 e.span, .slice rn e.names.length fn2, .slice rk e.kids.length fk] : List Value).toArray 38) [.int .i64 er, .int .i64 at'] 42
      have kb := two_below w7 (.cells ([.int .i64 ev, .int .i64 e.kind, .int .i64 e.fn, .int .i64 e.op, .int .i64 e.num, .string e.metric, .slice rm e.mats.length fm, .int .i64 e.span, .slice rn e.names.length fn2, .slice rk e.kids.length fk] : List Value).toArray 38) (.cells ([.int .i64 er, .int .i64 at'] : List Value).toArray 42)
      generalize ((w7.alloc (.cells ([.int .i64 ev, .int .i64 e.kind, .int .i64 e.fn, .int .i64 e.op, .int .i64 e.num, .string e.metric, .slice rm e.mats.length fm, .int .i64 e.span, .slice rn e.names.length fn2, .slice rk e.kids.length fk] : List Value).toArray 38)).alloc (.cells ([.int .i64 er, .int .i64 at'] : List Value).toArray 42)) = w8 at k1 k2 kb
      have HR8 := Lib.hid k1; clear k1
      have HG8 := Lib.hid k2; clear k2
      have HQ8 := Lib.hid (HQ7.out.keep kb); clear HQ7
      have HY8 := Lib.hid (HY7.out.mono kb kb.size); clear HY7
      have HB8 := Lib.hid (HB7.out.trans (kb.mono HB7.out.size)); clear HB7 kb
      obtain ⟨rb, hrb⟩ : ∃ k, w7.heap.size = k := ⟨_, rfl⟩
      rw [hrb] at HR8 HG8 ⊢
      clear hrb
      have f0 := HG8.out.cell 0 _ rfl
      have f1 := HG8.out.cell 1 _ rfl
      rcases HC.out with ⟨hle, rfl, rfl, rfl, rfl⟩ | ⟨hgt, rfl⟩
      · have hle2 : ¬ (16384 : Int) < (SA.size : Int) := by omega
        clear HC
        have HX := Lib.hid (sShowQuery ev e _ _ w8 (Nat.le_refl _) HY8.out H64.out Hx.out Hsz.out ((HT.out.on HB8.out).less HB8.out.size))
        have g0 := HR8.out.cell 0 _ rfl; have g1 := HR8.out.cell 1 _ rfl; have g2 := HR8.out.cell 2 _ rfl; have g3 := HR8.out.cell 3 _ rfl; have g4 := HR8.out.cell 4 _ rfl; have g5 := HR8.out.cell 5 _ rfl; have g6 := HR8.out.cell 6 _ rfl; have g7 := HR8.out.cell 7 _ rfl; have g8 := HR8.out.cell 8 _ rfl; have g9 := HR8.out.cell 9 _ rfl
        go_wp2_with fail
        refine HX.out.mono ?_
        rintro e' w9 ⟨rfl, hb9⟩
        clear g0 g1 g2 g3 g4 g5 g6 g7 g8 g9 HX f0 f1
        have HR9 := Lib.hid (HR8.out.keep hb9); clear HR8
        have HG9 := Lib.hid (HG8.out.keep hb9); clear HG8
        have HQ9 := Lib.hid (HQ8.out.keep hb9); clear HQ8
        have HY9 := Lib.hid (HY8.out.mono hb9 hb9.size); clear HY8
        have HB9 := Lib.hid (HB8.out.trans (hb9.mono HB8.out.size)); clear HB8 hb9
        rw [HSA.out, Hca.out]
        have f0 := HG9.out.cell 0 _ rfl
        have f1 := HG9.out.cell 1 _ rfl
        have d0 := HQ9.out.cell 0 _ rfl; have d1 := HQ9.out.cell 1 _ rfl; have d2 := HQ9.out.cell 2 _ rfl; have d3 := HQ9.out.cell 3 _ rfl; have d4 := HQ9.out.cell 4 _ rfl; have d5 := HQ9.out.cell 5 _ rfl; have d6 := HQ9.out.cell 6 _ rfl; have d7 := HQ9.out.cell 7 _ rfl; have d8 := HQ9.out.cell 8 _ rfl; have d9 := HQ9.out.cell 9 _ rfl
        have g0 := HR9.out.cell 0 _ rfl; have g1 := HR9.out.cell 1 _ rfl; have g2 := HR9.out.cell 2 _ rfl; have g3 := HR9.out.cell 3 _ rfl; have g4 := HR9.out.cell 4 _ rfl; have g5 := HR9.out.cell 5 _ rfl; have g6 := HR9.out.cell 6 _ rfl; have g7 := HR9.out.cell 7 _ rfl; have g8 := HR9.out.cell 8 _ rfl; have g9 := HR9.out.cell 9 _ rfl
        go_wp2_with (go_at_call 21; refine (kExpr _ _ _ _ _ w9 (Nat.le_refl _) HY9.out ((HHa.out _ HB9.out).mono (Below.refl _ _) (Nat.le_trans hn HB9.out.size))).mono ?_; rintro e' wx ⟨rfl, hbx⟩; have HBx := Lib.hid (HB9.out.trans (hbx.mono HB9.out.size)); clear hbx)
        all_goals first
          | (exfalso; contradiction)
          | skip
        go_ret
        exact ⟨rfl, HBx.out⟩
      · have hgt2 : (16384 : Int) < (SA.size : Int) := by omega
        clear HC
        go_wp2_with fail
        go_ret
        exact ⟨rfl, HB8.out⟩
    · have hS : SA = ⟨#[]⟩ := by rw [← HSA.out, queryO_no (by rw [Hca.out]; exact h0)]
      subst hS
      have h0b : (ca != 0) = true := by simpa using h0
      have HX := Lib.hid (rCheck x a _ n w6 (Nat.le_trans hn HB6.out.size) (HHa.out _ HB6.out) Hsz.out)
      have d0 := HQ6.out.cell 0 _ rfl; have d1 := HQ6.out.cell 1 _ rfl; have d2 := HQ6.out.cell 2 _ rfl; have d3 := HQ6.out.cell 3 _ rfl; have d4 := HQ6.out.cell 4 _ rfl; have d5 := HQ6.out.cell 5 _ rfl; have d6 := HQ6.out.cell 6 _ rfl; have d7 := HQ6.out.cell 7 _ rfl; have d8 := HQ6.out.cell 8 _ rfl; have d9 := HQ6.out.cell 9 _ rfl
      go_wp2_with fail
      refine HX.out.mono ?_
      rintro e' w7 ⟨rfl, hb7⟩
      rw [Hca.out]
      clear d0 d1 d2 d3 d4 d5 d6 d7 d8 d9 HX
      have HB7 := Lib.hid (HB6.out.trans (hb7.mono HB6.out.size)); clear hb7 HB6
      go_wp2_with fail
      go_ret
      exact ⟨ret_bool (by simp), HB7.out⟩
end Go.Proofs.YtobelmipjanibaaDoor
