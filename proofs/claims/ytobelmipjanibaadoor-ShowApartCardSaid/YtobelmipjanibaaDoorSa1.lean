/- ShowApart's walk. -/
import Derived.Test.YtobelmipjanibaaDoorSh8
import Derived.Test.YtobelmipjanibaaDoorKit3
import Derived.Test.YtobelmipjanibaaDoorPq2
namespace Go.Proofs.YtobelmipjanibaaDoor
open Go.RowKit
set_option linter.unusedSimpArgs false
set_option linter.unusedVariables false

theorem queryO_ok {x : Int} {a : Ex} (h : checkQuery x a = 0) : queryO x a = [101, 118, 101, 114, 121, 32] ++ Lib.itoa x ++ [58, 32] ++ exprO a := by
  have h2 : checkExpr a = 0 := by
    unfold checkQuery at h
    split at h
    · exact h
    · cases h
  unfold queryO exprO
  rw [if_pos h, if_pos h2]; rfl
theorem queryO_no {x : Int} {a : Ex} (h : ¬ checkQuery x a = 0) : queryO x a = [] := by unfold queryO; rw [if_neg h]
theorem checkQ_ex {x : Int} {a : Ex} (h : checkQuery x a = 0) : checkExpr a = 0 := by
  unfold checkQuery at h
  split at h
  · exact h
  · cases h
theorem queryO_len {x : Int} {a : Ex} (h64 : a.num64) (hx : -9223372036854775808 ≤ x ∧ x ≤ 9223372036854775807) : (queryO x a).length ≤ 800100 := by
  by_cases h : checkQuery x a = 0
  · rw [queryO_ok h]
    have h1 := exT_short (checkQ_ex h) h64
    have h2 := itoa_len x hx
    have h3 : exprO a = exT a := by unfold exprO; rw [if_pos (checkQ_ex h)]
    rw [h3]
    simp only [List.length_append, List.length_cons, List.length_nil]; omega
  · rw [queryO_no h]; simp
theorem ba_suffix (p q : List UInt8) : (⟨(p ++ q).toArray⟩ : ByteArray).extract ((⟨(p ++ q).toArray⟩ : ByteArray).size - (⟨q.toArray⟩ : ByteArray).size) (⟨(p ++ q).toArray⟩ : ByteArray).size = ⟨q.toArray⟩ := by
  apply ByteArray.ext
  simp only [ByteArray.data_extract]
  apply Array.ext'
  simp [ByteArray.size, List.extract_eq_take_drop]

set_option maxRecDepth 100000 in
set_option maxHeartbeats 8000000 in
theorem xApart (a b : Ex) (cs ds : List Value) (x y : Int) (n : Nat) (w : World) (hT : TB w.heap.size w) (hn : n ≤ w.heap.size) (ha : IsEx n w a cs) (hb : IsEx n w b ds) (h64 : a.num64) (h64' : b.num64)
    (hx : -9223372036854775808 ≤ x ∧ x ≤ 9223372036854775807) (hy : -9223372036854775808 ≤ y ∧ y ≤ 9223372036854775807) :
    Calls Tryd.prog 6 #[.agg (.int .i64 x :: cs).toArray, .agg (.int .i64 y :: ds).toArray] w fun e' w' => e' = .returned (.bool true) ∧ Below w.heap.size w w' := by
  have HHa := Lib.hid (fun (X : World) (hb : Below w.heap.size w X) => ha.mono (hb.mono hn) (Nat.le_refl n))
  have HHb := Lib.hid (fun (X : World) (hc : Below w.heap.size w X) => hb.mono (hc.mono hn) (Nat.le_refl n))
  obtain ⟨pm, cm, pn, cn, pk, ck, rfl, -⟩ := ha.cellsE
  obtain ⟨qm, dm, qn, dn, qk, dk, rfl, -⟩ := hb.cellsE
  clear ha hb
  have HT := Lib.hid hT; clear hT
  have H64 := Lib.hid h64; clear h64
  have H64' := Lib.hid h64'; clear h64'
  have Hx := Lib.hid hx; clear hx
  have Hy := Lib.hid hy; clear hy
  go_enter Tryd.func6, Tryd.ntmps6; (try simp only [List.append_eq, List.cons_append, List.nil_append])
  go_wp2_with fail
  have k1 := two_at w (.int .i64 x :: [.int .i64 a.kind, .int .i64 a.fn, .int .i64 a.op, .int .i64 a.num, .string a.metric, .slice pm a.mats.length cm, .int .i64 a.span, .slice pn a.names.length cn, .slice pk a.kids.length ck]) (.int .i64 y :: [.int .i64 b.kind, .int .i64 b.fn, .int .i64 b.op, .int .i64 b.num, .string b.metric, .slice qm b.mats.length dm, .int .i64 b.span, .slice qn b.names.length dn, .slice qk b.kids.length dk]) 38 38
  have k2 := two_at' w (.cells (.int .i64 x :: [.int .i64 a.kind, .int .i64 a.fn, .int .i64 a.op, .int .i64 a.num, .string a.metric, .slice pm a.mats.length cm, .int .i64 a.span, .slice pn a.names.length cn, .slice pk a.kids.length ck] : List Value).toArray 38) (.int .i64 y :: [.int .i64 b.kind, .int .i64 b.fn, .int .i64 b.op, .int .i64 b.num, .string b.metric, .slice qm b.mats.length dm, .int .i64 b.span, .slice qn b.names.length dn, .slice qk b.kids.length dk]) 38
  have kb := two_below w (.cells (.int .i64 x :: [.int .i64 a.kind, .int .i64 a.fn, .int .i64 a.op, .int .i64 a.num, .string a.metric, .slice pm a.mats.length cm, .int .i64 a.span, .slice pn a.names.length cn, .slice pk a.kids.length ck] : List Value).toArray 38) (.cells (.int .i64 y :: [.int .i64 b.kind, .int .i64 b.fn, .int .i64 b.op, .int .i64 b.num, .string b.metric, .slice qm b.mats.length dm, .int .i64 b.span, .slice qn b.names.length dn, .slice qk b.kids.length dk] : List Value).toArray 38)
  obtain ⟨X, hX⟩ : ∃ X, ((w.alloc (.cells (.int .i64 x :: [.int .i64 a.kind, .int .i64 a.fn, .int .i64 a.op, .int .i64 a.num, .string a.metric, .slice pm a.mats.length cm, .int .i64 a.span, .slice pn a.names.length cn, .slice pk a.kids.length ck] : List Value).toArray 38)).alloc (.cells (.int .i64 y :: [.int .i64 b.kind, .int .i64 b.fn, .int .i64 b.op, .int .i64 b.num, .string b.metric, .slice qm b.mats.length dm, .int .i64 b.span, .slice qn b.names.length dn, .slice qk b.kids.length dk] : List Value).toArray 38)) = X := ⟨_, rfl⟩
  rw [hX] at k1 k2 kb
  have HHX := Lib.hid hX
  rw [show ((w.alloc (.cells #[.int .i64 x, .int .i64 a.kind, .int .i64 a.fn, .int .i64 a.op, .int .i64 a.num, .string a.metric, .slice pm a.mats.length cm, .int .i64 a.span, .slice pn a.names.length cn, .slice pk a.kids.length ck] 38)).alloc (.cells #[.int .i64 y, .int .i64 b.kind, .int .i64 b.fn, .int .i64 b.op, .int .i64 b.num, .string b.metric, .slice qm b.mats.length dm, .int .i64 b.span, .slice qn b.names.length dn, .slice qk b.kids.length dk] 38)) = X from hX]
  clear hX HHX
  refine (xLives _ ((HT.out.on kb).less kb.size)).mono ?_
  rintro e' w1 ⟨rfl, hb1⟩
  have HQ := Lib.hid (k1.keep hb1); clear k1
  have HR := Lib.hid (k2.keep hb1); clear k2
  have HB := Lib.hid (kb.trans (hb1.mono kb.size)); clear kb hb1
  have d0 := HQ.out.cell 0 _ rfl; have d1 := HQ.out.cell 1 _ rfl; have d2 := HQ.out.cell 2 _ rfl; have d3 := HQ.out.cell 3 _ rfl; have d4 := HQ.out.cell 4 _ rfl; have d5 := HQ.out.cell 5 _ rfl; have d6 := HQ.out.cell 6 _ rfl; have d7 := HQ.out.cell 7 _ rfl; have d8 := HQ.out.cell 8 _ rfl; have d9 := HQ.out.cell 9 _ rfl
  have g0 := HR.out.cell 0 _ rfl; have g1 := HR.out.cell 1 _ rfl; have g2 := HR.out.cell 2 _ rfl; have g3 := HR.out.cell 3 _ rfl; have g4 := HR.out.cell 4 _ rfl; have g5 := HR.out.cell 5 _ rfl; have g6 := HR.out.cell 6 _ rfl; have g7 := HR.out.cell 7 _ rfl; have g8 := HR.out.cell 8 _ rfl; have g9 := HR.out.cell 9 _ rfl
  go_wp2_with fail
  refine (kLight a _ 400 n w1 (Nat.le_trans hn HB.out.size) (by decide) (by decide) (HHa.out _ HB.out)).mono ?_
  rintro e' w2 ⟨rfl, hb2⟩
  clear d0 d1 d2 d3 d4 d5 d6 d7 d8 d9 g0 g1 g2 g3 g4 g5 g6 g7 g8 g9
  have HQ2 := Lib.hid (HQ.out.keep hb2); clear HQ
  have HR2 := Lib.hid (HR.out.keep hb2); clear HR
  have HB2 := Lib.hid (HB.out.trans (hb2.mono HB.out.size)); clear hb2 HB
  cases hlt : light a 400 with
  | false =>
    go_wp2
    go_ret
    exact ⟨rfl, HB2.out⟩
  | true =>
  have hsz := light_size hlt (by decide)
  have Hsz : Hid (a.size ≤ 1000000) := Lib.hid (by omega)
  clear hsz hlt
  have g0 := HR2.out.cell 0 _ rfl; have g1 := HR2.out.cell 1 _ rfl; have g2 := HR2.out.cell 2 _ rfl; have g3 := HR2.out.cell 3 _ rfl; have g4 := HR2.out.cell 4 _ rfl; have g5 := HR2.out.cell 5 _ rfl; have g6 := HR2.out.cell 6 _ rfl; have g7 := HR2.out.cell 7 _ rfl; have g8 := HR2.out.cell 8 _ rfl; have g9 := HR2.out.cell 9 _ rfl
  go_wp2_with fail
  refine (kLight b _ 400 n w2 (Nat.le_trans hn HB2.out.size) (by decide) (by decide) (HHb.out _ HB2.out)).mono ?_
  rintro e' w3 ⟨rfl, hb3⟩
  clear g0 g1 g2 g3 g4 g5 g6 g7 g8 g9
  have HQ3 := Lib.hid (HQ2.out.keep hb3); clear HQ2
  have HR3 := Lib.hid (HR2.out.keep hb3); clear HR2
  have HB3 := Lib.hid (HB2.out.trans (hb3.mono HB2.out.size)); clear hb3 HB2
  cases hlt : light b 400 with
  | false =>
    go_wp2
    go_ret
    exact ⟨rfl, HB3.out⟩
  | true =>
  have hsz := light_size hlt (by decide)
  have Hsz' : Hid (b.size ≤ 1000000) := Lib.hid (by omega)
  clear hsz hlt
  have d0 := HQ3.out.cell 0 _ rfl; have d1 := HQ3.out.cell 1 _ rfl; have d2 := HQ3.out.cell 2 _ rfl; have d3 := HQ3.out.cell 3 _ rfl; have d4 := HQ3.out.cell 4 _ rfl; have d5 := HQ3.out.cell 5 _ rfl; have d6 := HQ3.out.cell 6 _ rfl; have d7 := HQ3.out.cell 7 _ rfl; have d8 := HQ3.out.cell 8 _ rfl; have d9 := HQ3.out.cell 9 _ rfl
  go_wp2_with fail
  refine (sShowQuery x a _ n _ (Nat.le_trans hn HB3.out.size) (HHa.out _ HB3.out) H64.out Hx.out Hsz.out ((HT.out.on HB3.out).less HB3.out.size)).mono ?_
  rintro e' w4 ⟨rfl, hb4⟩
  clear d0 d1 d2 d3 d4 d5 d6 d7 d8 d9
  have HQ4 := Lib.hid (HQ3.out.keep hb4); clear HQ3
  have HR4 := Lib.hid (HR3.out.keep hb4); clear HR3
  have HB4 := Lib.hid (HB3.out.trans (hb4.mono HB3.out.size)); clear hb4 HB3
  obtain ⟨SA, hSA⟩ : ∃ S : ByteArray, (⟨(queryO x a).toArray⟩ : ByteArray) = S := ⟨_, rfl⟩
  obtain ⟨ca, hca⟩ : ∃ c : Int, checkQuery x a = c := ⟨_, rfl⟩
  rw [hSA, hca]
  have HSA := Lib.hid hSA; clear hSA
  have Hca := Lib.hid hca; clear hca
  have g0 := HR4.out.cell 0 _ rfl; have g1 := HR4.out.cell 1 _ rfl; have g2 := HR4.out.cell 2 _ rfl; have g3 := HR4.out.cell 3 _ rfl; have g4 := HR4.out.cell 4 _ rfl; have g5 := HR4.out.cell 5 _ rfl; have g6 := HR4.out.cell 6 _ rfl; have g7 := HR4.out.cell 7 _ rfl; have g8 := HR4.out.cell 8 _ rfl; have g9 := HR4.out.cell 9 _ rfl
  go_wp2_with fail
  refine (sShowQuery y b _ n _ (Nat.le_trans hn HB4.out.size) (HHb.out _ HB4.out) H64'.out Hy.out Hsz'.out ((HT.out.on HB4.out).less HB4.out.size)).mono ?_
  rintro e' w5 ⟨rfl, hb5⟩
  clear g0 g1 g2 g3 g4 g5 g6 g7 g8 g9
  have HQ5 := Lib.hid (HQ4.out.keep hb5); clear HQ4
  have HR5 := Lib.hid (HR4.out.keep hb5); clear HR4
  have HB5 := Lib.hid (HB4.out.trans (hb5.mono HB4.out.size)); clear hb5 HB4
  obtain ⟨SB, hSB⟩ : ∃ S : ByteArray, (⟨(queryO y b).toArray⟩ : ByteArray) = S := ⟨_, rfl⟩
  obtain ⟨cb, hcb⟩ : ∃ c : Int, checkQuery y b = c := ⟨_, rfl⟩
  rw [hSB, hcb]
  have HSB := Lib.hid hSB; clear hSB
  have Hcb := Lib.hid hcb; clear hcb
  have key : ∀ {c : Int} {z : Int} {e : Ex} {S : ByteArray}, checkQuery z e = c → (⟨(queryO z e).toArray⟩ : ByteArray) = S → c ≠ 0 → S = ⟨#[]⟩ := by
    intro c z e S h1 h2 h3
    subst h1; rw [← h2, queryO_no h3]
  by_cases h0 : ca = 0
  · by_cases h1 : cb = 0
    · subst h0 h1
      have d0 := HQ5.out.cell 0 _ rfl; have d1 := HQ5.out.cell 1 _ rfl; have d2 := HQ5.out.cell 2 _ rfl; have d3 := HQ5.out.cell 3 _ rfl; have d4 := HQ5.out.cell 4 _ rfl; have d5 := HQ5.out.cell 5 _ rfl; have d6 := HQ5.out.cell 6 _ rfl; have d7 := HQ5.out.cell 7 _ rfl; have d8 := HQ5.out.cell 8 _ rfl; have d9 := HQ5.out.cell 9 _ rfl
      go_wp2_with fail
      have hce := checkQ_ex Hca.out
      refine (sShowExpr a _ n w5 (Nat.le_trans hn HB5.out.size) (HHa.out _ HB5.out) H64.out Hsz.out ((HT.out.on HB5.out).less HB5.out.size)).mono ?_
      rintro e' w6 ⟨rfl, hb6⟩
      rw [hce]
      clear d0 d1 d2 d3 d4 d5 d6 d7 d8 d9 hce
      have HQ6 := Lib.hid (HQ5.out.keep hb6); clear HQ5
      have HR6 := Lib.hid (HR5.out.keep hb6); clear HR5
      have HB6 := Lib.hid (HB5.out.trans (hb6.mono HB5.out.size)); clear hb6 HB5
      obtain ⟨XA, hXA⟩ : ∃ S : ByteArray, (⟨(exprO a).toArray⟩ : ByteArray) = S := ⟨_, rfl⟩
      rw [hXA]
      have hs := HSA.out
      rw [queryO_ok Hca.out] at hs
      have hsuf := ba_suffix ([101, 118, 101, 114, 121, 32] ++ Lib.itoa x ++ [58, 32]) (exprO a)
      rw [hs, hXA] at hsuf
      have hlt : XA.size + 8 ≤ SA.size := by
        rw [← hs, ← hXA]
        simp only [ByteArray.size, List.size_toArray, List.length_append, List.length_cons, List.length_nil]; omega
      have hbd : SA.size ≤ 800100 := by
        rw [← HSA.out]
        simpa [ByteArray.size] using queryO_len H64.out Hx.out
      have hinj : (SA = SB) ↔ (x = y ∧ a = b) := by
        constructor
        · intro h
          rw [← HSA.out, ← HSB.out] at h
          have h2 : queryO x a = queryO y b := by simpa using h
          have e1 : queryO x a = queryT x a := by unfold queryO; rw [if_pos Hca.out]
          have e2 : queryO y b = queryT y b := by unfold queryO; rw [if_pos Hcb.out]
          rw [e1, e2] at h2
          exact query_inj Hca.out Hcb.out H64.out H64'.out h2
        · rintro ⟨rfl, rfl⟩
          rw [← HSA.out, ← HSB.out]
      clear hs hXA
      have HI := Lib.hid hinj; clear hinj
      have HS := Lib.hid hsuf; clear hsuf
      have c1 : (XA.size : Int) ≤ (SA.size : Int) := by omega
      have c2 : (XA.size : Int) < (SA.size : Int) := by omega
      have d0 := HQ6.out.cell 0 _ rfl; have d1 := HQ6.out.cell 1 _ rfl; have d2 := HQ6.out.cell 2 _ rfl; have d3 := HQ6.out.cell 3 _ rfl; have d4 := HQ6.out.cell 4 _ rfl; have d5 := HQ6.out.cell 5 _ rfl; have d6 := HQ6.out.cell 6 _ rfl; have d7 := HQ6.out.cell 7 _ rfl; have d8 := HQ6.out.cell 8 _ rfl; have d9 := HQ6.out.cell 9 _ rfl
      have g0 := HR6.out.cell 0 _ rfl; have g1 := HR6.out.cell 1 _ rfl; have g2 := HR6.out.cell 2 _ rfl; have g3 := HR6.out.cell 3 _ rfl; have g4 := HR6.out.cell 4 _ rfl; have g5 := HR6.out.cell 5 _ rfl; have g6 := HR6.out.cell 6 _ rfl; have g7 := HR6.out.cell 7 _ rfl; have g8 := HR6.out.cell 8 _ rfl; have g9 := HR6.out.cell 9 _ rfl
      have hs1 := congrArg ByteArray.toList HS.out
      have hs2 : ((SA.extract (SA.size - XA.size) SA.size).toList == XA.toList) = true := by rw [hs1]; simp
      by_cases hxy : x = y
      · have hxyb : (x == y) = true := by simpa using hxy
        go_wp2_with (go_at_call 21; refine (kExpr a b _ _ n w6 (Nat.le_trans hn HB6.out.size) (HHa.out _ HB6.out) (HHb.out _ HB6.out)).mono ?_; rintro e' w7 ⟨rfl, hb7⟩; have HB7 := Lib.hid (HB6.out.trans (hb7.mono HB6.out.size)); clear hb7)
        all_goals first
          | (exfalso; contradiction)
          | skip
        go_ret
        refine ⟨ret_bool ?_, HB7.out⟩
        rw [toList_beq]
        have := HI.out
        by_cases hab : a = b
        · have h : SA = SB := this.2 ⟨hxy, hab⟩
          simp [h, hab]
        · have h : ¬ SA = SB := fun e => hab (this.1 e).2
          simp [h, hab]
      · have hxyb : (x == y) = false := by simpa using hxy
        go_wp2
        all_goals first
          | (exfalso; contradiction)
          | skip
        go_ret
        refine ⟨ret_bool ?_, HB6.out⟩
        have h : ¬ SA = SB := fun e => hxy (HI.out.1 e).1
        rw [toList_beq]; simp [h]
    · have hS := key Hcb.out HSB.out h1
      subst h0 hS
      have h1b : (cb == 0) = false := by simpa using h1
      have h1c : (cb != 0) = true := by simpa using h1
      go_wp2
      go_ret
      exact ⟨rfl, HB5.out⟩
  · have hS := key Hca.out HSA.out h0
    subst hS
    have h0b : (ca == 0) = false := by simpa using h0
    have h0c : (ca != 0) = true := by simpa using h0
    by_cases h1 : cb = 0
    · subst h1
      go_wp2
      go_ret
      exact ⟨rfl, HB5.out⟩
    · have hS := key Hcb.out HSB.out h1
      subst hS
      have h1b : (cb == 0) = false := by simpa using h1
      go_wp2
      go_ret
      exact ⟨rfl, HB5.out⟩
end Go.Proofs.YtobelmipjanibaaDoor
