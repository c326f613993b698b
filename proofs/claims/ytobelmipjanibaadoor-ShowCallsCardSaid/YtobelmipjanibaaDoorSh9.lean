/- ShowCalls' walk. -/
import Derived.Test.YtobelmipjanibaaDoorRs3
import Derived.Test.YtobelmipjanibaaDoorSh8
import Derived.Test.YtobelmipjanibaaDoorKit3
namespace Go.Proofs.YtobelmipjanibaaDoor
open Go.RowKit
set_option linter.unusedSimpArgs false
set_option linter.unusedVariables false

set_option maxRecDepth 100000 in
set_option maxHeartbeats 8000000 in
theorem xCalls (e : Ex) (cs : List Value) (n : Nat) (w : World) (hT : TB w.heap.size w) (hn : n ≤ w.heap.size) (he : IsEx n w e cs) (h64 : e.num64) (every : Int) (hev : -9223372036854775808 ≤ every ∧ every ≤ 9223372036854775807) (op : Int) (hop : -9223372036854775808 ≤ op ∧ op ≤ 9223372036854775807)
    (kind : Int) (hkind : -9223372036854775808 ≤ kind ∧ kind ≤ 9223372036854775807) (fn : Int) (hfn : -9223372036854775808 ≤ fn ∧ fn ≤ 9223372036854775807) :
    Calls Tryd.prog 4 #[.agg cs.toArray, .int .i64 every, .int .i64 op, .int .i64 kind, .int .i64 fn] w fun e' w' => e' = .returned (.bool true) ∧ Below w.heap.size w w' := by
  have hHe := fun (X : World) (hb : Below w.heap.size w X) => he.mono (hb.mono hn) (Nat.le_refl n)
  obtain ⟨pm, cm, pn, cn, pk, ck, rfl, -⟩ := he.cellsE
  clear he
  have HHe := Lib.hid hHe; clear hHe
  have HT := Lib.hid hT; clear hT
  have H64 := Lib.hid h64; clear h64
  have Hev := Lib.hid hev; clear hev
  have Hop := Lib.hid hop; clear hop
  clear hkind hfn
  go_enter Tryd.func4, Tryd.ntmps4; (try simp only [List.append_eq, List.cons_append, List.nil_append])
  go_wp2_with fail
  have hq := Blk.new w [.int .i64 e.kind, .int .i64 e.fn, .int .i64 e.op, .int .i64 e.num, .string e.metric, .slice pm e.mats.length cm, .int .i64 e.span, .slice pn e.names.length cn, .slice pk e.kids.length ck] 26
  have hbw : Below w.heap.size w (w.alloc (.cells [.int .i64 e.kind, .int .i64 e.fn, .int .i64 e.op, .int .i64 e.num, .string e.metric, .slice pm e.mats.length cm, .int .i64 e.span, .slice pn e.names.length cn, .slice pk e.kids.length ck].toArray 26)) := (Below.refl _ _).alloc (Nat.le_refl _) _
  refine (xLives _ ((HT.out.on hbw).less hbw.size)).mono ?_
  rintro e' w1 ⟨rfl, hb1⟩
  have HQ := Lib.hid (hq.keep hb1); clear hq
  have HB := Lib.hid (hbw.trans (hb1.mono hbw.size)); clear hbw hb1
  have d0 := HQ.out.cell 0 _ rfl; have d1 := HQ.out.cell 1 _ rfl; have d2 := HQ.out.cell 2 _ rfl; have d3 := HQ.out.cell 3 _ rfl; have d4 := HQ.out.cell 4 _ rfl; have d5 := HQ.out.cell 5 _ rfl; have d6 := HQ.out.cell 6 _ rfl; have d7 := HQ.out.cell 7 _ rfl; have d8 := HQ.out.cell 8 _ rfl
  go_wp2_with fail
  refine (kLight e _ 400 n w1 (Nat.le_trans hn HB.out.size) (by decide) (by decide) (HHe.out _ HB.out)).mono ?_
  rintro e' w2 ⟨rfl, hb2⟩
  cases hlt : light e 400 with
  | false =>
    have HB2 := Lib.hid (HB.out.trans (hb2.mono HB.out.size)); clear hb2
    go_wp2
    go_ret
    exact ⟨rfl, HB2.out⟩
  | true =>
    have hsz := light_size hlt (by decide)
    have hsz2 : e.size ≤ 1000000 := by omega
    clear hsz hlt d0 d1 d2 d3 d4 d5 d6 d7 d8
    have HQ2 := Lib.hid (HQ.out.keep hb2)
    have HB2 := Lib.hid (HB.out.trans (hb2.mono HB.out.size)); clear hb2
    clear HQ HB
    have d0 := HQ2.out.cell 0 _ rfl; have d1 := HQ2.out.cell 1 _ rfl; have d2 := HQ2.out.cell 2 _ rfl; have d3 := HQ2.out.cell 3 _ rfl; have d4 := HQ2.out.cell 4 _ rfl; have d5 := HQ2.out.cell 5 _ rfl; have d6 := HQ2.out.cell 6 _ rfl; have d7 := HQ2.out.cell 7 _ rfl; have d8 := HQ2.out.cell 8 _ rfl
    go_wp2_with fail
    refine (sShowExpr e _ n w2 (Nat.le_trans hn HB2.out.size) (HHe.out _ HB2.out) H64.out hsz2 ((HT.out.on HB2.out).less HB2.out.size)).mono ?_
    rintro e' w3 ⟨rfl, hb3⟩
    clear d0 d1 d2 d3 d4 d5 d6 d7 d8
    have HQ3 := Lib.hid (HQ2.out.keep hb3)
    have HB3 := Lib.hid (HB2.out.trans (hb3.mono HB2.out.size)); clear hb3 HQ2 HB2
    have d0 := HQ3.out.cell 0 _ rfl; have d1 := HQ3.out.cell 1 _ rfl; have d2 := HQ3.out.cell 2 _ rfl; have d3 := HQ3.out.cell 3 _ rfl; have d4 := HQ3.out.cell 4 _ rfl; have d5 := HQ3.out.cell 5 _ rfl; have d6 := HQ3.out.cell 6 _ rfl; have d7 := HQ3.out.cell 7 _ rfl; have d8 := HQ3.out.cell 8 _ rfl
    go_wp2_with fail
    refine (rShowExpr e _ n w3 (Nat.le_trans hn HB3.out.size) (HHe.out _ HB3.out) H64.out hsz2).mono ?_
    rintro e' w4 ⟨rfl, hb4⟩
    clear d0 d1 d2 d3 d4 d5 d6 d7 d8
    have HQ4 := Lib.hid (HQ3.out.keep hb4)
    have HB4 := Lib.hid (HB3.out.trans (hb4.mono HB3.out.size)); clear hb4 HQ3 HB3
    have d0 := HQ4.out.cell 0 _ rfl; have d1 := HQ4.out.cell 1 _ rfl; have d2 := HQ4.out.cell 2 _ rfl; have d3 := HQ4.out.cell 3 _ rfl; have d4 := HQ4.out.cell 4 _ rfl; have d5 := HQ4.out.cell 5 _ rfl; have d6 := HQ4.out.cell 6 _ rfl; have d7 := HQ4.out.cell 7 _ rfl; have d8 := HQ4.out.cell 8 _ rfl
    obtain ⟨S, hS⟩ : ∃ S : ByteArray, (⟨(exprO e).toArray⟩ : ByteArray) = S := ⟨_, rfl⟩
    rw [hS]
    clear hS
    go_wp2_with fail
    have kq := Blk.new w4 (.int .i64 every :: [.int .i64 e.kind, .int .i64 e.fn, .int .i64 e.op, .int .i64 e.num, .string e.metric, .slice pm e.mats.length cm, .int .i64 e.span, .slice pn e.names.length cn, .slice pk e.kids.length ck]) 38
    have hbq : Below w.heap.size w (w4.alloc (.cells (.int .i64 every :: [.int .i64 e.kind, .int .i64 e.fn, .int .i64 e.op, .int .i64 e.num, .string e.metric, .slice pm e.mats.length cm, .int .i64 e.span, .slice pn e.names.length cn, .slice pk e.kids.length ck] : List Value).toArray 38)) := HB4.out.alloc HB4.out.size _
    refine (sShowQuery every e _ n _ (Nat.le_trans hn hbq.size) (HHe.out _ hbq) H64.out Hev.out hsz2 ((HT.out.on hbq).less hbq.size)).mono ?_
    rintro e' w5 ⟨rfl, hb5⟩
    clear d0 d1 d2 d3 d4 d5 d6 d7 d8
    have HQ5 := Lib.hid (kq.keep hb5); clear kq
    have HB5 := Lib.hid (hbq.trans (hb5.mono hbq.size)); clear hb5 HQ4 HB4 hbq
    have d0 := HQ5.out.cell 0 _ rfl; have d1 := HQ5.out.cell 1 _ rfl; have d2 := HQ5.out.cell 2 _ rfl; have d3 := HQ5.out.cell 3 _ rfl; have d4 := HQ5.out.cell 4 _ rfl; have d5 := HQ5.out.cell 5 _ rfl; have d6 := HQ5.out.cell 6 _ rfl; have d7 := HQ5.out.cell 7 _ rfl; have d8 := HQ5.out.cell 8 _ rfl; have d9 := HQ5.out.cell 9 _ rfl
    obtain ⟨S2, hS2⟩ : ∃ S2 : ByteArray, (⟨(queryO every e).toArray⟩ : ByteArray) = S2 := ⟨_, rfl⟩
    rw [hS2]
    have HS2 := Lib.hid hS2; clear hS2
    go_wp2_with fail
    refine (rShowQuery every e _ n w5 (Nat.le_trans hn HB5.out.size) (HHe.out _ HB5.out) H64.out Hev.out hsz2).mono ?_
    rintro e' w6 ⟨rfl, hb6⟩
    clear d0 d1 d2 d3 d4 d5 d6 d7 d8 d9
    have HB6 := Lib.hid (HB5.out.trans (hb6.mono HB5.out.size)); clear hb6 HQ5 HB5
    rw [HS2.out]
    go_wp2_with fail
    refine (sSign op _ Hop.out).mono ?_
    rintro e' w7 ⟨rfl, hb7⟩
    go_wp2_with fail
    refine (rSign op _ Hop.out).mono ?_
    rintro e' w8 ⟨rfl, hb8⟩
    have HB8 := Lib.hid (HB6.out.trans ((hb7.trans (hb8.mono hb7.size)).mono HB6.out.size)); clear hb7 hb8
    obtain ⟨S3, hS3⟩ : ∃ S3 : ByteArray, (⟨(signL op).toArray⟩ : ByteArray) = S3 := ⟨_, rfl⟩
    rw [hS3]
    clear hS3
    go_wp2_with fail
    refine (sWord kind fn _).mono ?_
    rintro e' w9 ⟨rfl, hb9⟩
    go_wp2_with fail
    refine (rWord kind fn _).mono ?_
    rintro e' w10 ⟨rfl, hb10⟩
    have HB10 := Lib.hid (HB8.out.trans ((hb9.trans (hb10.mono hb9.size)).mono HB8.out.size)); clear hb9 hb10
    obtain ⟨S4, hS4⟩ : ∃ S4 : ByteArray, (⟨(wordL kind fn).toArray⟩ : ByteArray) = S4 := ⟨_, rfl⟩
    rw [hS4]
    clear hS4
    go_wp2
    go_ret
    exact ⟨rfl, HB10.out⟩
end Go.Proofs.YtobelmipjanibaaDoor
