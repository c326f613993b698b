/- slices.EqualFunc, ast.Same. -/
import Derived.Test.YtikaiiamoaahdaaSame1
import Derived.Test.YtikaiiamoaahdaaIter2
namespace Go.Proofs.Ytikaiiamoaahdaa
open Go.RowKit
set_option linter.unusedSimpArgs false
set_option linter.unusedVariables false

/-- ast.Same answers a = b, for this a. -/
def SameOn (a : Ex) : Prop := ∀ (b : Ex) (cs ds : List Value) (n : Nat) (w : World), n ≤ w.heap.size → IsEx n w a cs → IsEx n w b ds →
    Calls Try.prog 23 #[.agg cs.toArray, .agg ds.toArray] w fun e' w' => e' = .returned (.bool (decide (a = b))) ∧ Below w.heap.size w w'

set_option maxRecDepth 100000 in
set_option maxHeartbeats 8000000 in
theorem eqExs (la lb : List Ex) (va vb : Value) (n : Nat) (w : World) (hih : ∀ a ∈ la, SameOn a) (hn : n ≤ w.heap.size) (ha : IsExs n w va la) (hb : IsExs n w vb lb) :
    Calls Try.prog 46 #[va, vb, (.func (.func 23) #[] #[])] w fun e w' => e = .returned (.bool (decide (la = lb))) ∧ Below w.heap.size w w' := by
  obtain ⟨p, cap, rfl, _, _, hla⟩ := ha.open
  obtain ⟨q, cbp, rfl, _, _, hlb⟩ := hb.open
  have Hih := Lib.hid hih; clear hih
  unfold maxLen at hla hlb
  go_enter Try.func46, Try.ntmps46; (try simp only [List.append_eq, List.cons_append, List.nil_append])
  by_cases hl : la.length = lb.length
  · have Hl := Lib.hid hl; clear hl
    have hl : ((la.length : Int) != (lb.length : Int)) = false := by simp [Hl.out]
    go_wp2
    go_loopw [17] (fun i wr => ∃ k : Nat, k ≤ la.length ∧ i = .int .i64 k ∧ la.take k = lb.take k ∧ Below w.heap.size w wr) (fun i _ => la.length - (intOf i).toNat)
    case atStart => exact ⟨0, Nat.zero_le _, rfl, by simp, Below.refl _ _⟩
    case round =>
      obtain ⟨k, hk, rfl, hr, hbl⟩ := hrel
      have Hr := Lib.hid hr; clear hr
      have Hbl := Lib.hid hbl; clear hbl
      by_cases hlt : k < la.length
      · have hltb : k < lb.length := by have := Hl.out; omega
        obtain ⟨b1, off, pm, cm, pn, cn, pk, ck, rfl, hbn, hei, e0, e1, e2, e3, e4, e5, e6, e7, e8⟩ := (ha.mono (Hbl.out.mono hn) (Nat.le_refl _)).getE (Cells.refl _ _) hlt
        have Hei := Lib.hid hei; clear hei
        have hszr := Hbl.out.size
        have Ha := Lib.hid ha; clear ha
        have Hb := Lib.hid hb; clear hb
        have Hl2 := Lib.hid (take_eq_step' (a := la) (b := lb) Hr.out hlt hltb)
        have Hne := Lib.hid (ne_of_at (a := la) (b := lb) hlt hltb)
        go_upto_region 5 with fail
        go_cut [7, 8] (fun s7 s8 wx => s7 = .int .i64 k ∧ s8 = .pointer (some ⟨wr.heap.size, 0, none⟩) ∧ Below wr.heap.size wr wx ∧ Box wx wr.heap.size [.int .i64 la[k].kind, .int .i64 la[k].fn, .int .i64 la[k].op, .int .i64 la[k].num, .string la[k].metric, .slice pm la[k].mats.length cm, .int .i64 la[k].span, .slice pn la[k].names.length cn, .slice pk la[k].kids.length ck])
        case first =>
          go_wp2
          go_meet
          exact ⟨rfl, rfl, (Below.refl _ _).alloc (Nat.le_refl _) _, Box.new wr _ _⟩
        case rest =>
          obtain ⟨rfl, rfl, hbv, hx⟩ := hcut
          obtain ⟨V, rfl⟩ : ∃ V : World, V = wc := ⟨_, rfl⟩
          obtain ⟨b2, off2, qm, dm, qn, dn, qk, dk, hq, hbn2, hei2, f0, f1, f2, f3, f4, f5, f6, f7, f8⟩ := (Hb.out.mono ((Hbl.out.trans (hbv.mono hszr)).mono hn) (Nat.le_refl _)).getE (Cells.refl _ _) hltb
          cases hq
          have Hei2 := Lib.hid hei2; clear hei2
          have hszv := hbv.size
          have hszx := hx.1
          have Hbv := Lib.hid hbv; clear hbv
          have Hx := Lib.hid hx; clear hx
          go_upto_region 6 with fail
          go_cut [9] (fun s9 wx => s9 = .pointer (some ⟨V.heap.size, 0, none⟩) ∧ Below V.heap.size V wx ∧ Box wx V.heap.size [.int .i64 lb[k].kind, .int .i64 lb[k].fn, .int .i64 lb[k].op, .int .i64 lb[k].num, .string lb[k].metric, .slice qm lb[k].mats.length dm, .int .i64 lb[k].span, .slice qn lb[k].names.length dn, .slice qk lb[k].kids.length dk])
          case first =>
            go_wp2
            go_meet
            exact ⟨rfl, (Below.refl _ _).alloc (Nat.le_refl _) _, Box.new V _ _⟩
          case rest =>
          obtain ⟨rfl, hbw, hy⟩ := hcut
          have hx := Hx.out.keep hbw
          have Hvw := Lib.hid (Hbv.out.trans (hbw.mono hszv))
          obtain ⟨W, rfl⟩ : ∃ W : World, W = wc := ⟨_, rfl⟩
          have g0 := hx.2 0 _ rfl
          have g1 := hx.2 1 _ rfl
          have g2 := hx.2 2 _ rfl
          have g3 := hx.2 3 _ rfl
          have g4 := hx.2 4 _ rfl
          have g5 := hx.2 5 _ rfl
          have g6 := hx.2 6 _ rfl
          have g7 := hx.2 7 _ rfl
          have g8 := hx.2 8 _ rfl
          have i0 := hy.2 0 _ rfl
          have i1 := hy.2 1 _ rfl
          have i2 := hy.2 2 _ rfl
          have i3 := hy.2 3 _ rfl
          have i4 := hy.2 4 _ rfl
          have i5 := hy.2 5 _ rfl
          have i6 := hy.2 6 _ rfl
          have i7 := hy.2 7 _ rfl
          have i8 := hy.2 8 _ rfl
          have hszx := hx.1
          have hszy := hy.1
          have Hbw := Lib.hid hbw; clear hbw
          have Hx := Lib.hid hx; clear hx
          have Hy := Lib.hid hy; clear hy
          go_wp2_with (go_at_call 23; refine (Hih.out _ (List.getElem_mem hlt) lb[k] _ _ n W (by omega) (Hei.out.mono (Hvw.out.mono (by omega)) (Nat.le_refl _)) (Hei2.out.mono (Hbw.out.mono (by omega)) (Nat.le_refl _))).mono ?_; rintro e' w2 ⟨rfl, hb2⟩; have Hb2 := Lib.hid hb2; clear hb2)
          all_goals (try simp only [Bool.not_eq_true', Bool.not_eq_false', Bool.not_true, Bool.not_false, Bool.not_eq_true, Bool.not_eq_false, beq_iff_eq, beq_eq_false_iff_ne, bne_iff_ne, ne_eq, bne_eq_false_iff_eq, decide_eq_true_eq, decide_eq_false_iff_not, toList_inj] at *)
          · go_ret
            refine ⟨ret_bool (Eq.symm (decide_eq_false (Hne.out ?_))), Hbl.out.trans ((Hvw.out.trans (Hb2.out.mono (by omega))).mono hszr)⟩
            assumption
          · refine ⟨⟨k + 1, by omega, by go_num, Hl2.out ?_, Hbl.out.trans ((Hvw.out.trans (Hb2.out.mono (by omega))).mono hszr)⟩, by simp [intOf]; omega⟩
            assumption
      · go_wp2
        go_ret
        refine ⟨ret_bool (Eq.symm (decide_eq_true ?_)), Hbl.out⟩
        have hk' : k = la.length := by omega
        subst hk'
        exact eq_of_upto Hl.out Hr.out
  · have hl' : ((la.length : Int) != (lb.length : Int)) = true := by simp; omega
    go_wp2
    go_ret
    exact ⟨ret_bool (Eq.symm (decide_eq_false (fun e => hl (by rw [e])))), Below.refl _ _⟩

theorem ret_same_false {p : Prop} [Decidable p] (h : ¬ p) : Value.bool false = Value.bool (decide p) := by rw [decide_eq_false h]

set_option maxRecDepth 100000 in
set_option maxHeartbeats 8000000 in
theorem aSame : ∀ (a : Ex), SameOn a := by
  refine Ex.ind fun a ih => ?_
  intro b cs ds n w hn ha hb
  obtain ⟨am, an, ak, rfl, hsa, hma, hna, hka⟩ := ha.cells
  obtain ⟨bm, bn, bk, rfl, hsb, hmb, hnb, hkb⟩ := hb.cells
  obtain ⟨pa, ca, rfl, _, _, hla⟩ := hka.open
  obtain ⟨pb, cb, rfl, _, _, hlb⟩ := hkb.open
  have Hih := Lib.hid ih; clear ih
  have Ha := Lib.hid ha; clear ha
  have Hb := Lib.hid hb; clear hb
  unfold maxLen at hla hlb
  go_enter Try.func23, Try.ntmps23; (try simp only [List.append_eq, List.cons_append, List.nil_append])
  go_upto_region 0 with fail
  go_cut [2, 3, 4] (fun s2 s3 s4 wx => s2 = .pointer (some ⟨w.heap.size, 0, none⟩) ∧ s3 = .pointer (some ⟨w.heap.size + 1, 0, none⟩) ∧ s4 = .bool false ∧ Below w.heap.size w wx ∧
      Box wx w.heap.size [.int .i64 a.kind, .int .i64 a.fn, .int .i64 a.op, .int .i64 a.num, .string a.metric, am, .int .i64 a.span, an, .slice pa a.kids.length ca] ∧ Box wx (w.heap.size + 1) [.int .i64 b.kind, .int .i64 b.fn, .int .i64 b.op, .int .i64 b.num, .string b.metric, bm, .int .i64 b.span, bn, .slice pb b.kids.length cb])
  case first =>
    go_wp2
    go_meet
    have hby := Box.new (w.alloc (.cells ([.int .i64 a.kind, .int .i64 a.fn, .int .i64 a.op, .int .i64 a.num, .string a.metric, am, .int .i64 a.span, an, .slice pa a.kids.length ca]).toArray 26)) [.int .i64 b.kind, .int .i64 b.fn, .int .i64 b.op, .int .i64 b.num, .string b.metric, bm, .int .i64 b.span, bn, .slice pb b.kids.length cb] 26
    rw [World.size_alloc] at hby
    exact ⟨rfl, rfl, rfl, ((Below.refl _ _).alloc (Nat.le_refl _) _).alloc (by simp) _, (Box.new w _ _).keep ((Below.refl _ _).alloc (Nat.le_refl _) _), hby⟩
  case rest =>
    obtain ⟨rfl, rfl, rfl, hbw, hbx, hby⟩ := hcut
    obtain ⟨W, rfl⟩ : ∃ W : World, W = wc := ⟨_, rfl⟩
    have hsz := hbx.1
    have hsz2 := hby.1
    have Hbx := Lib.hid hbx; clear hbx
    have Hby := Lib.hid hby; clear hby
    have Hbw := Lib.hid hbw; clear hbw
    have Hma := Lib.hid (hma.mono (Hbw.out.mono hn) (Nat.le_refl _)); clear hma
    have Hmb := Lib.hid (hmb.mono (Hbw.out.mono hn) (Nat.le_refl _)); clear hmb
    have Hna := Lib.hid (hna.mono (Hbw.out.mono hn) (Nat.le_refl _)); clear hna
    have Hnb := Lib.hid (hnb.mono (Hbw.out.mono hn) (Nat.le_refl _)); clear hnb
    have Hka := Lib.hid (hka.mono (Hbw.out.mono hn) (Nat.le_refl _)); clear hka
    have Hkb := Lib.hid (hkb.mono (Hbw.out.mono hn) (Nat.le_refl _)); clear hkb
    have hnW : n ≤ W.heap.size := by omega
    clear hn
    go_upto_region 1 with fail
    go_cut [0, 1, 4] (fun s0 s1 s4 wx => s4 = .bool (decide (a = b)) ∧ Below W.heap.size W wx)
    case first =>
      have c0 := Hbx.out.2 0 _ rfl
      have d0 := Hby.out.2 0 _ rfl
      have c1 := Hbx.out.2 1 _ rfl
      have d1 := Hby.out.2 1 _ rfl
      have c2 := Hbx.out.2 2 _ rfl
      have d2 := Hby.out.2 2 _ rfl
      have c3 := Hbx.out.2 3 _ rfl
      have d3 := Hby.out.2 3 _ rfl
      have c4 := Hbx.out.2 4 _ rfl
      have d4 := Hby.out.2 4 _ rfl
      have c5 := Hbx.out.2 5 _ rfl
      have d5 := Hby.out.2 5 _ rfl
      have c6 := Hbx.out.2 6 _ rfl
      have d6 := Hby.out.2 6 _ rfl
      have c7 := Hbx.out.2 7 _ rfl
      have d7 := Hby.out.2 7 _ rfl
      have c8 := Hbx.out.2 8 _ rfl
      have d8 := Hby.out.2 8 _ rfl
      go_wp2_with (first
        | (go_at_call 44; refine (eqMats _ _ _ _ n _ hnW Hma.out Hmb.out).mono ?_; rintro e' w1 ⟨rfl, hb1⟩; have x6 := (Hbx.out.keep hb1).2 6 _ rfl; have x7 := (Hbx.out.keep hb1).2 7 _ rfl; have x8 := (Hbx.out.keep hb1).2 8 _ rfl; have y6 := (Hby.out.keep hb1).2 6 _ rfl; have y7 := (Hby.out.keep hb1).2 7 _ rfl; have y8 := (Hby.out.keep hb1).2 8 _ rfl; have Hb1 := Lib.hid hb1; clear hb1)
        | (go_at_call 45; refine (eqStrs _ _ _ _ n _ (Nat.le_trans hnW Hb1.out.size) (Hna.out.mono (Hb1.out.mono hnW) (Nat.le_refl _)) (Hnb.out.mono (Hb1.out.mono hnW) (Nat.le_refl _))).mono ?_; rintro e' w2 ⟨rfl, hb2⟩; have Hb12 := Lib.hid (Hb1.out.trans (hb2.mono Hb1.out.size)); have z8 := (Hbx.out.keep Hb12.out).2 8 _ rfl; have u8 := (Hby.out.keep Hb12.out).2 8 _ rfl; clear hb2)
        | (go_at_call 46; refine (eqExs _ _ _ _ n _ Hih.out (Nat.le_trans hnW Hb12.out.size) (Hka.out.mono (Hb12.out.mono hnW) (Nat.le_refl _)) (Hkb.out.mono (Hb12.out.mono hnW) (Nat.le_refl _))).mono ?_; rintro e' w3 ⟨rfl, hb3⟩; have Hb13 := Lib.hid (Hb12.out.trans (hb3.mono Hb12.out.size)); clear hb3))
      all_goals go_meet
      all_goals (try simp only [Bool.not_eq_true', Bool.not_eq_false', Bool.not_true, Bool.not_false, Bool.not_eq_true, Bool.not_eq_false, beq_iff_eq, beq_eq_false_iff_ne, bne_iff_ne, ne_eq, bne_eq_false_iff_eq, decide_eq_true_eq, decide_eq_false_iff_not, toList_inj] at *)
      all_goals first
        | (refine ⟨ret_same_false (fun e => ?_), ?_⟩
           · subst e; contradiction
           · first
               | exact Below.refl _ _
               | exact Hb1.out
               | exact Hb12.out)
        | skip
      refine ⟨?_, Hb13.out⟩
      by_cases hk : a.kids = b.kids
      · rw [decide_eq_true hk, decide_eq_true (show a = b from Ex.ext (by assumption) (by assumption) (by assumption) (by assumption) (by assumption) (by assumption) (by assumption) (by assumption) hk)]
      · rw [decide_eq_false hk, decide_eq_false (fun e => hk (by rw [e]))]
    case rest =>
      obtain ⟨rfl, hbc⟩ := hcut
      go_wp2
      go_ret
      exact ⟨rfl, Hbw.out.trans (hbc.mono (by omega))⟩

end Go.Proofs.Ytikaiiamoaahdaa
