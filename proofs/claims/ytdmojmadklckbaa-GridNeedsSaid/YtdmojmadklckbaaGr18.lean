/- GridNeeds: the walk (under way). -/
import Derived.Test.YtdmojmadklckbaaGr15
import Derived.Deep.CutRange
import Derived.Test.YtdmojmadklckbaaGr17
namespace Go.Proofs.Ytdmojmadklckbaa
open Go.RowKit
set_option linter.unusedSimpArgs false
set_option linter.unusedVariables false

/-- Some time so far has it, and this time in some window so far. -/
def inTo (ev : Int) (e : Ex) (mark time : Int) (k j : Nat) : Bool := someTo ev e mark time k || ((decide (mark < (k : Int) + 1) && decide (((k : Int) + 1) % ev = 0)) && (e.leaves.take j).any fun x => inW x.span ((k : Int) + 1) time)
theorem inTo_0 (ev : Int) (e : Ex) (mark time : Int) (k : Nat) : inTo ev e mark time k 0 = someTo ev e mark time k := by simp [inTo]
theorem inTo_step {ev : Int} {e : Ex} {mark time : Int} {k j : Nat} (h1 : mark < (k : Int) + 1) (h2 : ((k : Int) + 1) % ev = 0) (hj : j < e.leaves.length) : inTo ev e mark time k (j + 1) = (inTo ev e mark time k j || inW e.leaves[j].span ((k : Int) + 1) time) := by
  unfold inTo
  rw [decide_eq_true h1, decide_eq_true h2, List.take_succ_eq_append_getElem hj, List.any_append, List.any_cons, List.any_nil, Bool.or_false]
  simp [Bool.or_assoc]
theorem inTo_all {ev : Int} {e : Ex} {mark time : Int} {k : Nat} : inTo ev e mark time k e.leaves.length = someTo ev e mark time (k + 1) := by
  unfold inTo
  rw [List.take_length, any_inW, someTo_succ]; rfl
theorem inTo_not {ev : Int} {e : Ex} {mark time : Int} {k : Nat} (j : Nat) (h : ¬ (mark < (k : Int) + 1 ∧ ((k : Int) + 1) % ev = 0)) : inTo ev e mark time k j = someTo ev e mark time (k + 1) := by
  have hg : (decide (mark < (k : Int) + 1) && decide (((k : Int) + 1) % ev = 0)) = false := by
    rw [← Bool.not_eq_true, Bool.and_eq_true, decide_eq_true_eq, decide_eq_true_eq]; exact h
  unfold inTo
  rw [someTo_succ, hg]; simp

theorem own_one (W : World) (t sz : Nat) (cells : List Value) (hc : cells.length = sz) : (W.alloc (.cells cells.toArray t)).ownsRow W.heap.size t sz (.slice (some ⟨W.heap.size, 0, none⟩) 1 1) 1 cells :=
  ⟨by rw [Nat.one_mul]; exact hc, .inr ⟨W.heap.size, 1, cells.toArray, rfl, Nat.le_refl _, World.alloc_heap_new W _, Nat.le_refl _, by decide, by simp [hc], by rw [Nat.one_mul, ← hc]; simp⟩⟩
theorem QRows.cons {n : Nat} {w : World} {rows : List (List Value)} {l : List (Int × Ex)} (h : QRows n w rows l) {ev : Int} {e : Ex} {cs : List Value} (he : IsEx n w e cs) : QRows n w ((.int .i64 ev :: cs) :: rows) ((ev, e) :: l) := by
  refine ⟨by simp [h.1], fun k r q hr hq => ?_⟩
  cases k with
  | zero => simp at hr hq; subst hr hq; exact ⟨cs, rfl, he⟩
  | succ k => exact h.2 k r q (by simpa using hr) (by simpa using hq)
/-- append([]api.Query{q}, l...) -/
theorem wpList_fore {P : Program} {ops : Array Oper} {rest : List Oper} {o : Oper} {a : Act} {Q : Exit → Act → World → Prop} (W : World) (ev : Int) (e : Ex) (cs : List Value) (l all : List (Int × Ex)) (src : Value) (N : Nat) (hN : N ≤ W.heap.size)
    (hl : IsQs N W src l) (hn : NilOk src) (he : IsEx N W e cs) (hall : all = (ev, e) :: l) (hlen : l.length ≤ 1000000) (hgd : o.guard = none) (s x : Operand) (t : TypeId)
    (ho : o.op = .call { callee := .builtin .append, args := #[s, x], argTypes := #[t, t] })
    (i : TypeInfo) (z : Value) (ht : P.underlying t = some (.slice 28)) (hi : P.info? 28 = some i) (hz : i.zero = some z)
    (hsize : i.size = 10) (hby : i.bytes = 136) (hzs : z.cells.size = 10)
    (hs : a.eval s = .slice (some ⟨W.heap.size, 0, none⟩) 1 1) (hx : a.eval x = src)
    (h : ∀ v' w', IsQs w'.heap.size w' v' all → Below W.heap.size W w' → wpList P ops Q rest (a.put o.dst v') w') :
    wpList P ops Q (o :: rest) a (W.alloc (.cells (.int .i64 ev :: cs).toArray 28)) := by
  obtain ⟨rows, hr, hsrc⟩ := hl.rows hn
  have hown := own_one W 28 10 (.int .i64 ev :: cs) (by rw [List.length_cons, he.length])
  refine wpList_append_src _ hgd s x t ho W.heap.size 28 i z 10 136 ht hi hz hsize hby hzs (by decide) _ 1 _ hs hown src l.length rows.flatten hx (hsrc.alloc _) hr.one (by unfold maxLen; omega) (by omega) (by simp) ?_
  intro v' w' hown' hgr _
  have hb := below_app ((Below.refl _ _).alloc (Nat.le_refl _) _) hown hgr (Nat.le_refl _) (by simp)
  subst hall
  have hq := (hr.mono (hb.mono hN) (Nat.le_refl N)).cons (ev := ev) (he.mono (hb.mono hN) (Nat.le_refl _))
  refine h v' w' (hq.qs (base := W.heap.size) (m := w'.heap.size) ?_ (Nat.le_refl _) (by have := hb.size; omega)) hb
  rw [List.length_cons, List.flatten_cons, Nat.add_comm]
  exact hown'

/-- What the law speaks of. -/
structure InNeed (ev mark time later : Int) (e : Ex) (len : Nat) : Prop where
  chk : checkQuery ev e = 0
  ev50 : ev ≤ 50
  hor : e.hor ≤ 200
  m0 : 0 ≤ mark
  m1 : mark ≤ 2000
  t0 : 1 ≤ time
  t1 : time ≤ 2000
  l0 : mark ≤ later
  l1 : later ≤ 3000
  len5 : len ≤ 5

set_option maxRecDepth 100000 in
set_option maxHeartbeats 8000000 in
theorem wNeeds (ev mark time later : Int) (e : Ex) (cs : List Value) (l : List (Int × Ex)) (vl : Value) (n : Nat) (w : World) (hn : n ≤ w.heap.size) (he : IsEx n w e cs) (hev : i64 ev)
    (hm : i64 mark) (hti : i64 time) (hla : i64 later) (hl : IsQs n w vl l) (hln : NilOk vl) :
    Calls Try.prog 3 #[.agg (.int .i64 ev :: cs).toArray, vl, .int .i64 mark, .int .i64 time, .int .i64 later] w (LawTrue w) := by
  have He := Lib.hid he
  have Hqc := Lib.hid he.qc
  obtain ⟨pm, cm, pn, cn, pk, ck, rfl, -⟩ := he.cellsE
  clear he
  have hlo := hl.open
  obtain ⟨pl, cl, rfl, _, _, hll⟩ := hlo
  have HLl := Lib.hid hl; clear hl
  have HLn := Lib.hid hln; clear hln
  have HM := Lib.hid hm; clear hm
  have HTI := Lib.hid hti; clear hti
  have HLA := Lib.hid hla; clear hla
  have HEV := Lib.hid hev; clear hev
  unfold maxLen at hll
  have HL := Lib.hid (fun wx => lLives wx)
  go_enter Try.func3, Try.ntmps3; (try simp only [List.append_eq, List.cons_append, List.nil_append])
  go_upto_region 0 with fail
  go_cut [5, 10] from 5 to 5 (fun s5 s10 wx => s5 = .pointer (some ⟨w.heap.size, 0, none⟩) ∧ s10 = .bool false ∧ Below w.heap.size w wx ∧ Blk wx w.heap.size 28 [.int .i64 ev, .int .i64 e.kind, .int .i64 e.fn, .int .i64 e.op, .int .i64 e.num, .string e.metric, .slice pm e.mats.length cm, .int .i64 e.span, .slice pn e.names.length cn, .slice pk e.kids.length ck])
  case first =>
    go_wp2
    go_meet
    exact ⟨rfl, rfl, (Below.refl _ _).alloc (Nat.le_refl _) _, Blk.new _ _ _⟩
  case rest =>
    obtain ⟨rfl, rfl, hw0, hq⟩ := hcut
    obtain ⟨W, rfl⟩ : ∃ W : World, W = wc := ⟨_, rfl⟩
    have HW0 := Lib.hid hw0; clear hw0
    have d0 := hq.cell 0 _ rfl; have d1 := hq.cell 1 _ rfl; have d2 := hq.cell 2 _ rfl; have d3 := hq.cell 3 _ rfl; have d4 := hq.cell 4 _ rfl; have d5 := hq.cell 5 _ rfl; have d6 := hq.cell 6 _ rfl; have d7 := hq.cell 7 _ rfl; have d8 := hq.cell 8 _ rfl; have d9 := hq.cell 9 _ rfl
    have hlq := hq.lt
    have HQ := Lib.hid hq; clear hq
    have HB := Lib.hid (Below.refl W.heap.size W)
    have hnW : n ≤ W.heap.size := by have := HW0.out.size; omega
    cases hlt : light e 100 with
    | false =>
      go_wp2_with (first
        | (go_at_call 7; refine (HL.out _).mono ?_; rintro e' w1 ⟨rfl, hb⟩; have HB := Lib.hid (HB.out.trans (hb.mono HB.out.size)); clear hb; have hs1 := HB.out.size; clear d0 d1 d2 d3 d4 d5 d6 d7 d8 d9; have hq1 := HQ.out.mono HB.out HQ.out.lt; have d0 := hq1.cell 0 _ rfl; have d1 := hq1.cell 1 _ rfl; have d2 := hq1.cell 2 _ rfl; have d3 := hq1.cell 3 _ rfl; have d4 := hq1.cell 4 _ rfl; have d5 := hq1.cell 5 _ rfl; have d6 := hq1.cell 6 _ rfl; have d7 := hq1.cell 7 _ rfl; have d8 := hq1.cell 8 _ rfl; have d9 := hq1.cell 9 _ rfl; clear hq1)
        | (go_at_call 8; refine (kLight e _ 100 n _ (by omega) (by decide) (by decide) (He.out.mono ((HW0.out.trans (HB.out.mono HW0.out.size)).mono hn) (Nat.le_refl _))).mono ?_; rintro e' w2 ⟨rfl, hb⟩; rw [hlt]; have HB := Lib.hid (HB.out.trans (hb.mono HB.out.size)); clear hb; have hs2 := HB.out.size; clear d0 d1 d2 d3 d4 d5 d6 d7 d8 d9; have hq1 := HQ.out.mono HB.out HQ.out.lt; have d0 := hq1.cell 0 _ rfl; have d1 := hq1.cell 1 _ rfl; have d2 := hq1.cell 2 _ rfl; have d3 := hq1.cell 3 _ rfl; have d4 := hq1.cell 4 _ rfl; have d5 := hq1.cell 5 _ rfl; have d6 := hq1.cell 6 _ rfl; have d7 := hq1.cell 7 _ rfl; have d8 := hq1.cell 8 _ rfl; have d9 := hq1.cell 9 _ rfl; clear hq1))
      all_goals go_ret
      all_goals exact ⟨rfl, HW0.out.trans (HB.out.mono HW0.out.size)⟩
    | true =>
      have hsz := light_size hlt (by decide)
      go_upto_region 3 with (go_at_call 7; refine (HL.out _).mono ?_; rintro e' w1 ⟨rfl, hb⟩; have HB := Lib.hid (HB.out.trans (hb.mono HB.out.size)); clear hb; have hs1 := HB.out.size; clear d0 d1 d2 d3 d4 d5 d6 d7 d8 d9; have hq1 := HQ.out.mono HB.out HQ.out.lt; have d0 := hq1.cell 0 _ rfl; have d1 := hq1.cell 1 _ rfl; have d2 := hq1.cell 2 _ rfl; have d3 := hq1.cell 3 _ rfl; have d4 := hq1.cell 4 _ rfl; have d5 := hq1.cell 5 _ rfl; have d6 := hq1.cell 6 _ rfl; have d7 := hq1.cell 7 _ rfl; have d8 := hq1.cell 8 _ rfl; have d9 := hq1.cell 9 _ rfl; clear hq1)
      go_cut [71] from 71 to 71 (fun s71 wx => (∃ b, s71 = .bool b ∧ (b = false → InNeed ev mark time later e l.length)) ∧ Below W.heap.size W wx)
      case first =>
        by_cases hck : checkQuery ev e = 0
        · go_wp2_with (first
            | (go_at_call 8; refine (kLight e _ 100 n _ (by omega) (by decide) (by decide) (He.out.mono ((HW0.out.trans (HB.out.mono HW0.out.size)).mono hn) (Nat.le_refl _))).mono ?_; rintro e' w2 ⟨rfl, hb⟩; rw [hlt]; have HB := Lib.hid (HB.out.trans (hb.mono HB.out.size)); clear hb; have hs2 := HB.out.size; clear d0 d1 d2 d3 d4 d5 d6 d7 d8 d9; have hq1 := HQ.out.mono HB.out HQ.out.lt; have d0 := hq1.cell 0 _ rfl; have d1 := hq1.cell 1 _ rfl; have d2 := hq1.cell 2 _ rfl; have d3 := hq1.cell 3 _ rfl; have d4 := hq1.cell 4 _ rfl; have d5 := hq1.cell 5 _ rfl; have d6 := hq1.cell 6 _ rfl; have d7 := hq1.cell 7 _ rfl; have d8 := hq1.cell 8 _ rfl; have d9 := hq1.cell 9 _ rfl; clear hq1)
            | (go_at_call 9; refine (rCheck ev e _ n _ (by omega) (He.out.mono ((HW0.out.trans (HB.out.mono HW0.out.size)).mono hn) (Nat.le_refl _)) (by omega)).mono ?_; rintro e' w3 ⟨rfl, hb⟩; rw [hck]; have HB := Lib.hid (HB.out.trans (hb.mono HB.out.size)); clear hb; have hs2 := HB.out.size; clear d0 d1 d2 d3 d4 d5 d6 d7 d8 d9; have hq1 := HQ.out.mono HB.out HQ.out.lt; have d0 := hq1.cell 0 _ rfl; have d1 := hq1.cell 1 _ rfl; have d2 := hq1.cell 2 _ rfl; have d3 := hq1.cell 3 _ rfl; have d4 := hq1.cell 4 _ rfl; have d5 := hq1.cell 5 _ rfl; have d6 := hq1.cell 6 _ rfl; have d7 := hq1.cell 7 _ rfl; have d8 := hq1.cell 8 _ rfl; have d9 := hq1.cell 9 _ rfl; clear hq1)
            | (go_at_call 10; refine (rHorizon e _ n _ (by omega) (He.out.mono ((HW0.out.trans (HB.out.mono HW0.out.size)).mono hn) (Nat.le_refl _)) (by omega)).mono ?_; rintro e' w4 ⟨rfl, hb⟩; have HB := Lib.hid (HB.out.trans (hb.mono HB.out.size)); clear hb; have hs2 := HB.out.size; clear d0 d1 d2 d3 d4 d5 d6 d7 d8 d9; have hq1 := HQ.out.mono HB.out HQ.out.lt; have d0 := hq1.cell 0 _ rfl; have d1 := hq1.cell 1 _ rfl; have d2 := hq1.cell 2 _ rfl; have d3 := hq1.cell 3 _ rfl; have d4 := hq1.cell 4 _ rfl; have d5 := hq1.cell 5 _ rfl; have d6 := hq1.cell 6 _ rfl; have d7 := hq1.cell 7 _ rfl; have d8 := hq1.cell 8 _ rfl; have d9 := hq1.cell 9 _ rfl; clear hq1))
          all_goals go_meet
          all_goals refine ⟨⟨_, rfl, fun hb => ?_⟩, HB.out⟩
          all_goals first | (simp at hb; done) | (simp only [decide_eq_false_iff_not] at hb; exact ⟨hck, by omega, by omega, by omega, by omega, by omega, by omega, by omega, by omega, by omega⟩) | skip
        · have hck' : (checkQuery ev e != 0) = true := by simpa using hck
          go_wp2_with (first
            | (go_at_call 8; refine (kLight e _ 100 n _ (by omega) (by decide) (by decide) (He.out.mono ((HW0.out.trans (HB.out.mono HW0.out.size)).mono hn) (Nat.le_refl _))).mono ?_; rintro e' w2 ⟨rfl, hb⟩; rw [hlt]; have HB := Lib.hid (HB.out.trans (hb.mono HB.out.size)); clear hb; have hs2 := HB.out.size; clear d0 d1 d2 d3 d4 d5 d6 d7 d8 d9; have hq1 := HQ.out.mono HB.out HQ.out.lt; have d0 := hq1.cell 0 _ rfl; have d1 := hq1.cell 1 _ rfl; have d2 := hq1.cell 2 _ rfl; have d3 := hq1.cell 3 _ rfl; have d4 := hq1.cell 4 _ rfl; have d5 := hq1.cell 5 _ rfl; have d6 := hq1.cell 6 _ rfl; have d7 := hq1.cell 7 _ rfl; have d8 := hq1.cell 8 _ rfl; have d9 := hq1.cell 9 _ rfl; clear hq1)
            | (go_at_call 9; refine (rCheck ev e _ n _ (by omega) (He.out.mono ((HW0.out.trans (HB.out.mono HW0.out.size)).mono hn) (Nat.le_refl _)) (by omega)).mono ?_; rintro e' w3 ⟨rfl, hb⟩; have HB := Lib.hid (HB.out.trans (hb.mono HB.out.size)); clear hb; have hs2 := HB.out.size; clear d0 d1 d2 d3 d4 d5 d6 d7 d8 d9; have hq1 := HQ.out.mono HB.out HQ.out.lt; have d0 := hq1.cell 0 _ rfl; have d1 := hq1.cell 1 _ rfl; have d2 := hq1.cell 2 _ rfl; have d3 := hq1.cell 3 _ rfl; have d4 := hq1.cell 4 _ rfl; have d5 := hq1.cell 5 _ rfl; have d6 := hq1.cell 6 _ rfl; have d7 := hq1.cell 7 _ rfl; have d8 := hq1.cell 8 _ rfl; have d9 := hq1.cell 9 _ rfl; clear hq1))
          all_goals go_meet
          all_goals exact ⟨⟨_, rfl, fun hb => by simp at hb⟩, HB.out⟩
      case rest =>
        obtain ⟨⟨b, rfl, hG⟩, hbc⟩ := hcut
        obtain ⟨W1, rfl⟩ : ∃ W1 : World, W1 = wc := ⟨_, rfl⟩
        clear HB
        have HB := Lib.hid hbc; clear hbc
        have hs1 := HB.out.size
        clear d0 d1 d2 d3 d4 d5 d6 d7 d8 d9; have hq1 := HQ.out.mono HB.out HQ.out.lt; have d0 := hq1.cell 0 _ rfl; have d1 := hq1.cell 1 _ rfl; have d2 := hq1.cell 2 _ rfl; have d3 := hq1.cell 3 _ rfl; have d4 := hq1.cell 4 _ rfl; have d5 := hq1.cell 5 _ rfl; have d6 := hq1.cell 6 _ rfl; have d7 := hq1.cell 7 _ rfl; have d8 := hq1.cell 8 _ rfl; have d9 := hq1.cell 9 _ rfl; clear hq1
        cases b with
        | true =>
          go_wp2
          go_ret
          exact ⟨rfl, HW0.out.trans (HB.out.mono HW0.out.size)⟩
        | false =>
          have hG := hG rfl
          have HG := Lib.hid hG
          obtain ⟨hck, g50, g200, gm0, gm1, gt0, gt1, gl0, gl1, g5⟩ := hG
          have hev1 := (check_ev hck).1
          obtain ⟨N, hN⟩ : ∃ N : Nat, (N : Int) = time + 300 := ⟨(time + 300).toNat, by omega⟩
          have HNs := Lib.hid (needs_some hck g200 ⟨gm0, gm1⟩ ⟨gt0, gt1⟩ hN)
          go_upto_region 8 with (go_at_call 11; refine (rLeaves e _ n _ (by omega) (He.out.mono ((HW0.out.trans (HB.out.mono HW0.out.size)).mono hn) (Nat.le_refl _)) (by omega)).mono ?_; rintro e' w5 ⟨v5, rfl, ho5, hb⟩; have hx5 := ho5.exs (Nat.le_refl _) (by have := hb.size; omega); obtain ⟨A5, c5, rfl, _, _, hll5⟩ := hx5.open; have HX5 := Lib.hid hx5; clear hx5 ho5; have HB := Lib.hid (HB.out.trans (hb.mono HB.out.size)); clear hb; have hs5 := HB.out.size; clear d0 d1 d2 d3 d4 d5 d6 d7 d8 d9; have hq1 := HQ.out.mono HB.out HQ.out.lt; have d0 := hq1.cell 0 _ rfl; have d1 := hq1.cell 1 _ rfl; have d2 := hq1.cell 2 _ rfl; have d3 := hq1.cell 3 _ rfl; have d4 := hq1.cell 4 _ rfl; have d5 := hq1.cell 5 _ rfl; have d6 := hq1.cell 6 _ rfl; have d7 := hq1.cell 7 _ rfl; have d8 := hq1.cell 8 _ rfl; have d9 := hq1.cell 9 _ rfl; clear hq1)
          unfold maxLen at hll5
          go_loop [11, 13] (fun s11 s13 => ∃ k : Nat, k ≤ N ∧ s13 = .int .i64 ((k : Int) + 1) ∧ s11 = .bool (someTo ev e mark time k)) (fun _ s13 => N + 1 - (intOf s13).toNat)
          case atStart => exact ⟨0, Nat.zero_le _, rfl, rfl⟩
          case round =>
            obtain ⟨k, hk, rfl, rfl⟩ := hrel
            by_cases hlt2 : k < N
            · have c1 : (k : Int) + 1 ≤ time + 300 := by omega
              clear hck hN
              go_upto_region 11 with fail
              go_loop [11, 14] (fun s11 s14 => ∃ j : Nat, j ≤ e.leaves.length ∧ s14 = .int .i64 j ∧ s11 = .bool (inTo ev e mark time k j)) (fun _ s14 => e.leaves.length - (intOf s14).toNat)
              case atStart => exact ⟨0, Nat.zero_le _, rfl, by rw [inTo_0]⟩
              case round =>
                obtain ⟨j, hj, rfl, rfl⟩ := hrel
                by_cases hlj : j < e.leaves.length
                · by_cases h1 : mark < (k : Int) + 1
                  · by_cases h2 : ((k : Int) + 1) % ev = 0
                    · have Hs := Lib.hid (inTo_step (e := e) (time := time) h1 h2 hlj)
                      obtain ⟨b, off, pm', cm', pn', cn', pk', ck', rfl, hbn, hei, e0, e1, e2, e3, e4, e5, e6, e7, e8⟩ := HX5.out.getE (Cells.refl _ _) hlj
                      clear hei e0 e1 e2 e3 e4 e5 e7 e8
                      have HI := Lib.hid (fun wx => gIn e.leaves[j].span ((k : Int) + 1) time wx (by have := leaf_span (check_expr HG.out.chk) _ (List.getElem_mem hlj); omega) (by omega) HTI.out)
                      cases hin : inTo ev e mark time k j
                      · rw [hin, Bool.false_or] at Hs
                        go_wp2_with (go_at_call 12; refine (HI.out _).mono ?_; rintro e' w' ⟨rfl, rfl⟩)
                        exact ⟨⟨j + 1, by omega, by go_num, by rw [Hs.out]⟩, by simp [intOf]; omega⟩
                      · rw [hin, Bool.true_or] at Hs
                        go_wp2
                        exact ⟨⟨j + 1, by omega, by go_num, by rw [Hs.out]⟩, by simp [intOf]; omega⟩
                    · have Hn := Lib.hid (inTo_not (ev := ev) (e := e) (mark := mark) (time := time) (k := k) j (fun h => h2 h.2))
                      go_wp2
                      go_round
                      case rel => exact ⟨k + 1, by omega, by go_num, by rw [Hn.out]⟩
                      case measure => simp [intOf]; omega
                  · have Hn := Lib.hid (inTo_not (ev := ev) (e := e) (mark := mark) (time := time) (k := k) j (fun h => h1 h.1))
                    go_wp2
                    go_round
                    case rel => exact ⟨k + 1, by omega, by go_num, by rw [Hn.out]⟩
                    case measure => simp [intOf]; omega
                · have hj' : j = e.leaves.length := by omega
                  subst hj'
                  have Hn := Lib.hid (inTo_all (ev := ev) (e := e) (mark := mark) (time := time) (k := k))
                  go_wp2
                  go_round
                  case rel => exact ⟨k + 1, by omega, by go_num, by rw [Hn.out]⟩
                  case measure => simp [intOf]; omega
            · have hk' : k = N := by omega
              subst hk'
              obtain ⟨all, hall⟩ : ∃ all, all = (ev, e) :: l := ⟨_, rfl⟩
              obtain ⟨i1, gi, gz0, gz1, gz2⟩ := info_parts infoQ
              have hal : all.length ≤ 6 := by rw [hall, List.length_cons]; omega
              have HAll := Lib.hid hall; clear hall
              go_upto_region 18 with (first
                | (go_at_call 13; refine (gNeeded ev mark time e _ n _ (by omega) (He.out.mono ((HW0.out.trans (HB.out.mono HW0.out.size)).mono hn) (Nat.le_refl _)) (by omega) HM.out HTI.out).mono ?_; rintro e' w6 ⟨rfl, hb⟩; rw [HNs.out]; have HB := Lib.hid (HB.out.trans (hb.mono HB.out.size)); clear hb; have hs6 := HB.out.size; clear d0 d1 d2 d3 d4 d5 d6 d7 d8 d9; have hq1 := HQ.out.mono HB.out HQ.out.lt; have d0 := hq1.cell 0 _ rfl; have d1 := hq1.cell 1 _ rfl; have d2 := hq1.cell 2 _ rfl; have d3 := hq1.cell 3 _ rfl; have d4 := hq1.cell 4 _ rfl; have d5 := hq1.cell 5 _ rfl; have d6 := hq1.cell 6 _ rfl; have d7 := hq1.cell 7 _ rfl; have d8 := hq1.cell 8 _ rfl; have d9 := hq1.cell 9 _ rfl; clear hq1)
                | (at_builtin; refine wpList_fore _ ev e _ l all (.slice pl l.length cl) n (by omega) (HLl.out.mono ((HW0.out.trans (HB.out.mono HW0.out.size)).mono hn) (Nat.le_refl _)) HLn.out (He.out.mono ((HW0.out.trans (HB.out.mono HW0.out.size)).mono hn) (Nat.le_refl _)) HAll.out (by omega) rfl _ _ _ rfl i1 _ Try.underlying29 gi gz0 gz1 gz2 rfl rfl rfl ?_; intro v8 w8 hq8 hb; have hq8o := hq8.open; obtain ⟨A8, c8, rfl, _, _, hal8⟩ := hq8o; have HQ8 := Lib.hid hq8; clear hq8 hal8; have HB := Lib.hid (HB.out.trans (hb.mono HB.out.size)); clear hb; have hs8 := HB.out.size; clear d0 d1 d2 d3 d4 d5 d6 d7 d8 d9; have hq1 := HQ.out.mono HB.out HQ.out.lt; have d0 := hq1.cell 0 _ rfl; have d1 := hq1.cell 1 _ rfl; have d2 := hq1.cell 2 _ rfl; have d3 := hq1.cell 3 _ rfl; have d4 := hq1.cell 4 _ rfl; have d5 := hq1.cell 5 _ rfl; have d6 := hq1.cell 6 _ rfl; have d7 := hq1.cell 7 _ rfl; have d8 := hq1.cell 8 _ rfl; have d9 := hq1.cell 9 _ rfl; clear hq1))
              clear gi gz0 gz1 gz2 hN
              clear d0 d1 d2 d3 d4 d5 d6 d7 d8 d9
              go_loopw [16] (fun s16 wr => ∃ k2 : Nat, k2 ≤ all.length ∧ s16 = .int .i64 k2 ∧ (∀ q ∈ all.take k2, light q.2 100 = true) ∧ Below w8.heap.size w8 wr) (fun s16 _ => all.length - (intOf s16).toNat)
              case atStart => exact ⟨0, Nat.zero_le _, rfl, by simp, Below.refl _ _⟩
              case round =>
                obtain ⟨k2, hk2, rfl, hr, hb⟩ := hrel
                have Hr := Lib.hid hr; clear hr
                have HC := Lib.hid hb; clear hb
                have hsr := HC.out.size
                by_cases hlk : k2 < all.length
                · have HG8 := Lib.hid ((HQ8.out.mono HC.out (Nat.le_refl _)).get hlk)
                  obtain ⟨b, off, pm', cm', pn', cn', pk', ck', rfl, hbn, hei, e0, e1, e2, e3, e4, e5, e6, e7, e8, e9⟩ := HG8.out
                  have Hei := Lib.hid hei; clear hei HG8
                  have Hsn : Hid (light all[k2].2 100 = true → ∀ q ∈ all.take (k2 + 1), light q.2 100 = true) := fun h q hq => by
                    rw [List.take_succ_eq_append_getElem hlk] at hq
                    rcases List.mem_append.1 hq with h' | h'
                    · exact Hr.out q h'
                    · simp at h'; subst h'; exact h
                  clear e0
                  cases hlx : light all[k2].2 100
                  all_goals
                    rw [hlx] at Hsn
                    go_wp2_with (go_at_call 8; refine (kLight all[k2].2 _ 100 _ _ (by omega) (by decide) (by decide) Hei.out).mono ?_; rintro e' w9 ⟨rfl, hb⟩; rw [hlx]; have HC3 := Lib.hid (HC.out.trans (hb.mono hsr)); clear hb)
                  · go_ret
                    have h1 := HB.out.trans (HC3.out.mono HB.out.size)
                    exact ⟨rfl, HW0.out.trans (h1.mono HW0.out.size)⟩
                  · exact ⟨⟨k2 + 1, by omega, by go_num, Hsn.out (by first | rfl | trivial), HC3.out⟩, by simp [intOf]; omega⟩
                · have hk' : k2 = all.length := by omega
                  subst hk'
                  rw [List.take_length] at Hr
                  have HQs : Hid (∀ q ∈ all, q.2.size ≤ 1000000) := fun q hq => by have := light_size (Hr.out q hq) (by decide); omega
                  clear Hr
                  obtain ⟨K, hK⟩ : ∃ K, keepTo mark all = K := ⟨_, rfl⟩
                  obtain ⟨K2, hK2⟩ : ∃ K2, keepTo later all = K2 := ⟨_, rfl⟩
                  have hKm : K ≤ mark := by rw [← hK]; exact keepTo_le _ _
                  have hK0 : 0 ≤ K := by rw [← hK]; exact keepTo_nonneg (by omega) _
                  have hKK : K ≤ K2 := by rw [← hK, ← hK2]; exact keepTo_mono gm0 ⟨gl0, gl1⟩
                  have HNx : Hid (((K == mark) || all.any fun q => neededT q.1 q.2 mark (K + 1)) = true) := by
                    show _ = _
                    rcases kept_next (mark := mark) (l := all) ⟨gm0, gm1⟩ with h | ⟨q, hq, h⟩
                    · rw [hK] at h; simp [h]
                    · rw [hK] at h; rw [Bool.or_eq_true]; right; exact List.any_eq_true.2 ⟨q, hq, h⟩
                  have HKn : Hid (∀ M x, mark ≤ M → M ≤ 3000 → 1 ≤ x → x ≤ K → ∀ q ∈ all, neededT q.1 q.2 M x = false) := fun M x h1 h2 h3 h4 => kept_not gm0 ⟨h1, h2⟩ ⟨h3, by rw [hK]; exact h4⟩
                  go_upto_region 25 with (go_at_call 14; refine (gKeepM all mark mark _ _ _ hsr (HQ8.out.mono HC.out (Nat.le_refl _)) HQs.out (by omega) HM.out (by omega)).mono ?_; rintro e' w10 ⟨rfl, hb⟩; rw [hK]; have HC := Lib.hid (HC.out.trans (hb.mono hsr)); clear hb; have hs10 := HC.out.size)
                  have HC0 := HC
                  go_loopw [18, 19] (fun s18 s19 wr => ∃ k3 : Nat, k3 ≤ all.length ∧ s19 = .int .i64 k3 ∧ s18 = .bool ((K == mark) || (all.take k3).any fun q => neededT q.1 q.2 mark (K + 1)) ∧ Below w8.heap.size w8 wr) (fun _ s19 _ => all.length - (intOf s19).toNat)
                  case atStart => exact ⟨0, Nat.zero_le _, rfl, by simp, HC0.out⟩
                  case round =>
                    obtain ⟨k3, hk3, rfl, rfl, hb⟩ := hrel
                    have HC := Lib.hid hb; clear hb
                    have hsr3 := HC.out.size
                    by_cases hlk3 : k3 < all.length
                    · have HG8 := Lib.hid ((HQ8.out.mono HC.out (Nat.le_refl _)).get hlk3)
                      obtain ⟨b, off, pm', cm', pn', cn', pk', ck', rfl, hbn, hei, e0, e1, e2, e3, e4, e5, e6, e7, e8, e9⟩ := HG8.out
                      clear HG8
                      have hqm := HQs.out _ (List.getElem_mem hlk3)
                      have HF : Hid (∀ M x, mark ≤ M → M ≤ 3000 → 1 ≤ x → x ≤ K → neededT all[k3].1 all[k3].2 M x = false) := fun M x h1 h2 h3 h4 => HKn.out M x h1 h2 h3 h4 _ (List.getElem_mem hlk3)
                      have Hst : Hid (((K == mark) || (all.take (k3 + 1)).any fun q => neededT q.1 q.2 mark (K + 1)) = (((K == mark) || (all.take k3).any fun q => neededT q.1 q.2 mark (K + 1)) || neededT all[k3].1 all[k3].2 mark (K + 1))) := by
                        show _ = _
                        rw [List.take_succ_eq_append_getElem hlk3, List.any_append, List.any_cons, List.any_nil, Bool.or_false, Bool.or_assoc]
                      obtain ⟨B, hB⟩ : ∃ B, ((K == mark) || (all.take k3).any fun q => neededT q.1 q.2 mark (K + 1)) = B := ⟨_, rfl⟩
                      rw [hB] at Hst ⊢
                      clear hB hK hK2
                      have HE3 := Lib.hid (fun X (h : Below wr.heap.size wr X) => hei.mono (h.mono hsr3) (Nat.le_refl w8.heap.size)); clear hei
                      have HD := Lib.hid (Below.refl wr.heap.size wr)
                      have hsd := HD.out.size
                      have hiK : i64 K := by unfold i64; omega
                      have hiK1 : i64 (K + 1) := by unfold i64; omega
                      have HIK := Lib.hid hiK; clear hiK
                      have HIK1 := Lib.hid hiK1; clear hiK1
                      have HF1 : Hid (1 ≤ K → neededT all[k3].1 all[k3].2 mark K = false) := fun h => HF.out mark K (Int.le_refl _) (by omega) h (Int.le_refl _)
                      have HF2 : Hid (1 ≤ K → neededT all[k3].1 all[k3].2 later K = false) := fun h => HF.out later K (by omega) (by omega) h (Int.le_refl _)
                      have HF3 : Hid (time ≤ K → neededT all[k3].1 all[k3].2 later time = false) := fun h => HF.out later time (by omega) (by omega) (by omega) h
                      cases B
                      all_goals by_cases hk1 : 1 ≤ K
                      all_goals by_cases hk2 : time ≤ K
                      all_goals try (exfalso; omega)
                      all_goals go_wp2_with (go_at_call 13; refine (gNeeded all[k3].1 _ _ all[k3].2 _ w8.heap.size _ (by omega) (HE3.out _ HD.out) hqm (by first | exact HM.out | exact HLA.out) (by first | exact HIK.out | exact HTI.out | exact HIK1.out)).mono ?_; rintro e' w12 ⟨rfl, hb⟩; (first | rw [HF1.out hk1] | rw [HF2.out hk1] | rw [HF3.out hk2] | skip); have f0 := (hb.cell (p := ⟨b, off + k3 * 10, none⟩) (Nat.lt_of_lt_of_le hbn (by omega))).trans e0; clear e0; have e0 := f0; clear f0; have f1 := (hb.cell (p := ⟨b, off + k3 * 10 + 1, none⟩) (Nat.lt_of_lt_of_le hbn (by omega))).trans e1; clear e1; have e1 := f1; clear f1; have f2 := (hb.cell (p := ⟨b, off + k3 * 10 + 2, none⟩) (Nat.lt_of_lt_of_le hbn (by omega))).trans e2; clear e2; have e2 := f2; clear f2; have f3 := (hb.cell (p := ⟨b, off + k3 * 10 + 3, none⟩) (Nat.lt_of_lt_of_le hbn (by omega))).trans e3; clear e3; have e3 := f3; clear f3; have f4 := (hb.cell (p := ⟨b, off + k3 * 10 + 4, none⟩) (Nat.lt_of_lt_of_le hbn (by omega))).trans e4; clear e4; have e4 := f4; clear f4; have f5 := (hb.cell (p := ⟨b, off + k3 * 10 + 5, none⟩) (Nat.lt_of_lt_of_le hbn (by omega))).trans e5; clear e5; have e5 := f5; clear f5; have f6 := (hb.cell (p := ⟨b, off + k3 * 10 + 6, none⟩) (Nat.lt_of_lt_of_le hbn (by omega))).trans e6; clear e6; have e6 := f6; clear f6; have f7 := (hb.cell (p := ⟨b, off + k3 * 10 + 7, none⟩) (Nat.lt_of_lt_of_le hbn (by omega))).trans e7; clear e7; have e7 := f7; clear f7; have f8 := (hb.cell (p := ⟨b, off + k3 * 10 + 8, none⟩) (Nat.lt_of_lt_of_le hbn (by omega))).trans e8; clear e8; have e8 := f8; clear f8; have f9 := (hb.cell (p := ⟨b, off + k3 * 10 + 9, none⟩) (Nat.lt_of_lt_of_le hbn (by omega))).trans e9; clear e9; have e9 := f9; clear f9; have HD := Lib.hid (HD.out.trans (hb.mono hsd)); clear hb; have hsd := HD.out.size)
                      all_goals first | exact ⟨⟨k3 + 1, by omega, by go_num, by rw [Hst.out]; simp, HC.out.trans (HD.out.mono hsr3)⟩, by simp [intOf]; omega⟩ | skip
                    · have hk' : k3 = all.length := by omega
                      subst hk'
                      rw [List.take_length, HNx.out]
                      clear hK
                      go_wp2_with (go_at_call 14; refine (gKeepM all later later _ _ _ hsr3 (HQ8.out.mono HC.out (Nat.le_refl _)) HQs.out (by omega) HLA.out (by omega)).mono ?_; rintro e' w11 ⟨rfl, hb⟩; rw [hK2]; have HC := Lib.hid (HC.out.trans (hb.mono hsr3)); clear hb)
                      all_goals go_ret
                      all_goals have h1 := HB.out.trans (HC.out.mono HB.out.size)
                      all_goals exact ⟨rfl, HW0.out.trans (h1.mono HW0.out.size)⟩

end Go.Proofs.Ytdmojmadklckbaa
