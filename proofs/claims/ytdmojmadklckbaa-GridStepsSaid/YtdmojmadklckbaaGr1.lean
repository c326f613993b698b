/- grid: right, In, the iterator over times. -/
import Derived.Test.YtdmojmadklckbaaGr0
import Derived.Test.YtdmojmadklckbaaIter2
import Derived.Sort.QuietIn
import Derived.IntWalk
namespace Go.Proofs.Ytdmojmadklckbaa
open Go.Shelf
open Go.RowKit
set_option linter.unusedSimpArgs false
set_option linter.unusedVariables false
attribute [local go_sem] Oper.semAt_some

/-- The form of an expression's cells. -/
def QCells (e : Ex) (cs : List Value) : Prop := ∃ pm cm pn cn pk ck, cs = [.int .i64 e.kind, .int .i64 e.fn, .int .i64 e.op, .int .i64 e.num, .string e.metric, .slice pm e.mats.length cm, .int .i64 e.span, .slice pn e.names.length cn, .slice pk e.kids.length ck]
theorem IsEx.qc {n : Nat} {w : World} {e : Ex} {cs : List Value} (h : IsEx n w e cs) : QCells e cs := by
  obtain ⟨pm, cm, pn, cn, pk, ck, rfl, -⟩ := h.cellsE
  exact ⟨pm, cm, pn, cn, pk, ck, rfl⟩

theorem gRight (ev : Int) (e : Ex) (cs : List Value) (w : World) (he : QCells e cs) :
    Calls Try.prog 45 #[.agg (.int .i64 ev :: cs).toArray] w fun e' w' => e' = .returned (.bool (evOk ev)) ∧ w.alloc (.cells (.int .i64 ev :: cs).toArray 28) = w' := by
  obtain ⟨pm, cm, pn, cn, pk, ck, rfl⟩ := he
  unfold evOk
  go_enter Try.func45, Try.ntmps45; (try simp only [List.append_eq, List.cons_append, List.nil_append])
  go_wp2
  all_goals go_ret
  all_goals exact ⟨ret_bool (by (first | rfl | (rw [Bool.eq_iff_iff]; simp only [Bool.and_eq_true, Bool.or_eq_true, decide_eq_true_eq, beq_iff_eq, bne_iff_ne, ne_eq, Bool.not_eq_true', decide_eq_false_iff_not, Bool.false_eq_true, iff_false, false_iff, iff_true, true_iff]; omega))), rfl⟩

theorem gIn (span at' time : Int) (w : World) (hs : -9223372036854775808 ≤ span ∧ span ≤ 9223372036854775807) (ha : -9223372036854775808 ≤ at' ∧ at' ≤ 9223372036854775807) (ht : -9223372036854775808 ≤ time ∧ time ≤ 9223372036854775807) :
    Calls Try.prog 12 #[.int .i64 span, .int .i64 at', .int .i64 time] w fun e' w' => e' = .returned (.bool (inW span at' time)) ∧ w = w' := by
  unfold inW
  go_enter Try.func12, Try.ntmps12; (try simp only [List.append_eq, List.cons_append, List.nil_append])
  go_wp2
  all_goals go_ret
  all_goals exact ⟨ret_bool (by first | (first | rfl | (rw [Bool.eq_iff_iff]; simp only [Bool.and_eq_true, Bool.or_eq_true, decide_eq_true_eq, beq_iff_eq, bne_iff_ne, ne_eq, Bool.not_eq_true', decide_eq_false_iff_not, Bool.false_eq_true, iff_false, false_iff, iff_true, true_iff]; omega)) | (rw [Bool.eq_iff_iff]; simp; omega) | (simp only [IntKind.wrap_u64]; rw [decide_eq_decide]; omega)), rfl⟩

theorem gTimes (ev mark : Int) (e : Ex) (cs : List Value) (w : World) (he : QCells e cs) :
    Calls Try.prog 39 #[.agg (.int .i64 ev :: cs).toArray, .int .i64 mark] w fun e' w' => e' = .returned (.func (.func 54) #[] #[.pointer (some ⟨w.heap.size, 0, none⟩), .pointer (some ⟨w.heap.size + 1, 0, none⟩)]) ∧
      (w.alloc (.cells (.int .i64 ev :: cs).toArray 28)).alloc (.cells #[.int .i64 mark] 2) = w' := by
  obtain ⟨pm, cm, pn, cn, pk, ck, rfl⟩ := he
  go_enter Try.func39, Try.ntmps39; (try simp only [List.append_eq, List.cons_append, List.nil_append])
  go_wp2
  go_ret
  exact ⟨rfl, rfl⟩

/-- What a round keeps: the cells of the query's own block. -/
def KpB (b : Nat) (W W' : World) : Prop := ∀ off x, W.cell? ⟨b, off, none⟩ = some x → W'.cell? ⟨b, off, none⟩ = some x
theorem KpB.trans {b : Nat} {A B C : World} (h : KpB b A B) (k : KpB b B C) : KpB b A C := fun o x hx => k o x (h o x hx)
theorem KpB.put {b : Nat} (W : World) (l : Nat) (o o' : Obj) (h : W.heap[l]? = some o) (hc : o.isCells = false) : KpB b W (W.putObj l o') := fun off x hx => by
  obtain ⟨q, hq, hqc⟩ := cells_of_cell hx
  have hne : b ≠ l := by intro e; subst e; rw [hq] at h; cases h; rw [hc] at hqc; cases hqc
  rw [World.cell?_of_block (w := W) (a := ⟨b, off, none⟩) (World.putObj_heap_other hne)]
  exact hx
theorem KpB.box {b : Nat} {W W' : World} {cs : List Value} (h : KpB b W W') (hB : Box W b cs) (hs : W.heap.size ≤ W'.heap.size) : Box W' b cs := ⟨Nat.lt_of_lt_of_le hB.1 hs, fun j x hj => h j x (hB.2 j x hj)⟩

def TAll (ev mark : Int) (xs : List Int) : Prop := xs = ticks ev mark (cntT ev mark)
def TPre (ev mark : Int) (xs : List Int) : Prop := ∃ j, 0 < j ∧ j ≤ cntT ev mark ∧ xs = ticks ev mark j

set_option maxRecDepth 100000 in
set_option maxHeartbeats 4000000 in
theorem timesStops (ev mark : Int) (e : Ex) (cs : List Value) (w : World) (n qB mB : Nat) (he : QCells e cs) (hmk : -9223372036854775808 ≤ mark ∧ mark ≤ 9223372036854775807) (hq : Box w qB (.int .i64 ev :: cs)) (hm : Box w mB [.int .i64 mark]) (hqm : qB < w.heap.size) :
    SeqStopsK Fence.wide n Try.prog 54 #[.pointer (some ⟨qB, 0, none⟩), .pointer (some ⟨mB, 0, none⟩)] (fun x : Int => #[.int .i64 x]) (fun W W' => KpB qB W W' ∧ W.heap.size ≤ W'.heap.size) (TAll ev mark) (TPre ev mark) (cntT ev mark) w := by
  intro l J Jx W hW hJ hJx hY h0
  have hdd : ∀ k : Nat, (Fence.wide.depth.isSome = true → 1 ≤ k) := fun k h => by cases h
  have HR := Lib.hid (fun wx => gRight ev e _ wx he)
  obtain ⟨pm, cm, pn, cn, pk, ck, rfl⟩ := he
  have hqW := hq.keep hW
  have hmW := hm.keep hW
  have c0 := hqW.2 0 _ rfl
  have c1 := hqW.2 1 _ rfl
  have c2 := hqW.2 2 _ rfl
  have c3 := hqW.2 3 _ rfl
  have c4 := hqW.2 4 _ rfl
  have c5 := hqW.2 5 _ rfl
  have c6 := hqW.2 6 _ rfl
  have c7 := hqW.2 7 _ rfl
  have c8 := hqW.2 8 _ rfl
  have c9 := hqW.2 9 _ rfl
  have m0 := hmW.2 0 _ rfl
  have hq1 := hqW.1
  have hm1 := hmW.1
  have HQ := Lib.hid hqW; clear hqW
  have HM := Lib.hid hmW; clear hmW
  have HY := Lib.hid hY; clear hY
  have H0 := Lib.hid h0; clear h0
  have HJ := Lib.hid hJ; clear hJ
  have HJx := Lib.hid hJx; clear hJx
  clear hq hm hqm
  cases hok : (evOk ev && decide (mark < MT)) with
  | false =>
    have hz := cnt_zero hok
    have H1 := Lib.hid (HJ.out [] W (W.alloc (.cells #[.int .i64 ev, .int .i64 e.kind, .int .i64 e.fn, .int .i64 e.op, .int .i64 e.num, .string e.metric, .slice pm e.mats.length cm, .int .i64 e.span, .slice pn e.names.length cn, .slice pk e.kids.length ck] 28)) none H0.out (World.grownBy_alloc W _ none) (fun r e => by cases e))
    have hfin : Hid (TAll ev mark []) := by show _ = _; rw [hz]; rfl
    have hc : evOk ev = false ∨ (evOk ev = true ∧ ¬ mark < MT) := by
      cases h1 : evOk ev with
      | false => exact .inl rfl
      | true => rw [h1] at hok; simp at hok; exact .inr ⟨rfl, by omega⟩
    clear hok hz
    rcases hc with h1 | ⟨h1, h2⟩
    · rw [h1] at HR
      clear h1
      refine callsIn_of_wp Try.func54 rfl trivial ?_ rfl; simp only [Try.ntmps54, List.size_toArray, List.length_cons, List.length_nil, Nat.reduceAdd, Nat.reduceSub, Array.replicate_succ, Array.replicate_zero, List.push_toArray, List.append_toArray, List.nil_append, List.cons_append]; (try simp only [List.append_eq, List.cons_append, List.nil_append])
      gi_wp2_with ((try refine ⟨trivial, hdd _, ?_⟩); gi_at_call 45; refine (callsIn_wide.2 (HR.out _)).mono ?_; rintro e' W4 ⟨rfl, rfl⟩)
      refine bodyPost_ret (results_none rfl _ _ _) rfl ?_
      exact ⟨⟨_, rfl⟩, .inl ⟨_, hfin.out, H1.out⟩⟩
    · rw [h1] at HR
      have h3 : (1099511627776 : Int) ≤ mark := by unfold MT at h2; omega
      clear h1 h2
      refine callsIn_of_wp Try.func54 rfl trivial ?_ rfl; simp only [Try.ntmps54, List.size_toArray, List.length_cons, List.length_nil, Nat.reduceAdd, Nat.reduceSub, Array.replicate_succ, Array.replicate_zero, List.push_toArray, List.append_toArray, List.nil_append, List.cons_append]; (try simp only [List.append_eq, List.cons_append, List.nil_append])
      gi_wp2_with ((try refine ⟨trivial, hdd _, ?_⟩); gi_at_call 45; refine (callsIn_wide.2 (HR.out _)).mono ?_; rintro e' W4 ⟨rfl, rfl⟩)
      refine bodyPost_ret (results_none rfl _ _ _) rfl ?_
      exact ⟨⟨_, rfl⟩, .inl ⟨_, hfin.out, H1.out⟩⟩
  | true =>
    have hok' := hok
    rw [Bool.and_eq_true, decide_eq_true_eq, evOk_iff] at hok'
    obtain ⟨⟨hev1, hev2⟩, hmk2⟩ := hok'
    have hev : evOk ev = true := evOk_iff.2 ⟨hev1, hev2⟩
    rw [hev] at HR
    have hlk := Lib.hid (fun k => tk_lt hev1 hmk2 hev2 (k := k))
    unfold MT at hmk2 hlk
    have hb := t0_bd (ev := ev) (mark := mark) hev1
    obtain ⟨hb1, hb2, hb3⟩ := hb
    clear hok hev
    refine callsIn_of_wp Try.func54 rfl trivial ?_ rfl; simp only [Try.ntmps54, List.size_toArray, List.length_cons, List.length_nil, Nat.reduceAdd, Nat.reduceSub, Array.replicate_succ, Array.replicate_zero, List.push_toArray, List.append_toArray, List.nil_append, List.cons_append]; (try simp only [List.append_eq, List.cons_append, List.nil_append])
    gi_wp2_with ((try refine ⟨trivial, hdd _, ?_⟩); gi_at_call 45; refine (callsIn_wide.2 (HR.out _)).mono ?_; rintro e' W4 ⟨rfl, rfl⟩)
    have hev0 : ev ≠ 0 := by omega
    have hev0' : (ev == 0) = false := by simpa using hev0
    gi_quiet (fail)
    have hT : wrap64 (wrap64 ((if 0 < mark then mark else 0) / ev + 1) * ev) = t0 ev mark := by
      have e1 : (if 0 < mark then mark else 0) = max 0 mark := by split <;> omega
      rw [e1]
      have hq : max 0 mark / ev ≤ max 0 mark := Int.ediv_le_self _ (by omega)
      have e2 : wrap64 (max 0 mark / ev + 1) = max 0 mark / ev + 1 := by unfold wrap64; omega
      rw [e2]
      show wrap64 (t0 ev mark) = _
      unfold wrap64; omega
    rw [hT]
    have hbelow : Below W.heap.size W ((W.alloc (.cells #[.int .i64 ev, .int .i64 e.kind, .int .i64 e.fn, .int .i64 e.op, .int .i64 e.num, .string e.metric, .slice pm e.mats.length cm, .int .i64 e.span, .slice pn e.names.length cn, .slice pk e.kids.length ck] 28)).drewN nq) := below_drewN ((Below.refl _ _).alloc (Nat.le_refl _) _) _
    have H1 := Lib.hid (HJ.out [] W ((W.alloc (.cells #[.int .i64 ev, .int .i64 e.kind, .int .i64 e.fn, .int .i64 e.op, .int .i64 e.num, .string e.metric, .slice pm e.mats.length cm, .int .i64 e.span, .slice pn e.names.length cn, .slice pk e.kids.length ck] 28)).drewN nq) none H0.out ⟨rfl, rfl, rfl, hbelow.size, fun k hk _ => hbelow.block k hk⟩ (fun r e => by cases e))
    have HQ1 := Lib.hid (HQ.out.keep hbelow)
    clear hbelow hT hev0 hev0' hb1 c0 c1 c2 c3 c4 c5 c6 c7 c8 c9
    generalize ((W.alloc (.cells #[.int .i64 ev, .int .i64 e.kind, .int .i64 e.fn, .int .i64 e.op, .int .i64 e.num, .string e.metric, .slice pm e.mats.length cm, .int .i64 e.span, .slice pn e.names.length cn, .slice pk e.kids.length ck] 28)).drewN nq) = W1 at *
    clear m0 hq1 hm1
    gi_wp2
    all_goals
      gi_loopw [4] (fun i wr => ∃ k : Nat, k ≤ cntT ev mark ∧ i = .int .i64 (tk ev mark k) ∧ J (ticks ev mark k) wr ∧ Box wr qB [.int .i64 ev, .int .i64 e.kind, .int .i64 e.fn, .int .i64 e.op, .int .i64 e.num, .string e.metric, .slice pm e.mats.length cm, .int .i64 e.span, .slice pn e.names.length cn, .slice pk e.kids.length ck]) (fun i _ => cntT ev mark + 1 - ((intOf i - t0 ev mark) / ev).toNat)
      case atStart => exact ⟨0, Nat.zero_le _, by simp [tk], H1.out, HQ1.out⟩
      case round =>
        obtain ⟨k, hk, rfl, hj, hbx⟩ := hrel
        have Hj := Lib.hid hj; clear hj
        have c0 := hbx.2 0 _ rfl
        have hbb := hbx.1
        have Hbx := Lib.hid hbx; clear hbx
        by_cases hlt : k < cntT ev mark
        · have hle := (hlk.out k).1 hlt
          have hy2 := HY.out (ticks ev mark k) (tk ev mark k) wr Hj.out (by rw [ticks_length]; exact hlt)
          have htk : 0 ≤ tk ev mark k := by unfold tk; have : 0 ≤ (k : Int) * ev := Int.mul_nonneg (by omega) (by omega); omega
          have Hts := Lib.hid (tk_succ ev mark k)
          have Htt := Lib.hid (ticks_succ ev mark k)
          rw [← Htt.out] at hy2
          have hxx : tk ev mark k = t0 ev mark + (k : Int) * ev := rfl
          have Hxx := Lib.hid hxx; clear hxx
          generalize tk ev mark k = x at *
          obtain ⟨fn, tmps, assign, body, hy, hR⟩ := hy2
          have Hms : Hid ((x + ev - t0 ev mark) / ev = (k : Int) + 1 ∧ (x - t0 ev mark) / ev = (k : Int)) := by
            refine ⟨?_, ?_⟩
            · rw [Hxx.out, show t0 ev mark + (k : Int) * ev + ev - t0 ev mark = ((k : Int) + 1) * ev by rw [Int.add_mul]; omega]
              exact Int.mul_ediv_cancel _ (by omega)
            · rw [Hxx.out, show t0 ev mark + (k : Int) * ev - t0 ev mark = (k : Int) * ev by omega]
              exact Int.mul_ediv_cancel _ (by omega)
          have hR2 := hR.mono (R' := fun e' W2 => (e' = .returned (.bool true) ∧ J (ticks ev mark (k + 1)) W2 ∧ W2.cell? ⟨qB, 0, none⟩ = some (.int .i64 ev) ∧ Box W2 qB [.int .i64 ev, .int .i64 e.kind, .int .i64 e.fn, .int .i64 e.op, .int .i64 e.num, .string e.metric, .slice pm e.mats.length cm, .int .i64 e.span, .slice pn e.names.length cn, .slice pk e.kids.length ck]) ∨ (e' = .returned (.bool false) ∧ Jx (ticks ev mark (k + 1)) W2)) (fun e' W2 h => h.elim (fun ⟨h1, h2, h3⟩ => .inl ⟨h1, h2, (h3.1.box Hbx.out h3.2).2 0 _ rfl, h3.1.box Hbx.out h3.2⟩) .inr)
          clear hR
          gi_wp2_with (((try refine ⟨hdd _, ?_⟩); refine hR2.mono ?_; clear hR2; rintro e' W2 (⟨rfl, hJ2, d0, hB2⟩ | ⟨rfl, hJ3⟩)))
          · refine ⟨⟨k + 1, by omega, ?_, hJ2, hB2⟩, ?_⟩
            · rw [Hts.out]
            · simp only [intOf]
              rw [Hms.out.1, Hms.out.2]
              omega
          · refine bodyPost_ret (results_none rfl _ _ _) rfl ?_
            exact ⟨⟨_, rfl⟩, .inr ⟨_, ⟨k + 1, by omega, by omega, rfl⟩, hJ3⟩⟩
        · have hle : ¬ tk ev mark k ≤ 1099511627776 := fun h => hlt ((hlk.out k).2 h)
          gi_wp2
          go_end0
          exact ⟨⟨_, rfl⟩, .inl ⟨_, by unfold TAll; rw [show cntT ev mark = k by omega], Hj.out⟩⟩

end Go.Proofs.Ytdmojmadklckbaa
