/- ast.right: may an expression be, but for its kids? -/
import Derived.Test.YtkheeiipkdeihaaAst1
import Derived.Test.YtkheeiipkdeihaaKit2
namespace Go.Proofs.Ytkheeiipkdeihaa
open Go.RowKit
set_option linter.unusedSimpArgs false
set_option linter.unusedVariables false

/-- May an expression be, but for its kids. -/
def rightH (h : Has) (kids fn op num : Int) (metric : ByteArray) (mats : List Mat) (span : Int) (names : List ByteArray) : Bool :=
  decide (kids = h.kids) && (if h.fn = 0 then decide (fn = 0) else decide (1 ≤ fn ∧ fn ≤ h.fn)) && (if h.op = 0 then decide (op = 0) else decide (h.op ≤ op ∧ op ≤ h.opMost)) && (h.num || decide (num = 0)) &&
    (if h.names then namesB names else decide (names = [])) && (if h.wins then nameB metric && decide (checkMats mats = 0) else decide (metric = ByteArray.empty) && decide (mats = [])) &&
    (if h.spans then decide (1 ≤ span ∧ span ≤ 1073741824) else decide (span = 0))
def rightB (e : Ex) : Bool := kindOk e.kind && rightH (hasOf e.kind) e.kids.length e.fn e.op e.num e.metric e.mats e.span e.names

theorem empty_iff (s : ByteArray) : s.toList.isEmpty = true ↔ s = ByteArray.empty := by
  rw [List.isEmpty_iff, show ([] : List UInt8) = ByteArray.empty.toList by rw [ByteArray.toList_eq]; rfl, toList_inj]

theorem len_nil {α : Type} (l : List α) : l = [] ↔ l.length = 0 := List.length_eq_zero_iff.symm
theorem rightH_1 (kn : Nat) (fn op num : Int) (metric : ByteArray) (mats : List Mat) (span : Int) (names : List ByteArray) : rightH (hasOf 1) kn fn op num metric mats span names = true ↔
    kn = 0 ∧ (1 ≤ fn ∧ fn ≤ 6) ∧ op = 0 ∧ num = 0 ∧ names.length = 0 ∧ (nameB metric = true ∧ checkMats mats = 0) ∧ (1 ≤ span ∧ span ≤ 1073741824) := by
  simp [rightH, hasOf, and_assoc]
theorem rightH_2 (kn : Nat) (fn op num : Int) (metric : ByteArray) (mats : List Mat) (span : Int) (names : List ByteArray) : rightH (hasOf 2) kn fn op num metric mats span names = true ↔
    kn = 1 ∧ (1 ≤ fn ∧ fn ≤ 4) ∧ op = 0 ∧ num = 0 ∧ namesB names = true ∧ (metric.toList.isEmpty = true ∧ mats.length = 0) ∧ span = 0 := by
  rw [empty_iff]; simp [rightH, hasOf, and_assoc]; intros; omega
theorem rightH_3 (kn : Nat) (fn op num : Int) (metric : ByteArray) (mats : List Mat) (span : Int) (names : List ByteArray) : rightH (hasOf 3) kn fn op num metric mats span names = true ↔
    kn = 2 ∧ fn = 0 ∧ (1 ≤ op ∧ op ≤ 3) ∧ num = 0 ∧ namesB names = true ∧ (metric.toList.isEmpty = true ∧ mats.length = 0) ∧ span = 0 := by
  rw [empty_iff]; simp [rightH, hasOf, and_assoc]; intros; omega
theorem rightH_4 (kn : Nat) (fn op num : Int) (metric : ByteArray) (mats : List Mat) (span : Int) (names : List ByteArray) : rightH (hasOf 4) kn fn op num metric mats span names = true ↔
    kn = 1 ∧ fn = 0 ∧ (1 ≤ op ∧ op ≤ 3) ∧ names.length = 0 ∧ (metric.toList.isEmpty = true ∧ mats.length = 0) ∧ span = 0 := by
  rw [empty_iff]; simp [rightH, hasOf, and_assoc]; intros; omega
theorem rightH_5 (kn : Nat) (fn op num : Int) (metric : ByteArray) (mats : List Mat) (span : Int) (names : List ByteArray) : rightH (hasOf 5) kn fn op num metric mats span names = true ↔
    kn = 1 ∧ fn = 0 ∧ (4 ≤ op ∧ op ≤ 9) ∧ names.length = 0 ∧ (metric.toList.isEmpty = true ∧ mats.length = 0) ∧ span = 0 := by
  rw [empty_iff]; simp [rightH, hasOf, and_assoc]; intros; omega

set_option maxRecDepth 100000 in
set_option maxHeartbeats 2000000 in
theorem aRight_1 (fn op num : Int) (metric : ByteArray) (mats : List Mat) (span : Int) (names : List ByteArray) (kn : Nat) (vm vn : Value) (pk : Option Addr) (ck n : Nat) (w : World) (hn : n ≤ w.heap.size)
    (hs : metric.size ≤ maxLen) (hm : IsMats n w vm mats) (hna : IsStrs n w vn names) (hkn : kn ≤ 9223372036854775807) :
    Calls Try.prog 47 #[.agg #[.int .i64 1, .int .i64 fn, .int .i64 op, .int .i64 num, .string metric, vm, .int .i64 span, vn, .slice pk kn ck]] w
      fun e w' => e = .returned (.bool (rightH (hasOf 1) kn fn op num metric mats span names)) ∧ Below w.heap.size w w' := by
  obtain ⟨pm, cm, rfl, _, _, hlm⟩ := hm.open
  obtain ⟨pn, cn, rfl, _, _, hln⟩ := hna.open
  unfold maxLen at hlm hln
  have hK : ∀ w : World, Calls Try.prog 62 #[.int .i64 1] w fun e w' => e = .returned (.tuple #[.agg (hasOf 1).cells.toArray, .bool true]) ∧ Below w.heap.size w w' := fun w => aKind 1 w
  simp only [hasOf, Has.cells] at hK
  have HK := Lib.hid hK; clear hK
  go_enter Try.func47, Try.ntmps47; (try simp only [List.append_eq, List.cons_append, List.nil_append])
  go_upto_region 2 with (go_at_call 62; refine (HK.out _).mono ?_; rintro e w1 ⟨rfl, hb1⟩; have Hb1 := Lib.hid hb1; clear hb1)
  have hbe : Box (w1.alloc (.cells (hasOf 1).cells.toArray 101)) w.heap.size [.int .i64 1, .int .i64 fn, .int .i64 op, .int .i64 num, .string metric, .slice pm mats.length cm, .int .i64 span, .slice pn names.length cn, .slice pk kn ck] :=
    ((Box.new w _ 45).keep Hb1.out).keep ((Below.refl _ _).alloc (Nat.le_refl _) _)
  have hbh : Box (w1.alloc (.cells (hasOf 1).cells.toArray 101)) w1.heap.size (hasOf 1).cells := Box.new w1 _ _
  have hbw : Below w.heap.size w (w1.alloc (.cells (hasOf 1).cells.toArray 101)) :=
    (((Below.refl _ _).alloc (Nat.le_refl _) _).trans (Hb1.out.mono (by simp))).alloc (by have := Hb1.out.size; simp at this; omega) _
  simp only [hasOf, Has.cells] at hbe hbh hbw
  revert hbe hbh hbw
  simp only [Int.reduceEq, if_true, if_false]
  generalize w1.heap.size = B
  generalize w1.alloc _ = W
  intro hbe hbh hbw
  have hnW : n ≤ W.heap.size := Nat.le_trans hn hbw.size
  have Hmm := Lib.hid (hm.mono (hbw.mono hn) (Nat.le_refl _))
  have Hnn := Lib.hid (hna.mono (hbw.mono hn) (Nat.le_refl _))
  clear hm hna Hb1
  have Hbe := Lib.hid hbe; clear hbe
  have Hbh := Lib.hid hbh; clear hbh
  have Hbw := Lib.hid hbw; clear hbw
  have c1 := Hbe.out.2 1 _ rfl
  have c2 := Hbe.out.2 2 _ rfl
  have c3 := Hbe.out.2 3 _ rfl
  have c4 := Hbe.out.2 4 _ rfl
  have c5 := Hbe.out.2 5 _ rfl
  have c6 := Hbe.out.2 6 _ rfl
  have c7 := Hbe.out.2 7 _ rfl
  have c8 := Hbe.out.2 8 _ rfl
  have h0 := Hbh.out.2 0 _ rfl
  have h1 := Hbh.out.2 1 _ rfl
  have h2 := Hbh.out.2 2 _ rfl
  have h3 := Hbh.out.2 3 _ rfl
  have h4 := Hbh.out.2 4 _ rfl
  have h5 := Hbh.out.2 5 _ rfl
  have h6 := Hbh.out.2 6 _ rfl
  have h7 := Hbh.out.2 7 _ rfl
  go_wp2_with (first
    | (go_at_call 63; refine (aNames _ _ n _ hnW Hnn.out).mono ?_; rintro e wx ⟨rfl, rfl⟩)
    | (go_at_call 38; refine (lName _ _ hs).mono ?_; rintro e wx ⟨rfl, rfl⟩)
    | (go_at_call 64; refine (aSpan _ _).mono ?_; rintro e wx ⟨rfl, rfl⟩)
    | (go_at_call 52; refine (lCheckMatch _ _ n _ hnW Hmm.out).mono ?_; rintro e w2 ⟨rfl, hb2⟩; have x6 := (Hbe.out.keep hb2).2 6 _ rfl; have y6 := (Hbh.out.keep hb2).2 6 _ rfl; have y7 := (Hbh.out.keep hb2).2 7 _ rfl; have Hb2 := Lib.hid hb2; clear hb2))
  all_goals (try simp only [Bool.not_eq_true', Bool.not_eq_false', Bool.not_true, Bool.not_false, Bool.not_eq_true, Bool.not_eq_false, beq_iff_eq, beq_eq_false_iff_ne, bne_iff_ne, ne_eq, bne_eq_false_iff_eq, decide_eq_true_eq, decide_eq_false_iff_not, toList_inj] at *)
  all_goals go_ret
  all_goals refine ⟨ret_bool ?_, ?_⟩
  all_goals first
    | (rw [Bool.eq_iff_iff, rightH_1]
       first
         | omega
         | (simp_all; done)
         | (simp_all; omega)
         | (refine ⟨fun h => ?_, fun h => ?_⟩
            · cases h
            · exfalso; omega))
    | exact Hbw.out
    | exact Hbw.out.trans (Hb2.out.mono Hbw.out.size)
set_option maxRecDepth 100000 in
set_option maxHeartbeats 2000000 in
theorem aRight_2 (fn op num : Int) (metric : ByteArray) (mats : List Mat) (span : Int) (names : List ByteArray) (kn : Nat) (vm vn : Value) (pk : Option Addr) (ck n : Nat) (w : World) (hn : n ≤ w.heap.size)
    (hs : metric.size ≤ maxLen) (hm : IsMats n w vm mats) (hna : IsStrs n w vn names) (hkn : kn ≤ 9223372036854775807) :
    Calls Try.prog 47 #[.agg #[.int .i64 2, .int .i64 fn, .int .i64 op, .int .i64 num, .string metric, vm, .int .i64 span, vn, .slice pk kn ck]] w
      fun e w' => e = .returned (.bool (rightH (hasOf 2) kn fn op num metric mats span names)) ∧ Below w.heap.size w w' := by
  obtain ⟨pm, cm, rfl, _, _, hlm⟩ := hm.open
  obtain ⟨pn, cn, rfl, _, _, hln⟩ := hna.open
  unfold maxLen at hlm hln
  have hK : ∀ w : World, Calls Try.prog 62 #[.int .i64 2] w fun e w' => e = .returned (.tuple #[.agg (hasOf 2).cells.toArray, .bool true]) ∧ Below w.heap.size w w' := fun w => aKind 2 w
  simp only [hasOf, Has.cells] at hK
  have HK := Lib.hid hK; clear hK
  go_enter Try.func47, Try.ntmps47; (try simp only [List.append_eq, List.cons_append, List.nil_append])
  go_upto_region 2 with (go_at_call 62; refine (HK.out _).mono ?_; rintro e w1 ⟨rfl, hb1⟩; have Hb1 := Lib.hid hb1; clear hb1)
  have hbe : Box (w1.alloc (.cells (hasOf 2).cells.toArray 101)) w.heap.size [.int .i64 2, .int .i64 fn, .int .i64 op, .int .i64 num, .string metric, .slice pm mats.length cm, .int .i64 span, .slice pn names.length cn, .slice pk kn ck] :=
    ((Box.new w _ 45).keep Hb1.out).keep ((Below.refl _ _).alloc (Nat.le_refl _) _)
  have hbh : Box (w1.alloc (.cells (hasOf 2).cells.toArray 101)) w1.heap.size (hasOf 2).cells := Box.new w1 _ _
  have hbw : Below w.heap.size w (w1.alloc (.cells (hasOf 2).cells.toArray 101)) :=
    (((Below.refl _ _).alloc (Nat.le_refl _) _).trans (Hb1.out.mono (by simp))).alloc (by have := Hb1.out.size; simp at this; omega) _
  simp only [hasOf, Has.cells] at hbe hbh hbw
  revert hbe hbh hbw
  simp only [Int.reduceEq, if_true, if_false]
  generalize w1.heap.size = B
  generalize w1.alloc _ = W
  intro hbe hbh hbw
  have hnW : n ≤ W.heap.size := Nat.le_trans hn hbw.size
  have Hmm := Lib.hid (hm.mono (hbw.mono hn) (Nat.le_refl _))
  have Hnn := Lib.hid (hna.mono (hbw.mono hn) (Nat.le_refl _))
  clear hm hna Hb1
  have Hbe := Lib.hid hbe; clear hbe
  have Hbh := Lib.hid hbh; clear hbh
  have Hbw := Lib.hid hbw; clear hbw
  have c1 := Hbe.out.2 1 _ rfl
  have c2 := Hbe.out.2 2 _ rfl
  have c3 := Hbe.out.2 3 _ rfl
  have c4 := Hbe.out.2 4 _ rfl
  have c5 := Hbe.out.2 5 _ rfl
  have c6 := Hbe.out.2 6 _ rfl
  have c7 := Hbe.out.2 7 _ rfl
  have c8 := Hbe.out.2 8 _ rfl
  have h0 := Hbh.out.2 0 _ rfl
  have h1 := Hbh.out.2 1 _ rfl
  have h2 := Hbh.out.2 2 _ rfl
  have h3 := Hbh.out.2 3 _ rfl
  have h4 := Hbh.out.2 4 _ rfl
  have h5 := Hbh.out.2 5 _ rfl
  have h6 := Hbh.out.2 6 _ rfl
  have h7 := Hbh.out.2 7 _ rfl
  go_wp2_with (first
    | (go_at_call 63; refine (aNames _ _ n _ hnW Hnn.out).mono ?_; rintro e wx ⟨rfl, rfl⟩)
    | (go_at_call 38; refine (lName _ _ hs).mono ?_; rintro e wx ⟨rfl, rfl⟩)
    | (go_at_call 64; refine (aSpan _ _).mono ?_; rintro e wx ⟨rfl, rfl⟩)
    | (go_at_call 52; refine (lCheckMatch _ _ n _ hnW Hmm.out).mono ?_; rintro e w2 ⟨rfl, hb2⟩; have x6 := (Hbe.out.keep hb2).2 6 _ rfl; have y6 := (Hbh.out.keep hb2).2 6 _ rfl; have y7 := (Hbh.out.keep hb2).2 7 _ rfl; have Hb2 := Lib.hid hb2; clear hb2))
  all_goals (try simp only [Bool.not_eq_true', Bool.not_eq_false', Bool.not_true, Bool.not_false, Bool.not_eq_true, Bool.not_eq_false, beq_iff_eq, beq_eq_false_iff_ne, bne_iff_ne, ne_eq, bne_eq_false_iff_eq, decide_eq_true_eq, decide_eq_false_iff_not, toList_inj] at *)
  all_goals go_ret
  all_goals refine ⟨ret_bool ?_, ?_⟩
  all_goals first
    | (rw [Bool.eq_iff_iff, rightH_2]
       first
         | omega
         | (simp_all; done)
         | (simp_all; omega)
         | (refine ⟨fun h => ?_, fun h => ?_⟩
            · cases h
            · exfalso; omega))
    | exact Hbw.out
    | exact Hbw.out.trans (Hb2.out.mono Hbw.out.size)
set_option maxRecDepth 100000 in
set_option maxHeartbeats 2000000 in
theorem aRight_3 (fn op num : Int) (metric : ByteArray) (mats : List Mat) (span : Int) (names : List ByteArray) (kn : Nat) (vm vn : Value) (pk : Option Addr) (ck n : Nat) (w : World) (hn : n ≤ w.heap.size)
    (hs : metric.size ≤ maxLen) (hm : IsMats n w vm mats) (hna : IsStrs n w vn names) (hkn : kn ≤ 9223372036854775807) :
    Calls Try.prog 47 #[.agg #[.int .i64 3, .int .i64 fn, .int .i64 op, .int .i64 num, .string metric, vm, .int .i64 span, vn, .slice pk kn ck]] w
      fun e w' => e = .returned (.bool (rightH (hasOf 3) kn fn op num metric mats span names)) ∧ Below w.heap.size w w' := by
  obtain ⟨pm, cm, rfl, _, _, hlm⟩ := hm.open
  obtain ⟨pn, cn, rfl, _, _, hln⟩ := hna.open
  unfold maxLen at hlm hln
  have hK : ∀ w : World, Calls Try.prog 62 #[.int .i64 3] w fun e w' => e = .returned (.tuple #[.agg (hasOf 3).cells.toArray, .bool true]) ∧ Below w.heap.size w w' := fun w => aKind 3 w
  simp only [hasOf, Has.cells] at hK
  have HK := Lib.hid hK; clear hK
  go_enter Try.func47, Try.ntmps47; (try simp only [List.append_eq, List.cons_append, List.nil_append])
  go_upto_region 2 with (go_at_call 62; refine (HK.out _).mono ?_; rintro e w1 ⟨rfl, hb1⟩; have Hb1 := Lib.hid hb1; clear hb1)
  have hbe : Box (w1.alloc (.cells (hasOf 3).cells.toArray 101)) w.heap.size [.int .i64 3, .int .i64 fn, .int .i64 op, .int .i64 num, .string metric, .slice pm mats.length cm, .int .i64 span, .slice pn names.length cn, .slice pk kn ck] :=
    ((Box.new w _ 45).keep Hb1.out).keep ((Below.refl _ _).alloc (Nat.le_refl _) _)
  have hbh : Box (w1.alloc (.cells (hasOf 3).cells.toArray 101)) w1.heap.size (hasOf 3).cells := Box.new w1 _ _
  have hbw : Below w.heap.size w (w1.alloc (.cells (hasOf 3).cells.toArray 101)) :=
    (((Below.refl _ _).alloc (Nat.le_refl _) _).trans (Hb1.out.mono (by simp))).alloc (by have := Hb1.out.size; simp at this; omega) _
  simp only [hasOf, Has.cells] at hbe hbh hbw
  revert hbe hbh hbw
  simp only [Int.reduceEq, if_true, if_false]
  generalize w1.heap.size = B
  generalize w1.alloc _ = W
  intro hbe hbh hbw
  have hnW : n ≤ W.heap.size := Nat.le_trans hn hbw.size
  have Hmm := Lib.hid (hm.mono (hbw.mono hn) (Nat.le_refl _))
  have Hnn := Lib.hid (hna.mono (hbw.mono hn) (Nat.le_refl _))
  clear hm hna Hb1
  have Hbe := Lib.hid hbe; clear hbe
  have Hbh := Lib.hid hbh; clear hbh
  have Hbw := Lib.hid hbw; clear hbw
  have c1 := Hbe.out.2 1 _ rfl
  have c2 := Hbe.out.2 2 _ rfl
  have c3 := Hbe.out.2 3 _ rfl
  have c4 := Hbe.out.2 4 _ rfl
  have c5 := Hbe.out.2 5 _ rfl
  have c6 := Hbe.out.2 6 _ rfl
  have c7 := Hbe.out.2 7 _ rfl
  have c8 := Hbe.out.2 8 _ rfl
  have h0 := Hbh.out.2 0 _ rfl
  have h1 := Hbh.out.2 1 _ rfl
  have h2 := Hbh.out.2 2 _ rfl
  have h3 := Hbh.out.2 3 _ rfl
  have h4 := Hbh.out.2 4 _ rfl
  have h5 := Hbh.out.2 5 _ rfl
  have h6 := Hbh.out.2 6 _ rfl
  have h7 := Hbh.out.2 7 _ rfl
  go_wp2_with (first
    | (go_at_call 63; refine (aNames _ _ n _ hnW Hnn.out).mono ?_; rintro e wx ⟨rfl, rfl⟩)
    | (go_at_call 38; refine (lName _ _ hs).mono ?_; rintro e wx ⟨rfl, rfl⟩)
    | (go_at_call 64; refine (aSpan _ _).mono ?_; rintro e wx ⟨rfl, rfl⟩)
    | (go_at_call 52; refine (lCheckMatch _ _ n _ hnW Hmm.out).mono ?_; rintro e w2 ⟨rfl, hb2⟩; have x6 := (Hbe.out.keep hb2).2 6 _ rfl; have y6 := (Hbh.out.keep hb2).2 6 _ rfl; have y7 := (Hbh.out.keep hb2).2 7 _ rfl; have Hb2 := Lib.hid hb2; clear hb2))
  all_goals (try simp only [Bool.not_eq_true', Bool.not_eq_false', Bool.not_true, Bool.not_false, Bool.not_eq_true, Bool.not_eq_false, beq_iff_eq, beq_eq_false_iff_ne, bne_iff_ne, ne_eq, bne_eq_false_iff_eq, decide_eq_true_eq, decide_eq_false_iff_not, toList_inj] at *)
  all_goals go_ret
  all_goals refine ⟨ret_bool ?_, ?_⟩
  all_goals first
    | (rw [Bool.eq_iff_iff, rightH_3]
       first
         | omega
         | (simp_all; done)
         | (simp_all; omega)
         | (refine ⟨fun h => ?_, fun h => ?_⟩
            · cases h
            · exfalso; omega))
    | exact Hbw.out
    | exact Hbw.out.trans (Hb2.out.mono Hbw.out.size)
set_option maxRecDepth 100000 in
set_option maxHeartbeats 2000000 in
theorem aRight_4 (fn op num : Int) (metric : ByteArray) (mats : List Mat) (span : Int) (names : List ByteArray) (kn : Nat) (vm vn : Value) (pk : Option Addr) (ck n : Nat) (w : World) (hn : n ≤ w.heap.size)
    (hs : metric.size ≤ maxLen) (hm : IsMats n w vm mats) (hna : IsStrs n w vn names) (hkn : kn ≤ 9223372036854775807) :
    Calls Try.prog 47 #[.agg #[.int .i64 4, .int .i64 fn, .int .i64 op, .int .i64 num, .string metric, vm, .int .i64 span, vn, .slice pk kn ck]] w
      fun e w' => e = .returned (.bool (rightH (hasOf 4) kn fn op num metric mats span names)) ∧ Below w.heap.size w w' := by
  obtain ⟨pm, cm, rfl, _, _, hlm⟩ := hm.open
  obtain ⟨pn, cn, rfl, _, _, hln⟩ := hna.open
  unfold maxLen at hlm hln
  have hK : ∀ w : World, Calls Try.prog 62 #[.int .i64 4] w fun e w' => e = .returned (.tuple #[.agg (hasOf 4).cells.toArray, .bool true]) ∧ Below w.heap.size w w' := fun w => aKind 4 w
  simp only [hasOf, Has.cells] at hK
  have HK := Lib.hid hK; clear hK
  go_enter Try.func47, Try.ntmps47; (try simp only [List.append_eq, List.cons_append, List.nil_append])
  go_upto_region 2 with (go_at_call 62; refine (HK.out _).mono ?_; rintro e w1 ⟨rfl, hb1⟩; have Hb1 := Lib.hid hb1; clear hb1)
  have hbe : Box (w1.alloc (.cells (hasOf 4).cells.toArray 101)) w.heap.size [.int .i64 4, .int .i64 fn, .int .i64 op, .int .i64 num, .string metric, .slice pm mats.length cm, .int .i64 span, .slice pn names.length cn, .slice pk kn ck] :=
    ((Box.new w _ 45).keep Hb1.out).keep ((Below.refl _ _).alloc (Nat.le_refl _) _)
  have hbh : Box (w1.alloc (.cells (hasOf 4).cells.toArray 101)) w1.heap.size (hasOf 4).cells := Box.new w1 _ _
  have hbw : Below w.heap.size w (w1.alloc (.cells (hasOf 4).cells.toArray 101)) :=
    (((Below.refl _ _).alloc (Nat.le_refl _) _).trans (Hb1.out.mono (by simp))).alloc (by have := Hb1.out.size; simp at this; omega) _
  simp only [hasOf, Has.cells] at hbe hbh hbw
  revert hbe hbh hbw
  simp only [Int.reduceEq, if_true, if_false]
  generalize w1.heap.size = B
  generalize w1.alloc _ = W
  intro hbe hbh hbw
  have hnW : n ≤ W.heap.size := Nat.le_trans hn hbw.size
  have Hmm := Lib.hid (hm.mono (hbw.mono hn) (Nat.le_refl _))
  have Hnn := Lib.hid (hna.mono (hbw.mono hn) (Nat.le_refl _))
  clear hm hna Hb1
  have Hbe := Lib.hid hbe; clear hbe
  have Hbh := Lib.hid hbh; clear hbh
  have Hbw := Lib.hid hbw; clear hbw
  have c1 := Hbe.out.2 1 _ rfl
  have c2 := Hbe.out.2 2 _ rfl
  have c3 := Hbe.out.2 3 _ rfl
  have c4 := Hbe.out.2 4 _ rfl
  have c5 := Hbe.out.2 5 _ rfl
  have c6 := Hbe.out.2 6 _ rfl
  have c7 := Hbe.out.2 7 _ rfl
  have c8 := Hbe.out.2 8 _ rfl
  have h0 := Hbh.out.2 0 _ rfl
  have h1 := Hbh.out.2 1 _ rfl
  have h2 := Hbh.out.2 2 _ rfl
  have h3 := Hbh.out.2 3 _ rfl
  have h4 := Hbh.out.2 4 _ rfl
  have h5 := Hbh.out.2 5 _ rfl
  have h6 := Hbh.out.2 6 _ rfl
  have h7 := Hbh.out.2 7 _ rfl
  go_wp2_with (first
    | (go_at_call 63; refine (aNames _ _ n _ hnW Hnn.out).mono ?_; rintro e wx ⟨rfl, rfl⟩)
    | (go_at_call 38; refine (lName _ _ hs).mono ?_; rintro e wx ⟨rfl, rfl⟩)
    | (go_at_call 64; refine (aSpan _ _).mono ?_; rintro e wx ⟨rfl, rfl⟩)
    | (go_at_call 52; refine (lCheckMatch _ _ n _ hnW Hmm.out).mono ?_; rintro e w2 ⟨rfl, hb2⟩; have x6 := (Hbe.out.keep hb2).2 6 _ rfl; have y6 := (Hbh.out.keep hb2).2 6 _ rfl; have y7 := (Hbh.out.keep hb2).2 7 _ rfl; have Hb2 := Lib.hid hb2; clear hb2))
  all_goals (try simp only [Bool.not_eq_true', Bool.not_eq_false', Bool.not_true, Bool.not_false, Bool.not_eq_true, Bool.not_eq_false, beq_iff_eq, beq_eq_false_iff_ne, bne_iff_ne, ne_eq, bne_eq_false_iff_eq, decide_eq_true_eq, decide_eq_false_iff_not, toList_inj] at *)
  all_goals go_ret
  all_goals refine ⟨ret_bool ?_, ?_⟩
  all_goals first
    | (rw [Bool.eq_iff_iff, rightH_4]
       first
         | omega
         | (simp_all; done)
         | (simp_all; omega)
         | (refine ⟨fun h => ?_, fun h => ?_⟩
            · cases h
            · exfalso; omega))
    | exact Hbw.out
    | exact Hbw.out.trans (Hb2.out.mono Hbw.out.size)
set_option maxRecDepth 100000 in
set_option maxHeartbeats 2000000 in
theorem aRight_5 (fn op num : Int) (metric : ByteArray) (mats : List Mat) (span : Int) (names : List ByteArray) (kn : Nat) (vm vn : Value) (pk : Option Addr) (ck n : Nat) (w : World) (hn : n ≤ w.heap.size)
    (hs : metric.size ≤ maxLen) (hm : IsMats n w vm mats) (hna : IsStrs n w vn names) (hkn : kn ≤ 9223372036854775807) :
    Calls Try.prog 47 #[.agg #[.int .i64 5, .int .i64 fn, .int .i64 op, .int .i64 num, .string metric, vm, .int .i64 span, vn, .slice pk kn ck]] w
      fun e w' => e = .returned (.bool (rightH (hasOf 5) kn fn op num metric mats span names)) ∧ Below w.heap.size w w' := by
  obtain ⟨pm, cm, rfl, _, _, hlm⟩ := hm.open
  obtain ⟨pn, cn, rfl, _, _, hln⟩ := hna.open
  unfold maxLen at hlm hln
  have hK : ∀ w : World, Calls Try.prog 62 #[.int .i64 5] w fun e w' => e = .returned (.tuple #[.agg (hasOf 5).cells.toArray, .bool true]) ∧ Below w.heap.size w w' := fun w => aKind 5 w
  simp only [hasOf, Has.cells] at hK
  have HK := Lib.hid hK; clear hK
  go_enter Try.func47, Try.ntmps47; (try simp only [List.append_eq, List.cons_append, List.nil_append])
  go_upto_region 2 with (go_at_call 62; refine (HK.out _).mono ?_; rintro e w1 ⟨rfl, hb1⟩; have Hb1 := Lib.hid hb1; clear hb1)
  have hbe : Box (w1.alloc (.cells (hasOf 5).cells.toArray 101)) w.heap.size [.int .i64 5, .int .i64 fn, .int .i64 op, .int .i64 num, .string metric, .slice pm mats.length cm, .int .i64 span, .slice pn names.length cn, .slice pk kn ck] :=
    ((Box.new w _ 45).keep Hb1.out).keep ((Below.refl _ _).alloc (Nat.le_refl _) _)
  have hbh : Box (w1.alloc (.cells (hasOf 5).cells.toArray 101)) w1.heap.size (hasOf 5).cells := Box.new w1 _ _
  have hbw : Below w.heap.size w (w1.alloc (.cells (hasOf 5).cells.toArray 101)) :=
    (((Below.refl _ _).alloc (Nat.le_refl _) _).trans (Hb1.out.mono (by simp))).alloc (by have := Hb1.out.size; simp at this; omega) _
  simp only [hasOf, Has.cells] at hbe hbh hbw
  revert hbe hbh hbw
  simp only [Int.reduceEq, if_true, if_false]
  generalize w1.heap.size = B
  generalize w1.alloc _ = W
  intro hbe hbh hbw
  have hnW : n ≤ W.heap.size := Nat.le_trans hn hbw.size
  have Hmm := Lib.hid (hm.mono (hbw.mono hn) (Nat.le_refl _))
  have Hnn := Lib.hid (hna.mono (hbw.mono hn) (Nat.le_refl _))
  clear hm hna Hb1
  have Hbe := Lib.hid hbe; clear hbe
  have Hbh := Lib.hid hbh; clear hbh
  have Hbw := Lib.hid hbw; clear hbw
  have c1 := Hbe.out.2 1 _ rfl
  have c2 := Hbe.out.2 2 _ rfl
  have c3 := Hbe.out.2 3 _ rfl
  have c4 := Hbe.out.2 4 _ rfl
  have c5 := Hbe.out.2 5 _ rfl
  have c6 := Hbe.out.2 6 _ rfl
  have c7 := Hbe.out.2 7 _ rfl
  have c8 := Hbe.out.2 8 _ rfl
  have h0 := Hbh.out.2 0 _ rfl
  have h1 := Hbh.out.2 1 _ rfl
  have h2 := Hbh.out.2 2 _ rfl
  have h3 := Hbh.out.2 3 _ rfl
  have h4 := Hbh.out.2 4 _ rfl
  have h5 := Hbh.out.2 5 _ rfl
  have h6 := Hbh.out.2 6 _ rfl
  have h7 := Hbh.out.2 7 _ rfl
  go_wp2_with (first
    | (go_at_call 63; refine (aNames _ _ n _ hnW Hnn.out).mono ?_; rintro e wx ⟨rfl, rfl⟩)
    | (go_at_call 38; refine (lName _ _ hs).mono ?_; rintro e wx ⟨rfl, rfl⟩)
    | (go_at_call 64; refine (aSpan _ _).mono ?_; rintro e wx ⟨rfl, rfl⟩)
    | (go_at_call 52; refine (lCheckMatch _ _ n _ hnW Hmm.out).mono ?_; rintro e w2 ⟨rfl, hb2⟩; have x6 := (Hbe.out.keep hb2).2 6 _ rfl; have y6 := (Hbh.out.keep hb2).2 6 _ rfl; have y7 := (Hbh.out.keep hb2).2 7 _ rfl; have Hb2 := Lib.hid hb2; clear hb2))
  all_goals (try simp only [Bool.not_eq_true', Bool.not_eq_false', Bool.not_true, Bool.not_false, Bool.not_eq_true, Bool.not_eq_false, beq_iff_eq, beq_eq_false_iff_ne, bne_iff_ne, ne_eq, bne_eq_false_iff_eq, decide_eq_true_eq, decide_eq_false_iff_not, toList_inj] at *)
  all_goals go_ret
  all_goals refine ⟨ret_bool ?_, ?_⟩
  all_goals first
    | (rw [Bool.eq_iff_iff, rightH_5]
       first
         | omega
         | (simp_all; done)
         | (simp_all; omega)
         | (refine ⟨fun h => ?_, fun h => ?_⟩
            · cases h
            · exfalso; omega))
    | exact Hbw.out
    | exact Hbw.out.trans (Hb2.out.mono Hbw.out.size)

set_option maxRecDepth 100000 in
set_option maxHeartbeats 2000000 in
theorem aRight (e : Ex) (cs : List Value) (n : Nat) (w : World) (hn : n ≤ w.heap.size) (he : IsEx n w e cs) :
    Calls Try.prog 47 #[.agg cs.toArray] w fun e' w' => e' = .returned (.bool (rightB e)) ∧ Below w.heap.size w w' := by
  cases he with
  | @mk kind fn op num metric mats span names kids vm vn vk rows hs hm hna hk hl hr =>
    obtain ⟨pk, ck, rfl, _, _⟩ := hk
    rw [hl]
    have hkl : kids.length ≤ 9223372036854775807 := by unfold maxLen at *; omega
    simp only [rightB, Ex.kind, Ex.kids, Ex.fn, Ex.op, Ex.num, Ex.metric, Ex.mats, Ex.span, Ex.names]
    by_cases hok : 1 ≤ kind ∧ kind ≤ 5
    · have hkk : kind = 1 ∨ kind = 2 ∨ kind = 3 ∨ kind = 4 ∨ kind = 5 := by omega
      rw [show kindOk kind = true from decide_eq_true hok, Bool.true_and]
      rcases hkk with rfl | rfl | rfl | rfl | rfl
      · exact aRight_1 fn op num metric mats span names kids.length vm vn pk ck n w hn hs hm hna hkl
      · exact aRight_2 fn op num metric mats span names kids.length vm vn pk ck n w hn hs hm hna hkl
      · exact aRight_3 fn op num metric mats span names kids.length vm vn pk ck n w hn hs hm hna hkl
      · exact aRight_4 fn op num metric mats span names kids.length vm vn pk ck n w hn hs hm hna hkl
      · exact aRight_5 fn op num metric mats span names kids.length vm vn pk ck n w hn hs hm hna hkl
    · have hz : kindOk kind = false := decide_eq_false hok
      rw [hz, Bool.false_and]
      have hK := fun w => aKind kind w
      generalize hasOf kind = H at hK
      rw [hz] at hK
      simp only [Has.cells] at hK
      have HK := Lib.hid hK; clear hK
      clear hz hok
      go_enter Try.func47, Try.ntmps47; (try simp only [List.append_eq, List.cons_append, List.nil_append])
      go_wp2_with (go_at_call 62; refine (HK.out _).mono ?_; rintro e w1 ⟨rfl, hb1⟩; have Hb1 := Lib.hid hb1; clear hb1)
      go_ret
      exact ⟨rfl, (((Below.refl _ _).alloc (Nat.le_refl _) _).trans (Hb1.out.mono (by simp))).alloc (by have := Hb1.out.size; simp at this; omega) _⟩

end Go.Proofs.Ytkheeiipkdeihaa
