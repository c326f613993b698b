/- ast and its reference: Kids, span, names, between. -/
import Derived.Test.YtkheeiipkdeihaaStr
import Derived.Test.YtkheeiipkdeihaaTree2
import Derived.Test.YtkheeiipkdeihaaLabel2
import Derived.Deep.QuietTactic
import Derived.BigQuiet
import Derived.Deep.DeepCutAuto
namespace Go.Proofs.Ytkheeiipkdeihaa
open Go.RowKit
set_option linter.unusedSimpArgs false
set_option linter.unusedVariables false

/-- What expressions of a kind have. -/
structure Has where
  kids : Int
  fn : Int
  op : Int
  opMost : Int
  num : Bool
  names : Bool
  wins : Bool
  spans : Bool
def Has.cells (h : Has) : List Value := [.int .i64 h.kids, .int .i64 h.fn, .int .i64 h.op, .int .i64 h.opMost, .bool h.num, .bool h.names, .bool h.wins, .bool h.spans]
def hasOf (k : Int) : Has :=
  if k = 1 then ⟨0, 6, 0, 0, false, false, true, true⟩ else if k = 2 then ⟨1, 4, 0, 0, false, true, false, false⟩ else if k = 3 then ⟨2, 0, 1, 3, false, true, false, false⟩
  else if k = 4 then ⟨1, 0, 1, 3, true, false, false, false⟩ else if k = 5 then ⟨1, 0, 4, 9, true, false, false, false⟩ else ⟨0, 0, 0, 0, false, false, false, false⟩
def kindOk (k : Int) : Bool := decide (1 ≤ k ∧ k ≤ 5)
/-- How many kids. -/
def kidsOf (k : Int) : Int := if kindOk k then (hasOf k).kids else -1

def tableCells : List Value :=
  [.int .i64 0, .int .i64 0, .int .i64 0, .int .i64 0, .bool false, .bool false, .bool false, .bool false,
   .int .i64 0, .int .i64 6, .int .i64 0, .int .i64 0, .bool false, .bool false, .bool true, .bool true,
   .int .i64 1, .int .i64 4, .int .i64 0, .int .i64 0, .bool false, .bool true, .bool false, .bool false,
   .int .i64 2, .int .i64 0, .int .i64 1, .int .i64 3, .bool false, .bool true, .bool false, .bool false,
   .int .i64 1, .int .i64 0, .int .i64 1, .int .i64 3, .bool true, .bool false, .bool false, .bool false,
   .int .i64 1, .int .i64 0, .int .i64 4, .int .i64 9, .bool true, .bool false, .bool false, .bool false]

set_option maxRecDepth 100000 in
set_option maxHeartbeats 1000000 in
theorem aTable (w : World) : Calls Try.prog 71 #[] w fun e w' => e = .returned (.agg tableCells.toArray) ∧ Below w.heap.size w w' := by
  go_enter Try.func71, Try.ntmps71; (try simp only [List.append_eq, List.cons_append, List.nil_append])
  go_wp2_with (refine wpList_store_new rfl 113 _ _ rfl tableCells.toArray 113 _ rfl rfl (by kernel_rfl) rfl (by kernel_rfl) ?_)
  exact bodyPost_agg (cs := tableCells.toArray) (d := _) rfl rfl (World.alloc_heap_new w _) Try.underlying113 rfl (by kernel_rfl) rfl ⟨rfl, (Below.refl _ _).alloc (Nat.le_refl _) _⟩

set_option maxRecDepth 100000 in
set_option maxHeartbeats 1000000 in
theorem aKind (k : Int) (w : World) : Calls Try.prog 62 #[.int .i64 k] w fun e w' => e = .returned (.tuple #[.agg (hasOf k).cells.toArray, .bool (kindOk k)]) ∧ Below w.heap.size w w' := by
  have hzero : ¬ (1 ≤ k ∧ k ≤ 5) → hasOf k = ⟨0, 0, 0, 0, false, false, false, false⟩ := fun h => by
    unfold hasOf
    rw [if_neg (by omega), if_neg (by omega), if_neg (by omega), if_neg (by omega), if_neg (by omega)]
  by_cases h1 : k < 1
  · rw [hzero (by omega), show kindOk k = false from decide_eq_false (by omega)]
    go_enter Try.func62, Try.ntmps62; (try simp only [List.append_eq, List.cons_append, List.nil_append])
    go_wp2
    exact bodyPost_agg_tmp (d := _) rfl rfl (World.alloc_heap_new w _) Try.underlying101 rfl (by kernel_rfl) rfl ⟨rfl, (Below.refl _ _).alloc (Nat.le_refl _) _⟩
  by_cases h5 : 5 < k
  · rw [hzero (by omega), show kindOk k = false from decide_eq_false (by omega)]
    go_enter Try.func62, Try.ntmps62; (try simp only [List.append_eq, List.cons_append, List.nil_append])
    go_wp2
    exact bodyPost_agg_tmp (d := _) rfl rfl (World.alloc_heap_new w _) Try.underlying101 rfl (by kernel_rfl) rfl ⟨rfl, (Below.refl _ _).alloc (Nat.le_refl _) _⟩
  have hk : k = 1 ∨ k = 2 ∨ k = 3 ∨ k = 4 ∨ k = 5 := by omega
  clear h1 h5 hzero
  have hix : (k = 1 ∨ k = 2 ∨ k = 3 ∨ k = 4 ∨ k = 5) → ∀ wx : World, (Instr.index 113 (.agg tableCells.toArray) (.int .i64 k)).run Try.prog wx = .ok (.agg (hasOf k).cells.toArray) wx := by
    intro hk wx
    rcases hk with rfl | rfl | rfl | rfl | rfl <;> kernel_rfl
  have Hix := Lib.hid (hix hk); clear hix
  have hok : kindOk k = true := decide_eq_true (by omega)
  rw [hok]
  have hk1 : 1 ≤ k := by omega
  have hk5 : k ≤ 5 := by omega
  clear hk hok
  generalize (hasOf k) = H at Hix
  have h2 : ∀ wx : World, (Instr.index 113 (.agg tableCells.toArray) (.int .i64 k)).run Try.prog wx = .ok (.agg #[.int .i64 H.kids, .int .i64 H.fn, .int .i64 H.op, .int .i64 H.opMost, .bool H.num, .bool H.names, .bool H.wins, .bool H.spans]) wx := fun wx => Hix.out wx
  have Htc : ∃ tc, tableCells = tc := ⟨_, rfl⟩
  obtain ⟨tc, htc⟩ := Htc
  have hT := fun wx => aTable wx
  rw [htc] at h2 hT
  have HT := Lib.hid hT; clear hT
  go_enter Try.func62, Try.ntmps62; (try simp only [List.append_eq, List.cons_append, List.nil_append])
  go_wp2_with (first
    | (go_at_call 71; refine (HT.out _).mono ?_; rintro e w1 ⟨rfl, hb1⟩; have hbk := (Blk.new w _ _).keep hb1; have Hbk := Lib.hid hbk; clear hbk; have Hb1 := Lib.hid hb1; clear hb1)
    | (refine wpList_store_row rfl 101 _ _ rfl w.heap.size H.cells.toArray rfl rfl 101 _ Hbk.out (by kernel_rfl) rfl (by kernel_rfl) ?_))

  refine bodyPost_agg_tmp (d := _) rfl rfl (setRow_at Hbk.out _) Try.underlying101 rfl (by kernel_rfl) rfl ?_
  refine ⟨rfl, ?_⟩
  exact below_setRow (((Below.refl _ _).alloc (Nat.le_refl _) _).trans (Hb1.out.mono (by simp))) (Nat.le_refl _) _

/-! ### Kids, span, names -/
theorem aSpan (k : Int) (w : World) : Calls Try.prog 64 #[.int .i64 k] w fun e w' => e = .returned (.bool (decide (1 ≤ k ∧ k ≤ 1073741824))) ∧ w = w' := by
  go_enter Try.func64, Try.ntmps64; (try simp only [List.append_eq, List.cons_append, List.nil_append])
  go_wp2
  all_goals go_ret
  all_goals exact ⟨ret_bool (by simp; omega), rfl⟩

/-- The name at a place may stand there. -/
def nameAt (l : List ByteArray) (i : Nat) : Bool := nameB (l.getD i ByteArray.empty) && sless (lastOf l i) (l.getD i ByteArray.empty)
def namesB (l : List ByteArray) : Bool := upto (nameAt l) l.length && decide (l.length ≤ 8)
theorem getD_at {α : Type} {l : List α} {k : Nat} (h : k < l.length) (d : α) : l.getD k d = l[k] := by rw [List.getD_eq_getElem?_getD]; simp [h]
theorem nameAt_eq {l : List ByteArray} {k : Nat} (h : k < l.length) : nameAt l k = (nameB l[k] && sless (lastOf l k) l[k]) := by unfold nameAt; rw [getD_at h]
theorem nameB_pos {s : ByteArray} (h : nameB s = true) : 1 ≤ s.size := by
  unfold nameB at h; simp only [Bool.and_eq_true, decide_eq_true_eq] at h; exact h.1.1.1
theorem namesB_no {l : List ByteArray} {k : Nat} (hk : k < l.length) (h : nameAt l k = false) : namesB l = false := by
  unfold namesB; rw [upto_not hk h]; rfl

set_option maxRecDepth 100000 in
set_option maxHeartbeats 1000000 in
theorem aNames (l : List ByteArray) (v : Value) (n : Nat) (w : World) (hn : n ≤ w.heap.size) (h : IsStrs n w v l) :
    Calls Try.prog 63 #[v] w fun e w' => e = .returned (.bool (namesB l)) ∧ w = w' := by
  obtain ⟨p, cap, rfl, _, _, hl⟩ := h.open
  unfold maxLen at hl
  go_enter Try.func63, Try.ntmps63; (try simp only [List.append_eq, List.cons_append, List.nil_append])
  go_wp2
  go_loop [3, 8] (fun s i => ∃ k : Nat, k ≤ l.length ∧ i = .int .i64 k ∧ s = .string (lastOf l k) ∧ upto (nameAt l) k = true) (fun _ i => l.length - (intOf i).toNat)
  case atStart => exact ⟨0, Nat.zero_le _, rfl, rfl, rfl⟩
  case round =>
    obtain ⟨k, hk, rfl, rfl, hr⟩ := hrel
    have Hr := Lib.hid hr; clear hr
    by_cases hlt : k < l.length
    · obtain ⟨b, off, rfl, hbn, h1, hs1⟩ := h.get hlt
      have Hh := Lib.hid h; clear h
      have Hat := Lib.hid (nameAt_eq hlt)
      have Hls := Lib.hid (lastOf_succ hlt)
      go_wp2_with (go_at_call 38; refine (lName _ _ hs1).mono ?_; rintro e w' ⟨rfl, rfl⟩)
      · go_ret
        exact ⟨ret_bool (namesB_no hlt (by rw [Hat.out, show nameB l[k] = false by assumption]; rfl)).symm, rfl⟩
      · go_ret
        exact ⟨ret_bool (namesB_no hlt (by rw [Hat.out, sle_true (by assumption)]; simp)).symm, rfl⟩
      · refine ⟨⟨k + 1, by omega, by go_num, by rw [Hls.out], upto_step Hr.out ?_⟩, by simp [intOf]; omega⟩
        rw [Hat.out, show nameB l[k] = true by assumption, sle_false (by assumption)]; rfl
    · go_wp2
      go_ret
      have hk' : k = l.length := by omega
      subst hk'
      exact ⟨ret_bool (by unfold namesB; rw [Hr.out, Bool.true_and]; exact decide_eq_decide.2 (by omega)), rfl⟩

end Go.Proofs.Ytkheeiipkdeihaa
