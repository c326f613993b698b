/- waterwheelkit on expressions: Match, Texts, Win, Pick, weigh, short, LightExpr. -/
import Derived.Test.YtdjdikiimhhjpaaGreatDoorK0
import Derived.Test.YtdjdikiimhhjpaaGreatDoorProg
import Derived.Deep.QuietTactic
import Derived.BigQuiet
set_option maxRecDepth 100000
set_option maxHeartbeats 16000000
namespace Go.Proofs.YtdjdikiimhhjpaaGreatDoor
open Go.RowKit
set_option linter.unusedSimpArgs false
set_option linter.unusedVariables false
theorem eq_of_upto {α : Type} [DecidableEq α] {a b : List α} (hl : a.length = b.length) (h : a.take a.length = b.take a.length) : a = b := by
  rwa [List.take_of_length_le (Nat.le_refl _), List.take_of_length_le (by omega)] at h
theorem take_eq_step {α : Type} {a b : List α} {k : Nat} (h : a.take k = b.take k) (ha : k < a.length) (hb : k < b.length) (he : a[k] = b[k]) : a.take (k + 1) = b.take (k + 1) := by
  rw [List.take_succ_eq_append_getElem ha, List.take_succ_eq_append_getElem hb, h, he]
theorem ne_of_at {α : Type} {a b : List α} {k : Nat} (ha : k < a.length) (hb : k < b.length) (he : ¬ a[k] = b[k]) : ¬ a = b := by
  intro e; subst e; exact he rfl
theorem mat_ext {a b : Mat} (h1 : a.kind = b.kind) (h2 : a.name = b.name) (h3 : a.text = b.text) : a = b := by
  cases a; cases b; simp_all
theorem matNe (a b : Mat) (w : World) :
    (binOp BinOp.neq 77 (.agg #[.int .i64 a.kind, .string a.name, .string a.text]) (.agg #[.int .i64 b.kind, .string b.name, .string b.text])).run Tryz.prog w = .ok (.bool (!decide (a = b))) w := by
  rw [run_neq_struct]
  have h : (Op.equalIn 10000 77 (.agg #[.int .i64 a.kind, .string a.name, .string a.text]) (.agg #[.int .i64 b.kind, .string b.name, .string b.text])).run Tryz.prog w = .ok (decide (a = b)) w := by
    by_cases h1 : a.kind = b.kind
    · by_cases h2 : a.name = b.name
      · by_cases h3 : a.text = b.text
        · rw [decide_eq_true (mat_ext h1 h2 h3)]
          simp [go_sem, h1, h2, h3]
        · rw [decide_eq_false (fun e => h3 (by rw [e]))]
          have h3' : (a.text == b.text) = false := by rw [beq_ba]; exact decide_eq_false h3
          simp [go_sem, h1, h2, h3', ← beq_toListBytes]
      · rw [decide_eq_false (fun e => h2 (by rw [e]))]
        have h2' : (a.name == b.name) = false := by rw [beq_ba]; exact decide_eq_false h2
        simp [go_sem, h1, h2', ← beq_toListBytes]
    · rw [decide_eq_false (fun e => h1 (by rw [e]))]
      simp [go_sem, h1]
  rw [h]; rfl
theorem kMatch (la lb : List Mat) (va vb : Value) (n : Nat) (w : World) (hn : n ≤ w.heap.size) (ha : IsMats n w va la) (hb : IsMats n w vb lb) :
    Calls Tryz.prog 33 #[va, vb] w fun e w' => e = .returned (.bool (decide (la = lb))) ∧ Below w.heap.size w w' := by
  obtain ⟨p, cap, rfl, _, _, hla⟩ := ha.open
  obtain ⟨q, cbp, rfl, _, _, hlb⟩ := hb.open
  unfold maxLen at hla hlb
  go_enter Tryz.func33, Tryz.ntmps33
  by_cases hl : la.length = lb.length
  · have Hl := Lib.hid hl; clear hl
    have hl : ((la.length : Int) != (lb.length : Int)) = false := by simp [Hl.out]
    go_wp2
    go_loopw [5] (fun i wr => ∃ k : Nat, k ≤ la.length ∧ i = .int .i64 k ∧ la.take k = lb.take k ∧ Below w.heap.size w wr) (fun i _ => la.length - (intOf i).toNat)
    case atStart => exact ⟨0, Nat.zero_le _, rfl, by simp, Below.refl _ _⟩
    case round =>
      obtain ⟨k, hk, rfl, hr, hbl⟩ := hrel; have Hr := Lib.hid hr; clear hr; have Hb := Lib.hid hbl; clear hbl
      by_cases hlt : k < la.length
      · have hltb : k < lb.length := by have := Hl.out; omega
        obtain ⟨b, off, rfl, hbn, h1, h2, h3, hs1, hs2⟩ := (ha.mono (Hb.out.mono hn) (Nat.le_refl _)).get hlt; obtain ⟨b', off', rfl, hbn', h1', h2', h3', hs1', hs2'⟩ := (hb.mono (Hb.out.mono hn) (Nat.le_refl _)).get hltb; have Ha := Lib.hid ha; clear ha; have Hbb := Lib.hid hb; clear hb; have hne := fun w => matNe la[k] lb[k] w
        go_wp2
        go_quiet (fail)
        go_wp2
        all_goals (try simp only [Bool.not_eq_true', Bool.not_eq_false', Bool.not_true, Bool.not_false, Bool.not_eq_true, Bool.not_eq_false, beq_iff_eq, beq_eq_false_iff_ne, bne_iff_ne, ne_eq, bne_eq_false_iff_eq, decide_eq_true_eq, decide_eq_false_iff_not, toList_inj] at *)
        · go_ret
          refine ⟨ret_bool (Eq.symm (decide_eq_false (ne_of_at hlt hltb ?_))), below_drewN Hb.out _⟩
          assumption
        · refine ⟨⟨k + 1, by omega, by go_num, take_eq_step Hr.out hlt hltb ?_, below_drewN Hb.out _⟩, by simp [intOf]; omega⟩
          assumption
      · go_wp2
        go_ret; refine ⟨ret_bool (Eq.symm (decide_eq_true ?_)), Hb.out⟩; have hk' : k = la.length := by omega
        subst hk'; exact eq_of_upto Hl.out Hr.out
  · have hl' : ((la.length : Int) != (lb.length : Int)) = true := by simp; omega
    go_wp2; go_ret; exact ⟨ret_bool (Eq.symm (decide_eq_false (fun e => hl (by rw [e])))), Below.refl _ _⟩
theorem kTexts (la lb : List ByteArray) (va vb : Value) (n : Nat) (w : World) (hn : n ≤ w.heap.size) (ha : IsStrs n w va la) (hb : IsStrs n w vb lb) :
    Calls Tryz.prog 34 #[va, vb] w fun e w' => e = .returned (.bool (decide (la = lb))) ∧ Below w.heap.size w w' := by
  obtain ⟨p, cap, rfl, _, _, hla⟩ := ha.open
  obtain ⟨q, cbp, rfl, _, _, hlb⟩ := hb.open
  unfold maxLen at hla hlb
  go_enter Tryz.func34, Tryz.ntmps34
  by_cases hl : la.length = lb.length
  · have Hl := Lib.hid hl; clear hl
    have hl : ((la.length : Int) != (lb.length : Int)) = false := by simp [Hl.out]
    go_wp2
    go_loopw [5] (fun i wr => ∃ k : Nat, k ≤ la.length ∧ i = .int .i64 k ∧ la.take k = lb.take k ∧ Below w.heap.size w wr) (fun i _ => la.length - (intOf i).toNat)
    case atStart => exact ⟨0, Nat.zero_le _, rfl, by simp, Below.refl _ _⟩
    case round =>
      obtain ⟨k, hk, rfl, hr, hbl⟩ := hrel; have Hr := Lib.hid hr; clear hr; have Hb := Lib.hid hbl; clear hbl
      by_cases hlt : k < la.length
      · have hltb : k < lb.length := by have := Hl.out; omega
        obtain ⟨b, off, rfl, hbn, h1, hs1⟩ := (ha.mono (Hb.out.mono hn) (Nat.le_refl _)).get hlt; obtain ⟨b', off', rfl, hbn', h1', hs1'⟩ := (hb.mono (Hb.out.mono hn) (Nat.le_refl _)).get hltb; have Ha := Lib.hid ha; clear ha; have Hbb := Lib.hid hb; clear hb; go_wp2
        go_quiet (fail)
        go_wp2
        all_goals (try simp only [Bool.not_eq_true', Bool.not_eq_false', Bool.not_true, Bool.not_false, Bool.not_eq_true, Bool.not_eq_false, beq_iff_eq, beq_eq_false_iff_ne, bne_iff_ne, ne_eq, bne_eq_false_iff_eq, decide_eq_true_eq, decide_eq_false_iff_not, toList_inj] at *)
        · go_ret
          refine ⟨ret_bool (Eq.symm (decide_eq_false (ne_of_at hlt hltb ?_))), below_drewN Hb.out _⟩
          assumption
        · refine ⟨⟨k + 1, by omega, by go_num, take_eq_step Hr.out hlt hltb ?_, below_drewN Hb.out _⟩, by simp [intOf]; omega⟩
          assumption
      · go_wp2
        go_ret; refine ⟨ret_bool (Eq.symm (decide_eq_true ?_)), Hb.out⟩; have hk' : k = la.length := by omega
        subst hk'; exact eq_of_upto Hl.out Hr.out
  · have hl' : ((la.length : Int) != (lb.length : Int)) = true := by simp; omega
    go_wp2; go_ret; exact ⟨ret_bool (Eq.symm (decide_eq_false (fun e => hl (by rw [e])))), Below.refl _ _⟩
def pick (n m : Int) : Int := if n.tmod m < 0 then n.tmod m + m else n.tmod m
theorem pick_bd (a m : Int) (hm : 1 ≤ m) : 0 ≤ pick a m ∧ pick a m < m := by
  have h1 : a.tmod m < m := Int.tmod_lt_of_pos a (by omega)
  have h2 : -m < a.tmod m := by have := Int.lt_tmod_of_pos a (show 0 < m by omega); omega
  unfold pick
  split <;> omega
end Go.Proofs.YtdjdikiimhhjpaaGreatDoor
