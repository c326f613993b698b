/- label.part, Only, Without; the kit's Labels, Set, LightTexts. -/
import Derived.Test.YtkheeiipkdeihaaLa6
import Derived.Test.YtkheeiipkdeihaaShelf
import Derived.BigQuiet
namespace Go.Proofs.Ytkheeiipkdeihaa
open Go.RowKit
set_option linter.unusedSimpArgs false
set_option linter.unusedVariables false

theorem two_new (w : World) (x y : Value) (t g : Nat) (hg : g = w.heap.size) : ∀ j u, [x, y][j]? = some u → (w.alloc (.cells #[x, y] t)).cell? ((⟨g, 0, none⟩ : Addr).add j) = some u := by
  intro j u hu
  subst hg
  have e : (⟨w.heap.size, 0, none⟩ : Addr).add j = ⟨w.heap.size, j, none⟩ := by
    unfold Addr.add; split <;> simp
  rw [e, World.cell?_alloc_new]
  match j, hu with
  | 0, hu => simpa using hu
  | 1, hu => simpa using hu
  | j + 2, hu => simp at hu

theorem partL_step {l : List Lab} {names : List ByteArray} {among : Bool} {k : Nat} (hk : k < l.length) : (l.take (k + 1)).filter (fun x => amongB x.name names == among) = (l.take k).filter (fun x => amongB x.name names == among) ++ if amongB l[k].name names == among then [l[k]] else [] := by
  rw [List.take_succ_eq_append_getElem hk, List.filter_append]
  congr 1
  cases h : amongB l[k].name names == among <;> simp [h]

/-- A part of a set. -/
def PartIs (w : World) (l : List Lab) (e : Ending) (w' : World) : Prop := ∃ v', e = .returned v' ∧ OwnL w.heap.size w' v' l ∧ Below w.heap.size w w'
theorem lab_ext {a b : Lab} (h2 : a.name = b.name) (h3 : a.text = b.text) : a = b := by
  cases a; cases b; simp_all
theorem eq_of_upto' {α : Type} {a b : List α} (hl : a.length = b.length) (h : a.take a.length = b.take a.length) : a = b := by
  rwa [List.take_of_length_le (Nat.le_refl _), List.take_of_length_le (by omega)] at h
theorem take_eq_step' {α : Type} {a b : List α} {k : Nat} (h : a.take k = b.take k) (ha : k < a.length) (hb : k < b.length) (he : a[k] = b[k]) : a.take (k + 1) = b.take (k + 1) := by
  rw [List.take_succ_eq_append_getElem ha, List.take_succ_eq_append_getElem hb, h, he]
theorem ne_of_at' {α : Type} {a b : List α} {k : Nat} (ha : k < a.length) (hb : k < b.length) (he : ¬ a[k] = b[k]) : ¬ a = b := by
  intro e; subst e; exact he rfl
theorem labNe (a b : Lab) (w : World) :
    (binOp BinOp.neq 63 (.agg #[.string a.name, .string a.text]) (.agg #[.string b.name, .string b.text])).run Try.prog w = .ok (.bool (!decide (a = b))) w := by
  rw [run_neq_struct]
  have h : (Op.equalIn 10000 63 (.agg #[.string a.name, .string a.text]) (.agg #[.string b.name, .string b.text])).run Try.prog w = .ok (decide (a = b)) w := by
    by_cases h2 : a.name = b.name
    · by_cases h3 : a.text = b.text
      · rw [decide_eq_true (lab_ext h2 h3)]
        simp [go_sem, h2, h3]
      · rw [decide_eq_false (fun e => h3 (by rw [e]))]
        have h3' : (a.text == b.text) = false := by rw [beq_ba]; exact decide_eq_false h3
        simp [go_sem, h2, h3', ← beq_toListBytes]
    · rw [decide_eq_false (fun e => h2 (by rw [e]))]
      have h2' : (a.name == b.name) = false := by rw [beq_ba]; exact decide_eq_false h2
      simp [go_sem, h2', ← beq_toListBytes]
  rw [h]; rfl

set_option maxHeartbeats 400000 in
theorem kLabels (la lb : List Lab) (va vb : Value) (n : Nat) (w : World) (hn : n ≤ w.heap.size) (ha : IsLabs n w va la) (hb : IsLabs n w vb lb) :
    Calls Try.prog 28 #[va, vb] w fun e w' => e = .returned (.bool (decide (la = lb))) ∧ Below w.heap.size w w' := by
  obtain ⟨p, cap, rfl, _, _, hla⟩ := ha.open
  obtain ⟨q, cbp, rfl, _, _, hlb⟩ := hb.open
  unfold maxLen at hla hlb
  go_enter Try.func28, Try.ntmps28
  by_cases hl : la.length = lb.length
  · have Hl := Lib.hid hl; clear hl
    have hl : ((la.length : Int) != (lb.length : Int)) = false := by simp [Hl.out]
    go_wp2
    go_loopw [5] (fun i wr => ∃ k : Nat, k ≤ la.length ∧ i = .int .i64 k ∧ la.take k = lb.take k ∧ Below w.heap.size w wr) (fun i _ => la.length - (intOf i).toNat)
    case atStart => exact ⟨0, Nat.zero_le _, rfl, by simp, Below.refl _ _⟩
    case round =>
      obtain ⟨k, hk, rfl, hr, hbl⟩ := hrel
      have Hr := Lib.hid hr; clear hr
      have Hb := Lib.hid hbl; clear hbl
      by_cases hlt : k < la.length
      · have hltb : k < lb.length := by have := Hl.out; omega
        obtain ⟨b, off, rfl, hbn, h1, h2, hs1, hs2⟩ := (ha.mono (Hb.out.mono hn) (Nat.le_refl _)).get hlt
        obtain ⟨b', off', rfl, hbn', h1', h2', hs1', hs2'⟩ := (hb.mono (Hb.out.mono hn) (Nat.le_refl _)).get hltb
        have Ha := Lib.hid ha; clear ha
        have Hbb := Lib.hid hb; clear hb
        have hne := fun w => labNe la[k] lb[k] w
        go_wp2
        go_quiet (fail)
        go_wp2
        all_goals (try simp only [Bool.not_eq_true', Bool.not_eq_false', Bool.not_true, Bool.not_false, Bool.not_eq_true, Bool.not_eq_false, beq_iff_eq, beq_eq_false_iff_ne, bne_iff_ne, ne_eq, bne_eq_false_iff_eq, decide_eq_true_eq, decide_eq_false_iff_not, toList_inj] at *)
        · go_ret
          refine ⟨ret_bool (Eq.symm (decide_eq_false (ne_of_at' hlt hltb ?_))), below_drewN Hb.out _⟩
          assumption
        · refine ⟨⟨k + 1, by omega, by go_num, take_eq_step' Hr.out hlt hltb ?_, below_drewN Hb.out _⟩, by simp [intOf]; omega⟩
          assumption
      · go_wp2
        go_ret
        refine ⟨ret_bool (Eq.symm (decide_eq_true ?_)), Hb.out⟩
        have hk' : k = la.length := by omega
        subst hk'
        exact eq_of_upto' Hl.out Hr.out
  · have hl' : ((la.length : Int) != (lb.length : Int)) = true := by simp; omega
    go_wp2
    go_ret
    exact ⟨ret_bool (Eq.symm (decide_eq_false (fun e => hl (by rw [e])))), Below.refl _ _⟩

def LightIs (l : List ByteArray) (w : World) (e : Ending) (w' : World) : Prop := ∃ b, e = .returned (.bool b) ∧ (b = true → l.length ≤ 30) ∧ w = w'
end Go.Proofs.Ytkheeiipkdeihaa
