/- sample.Sort. -/
import Derived.Test.YtgmdlnobajmjfaaDoorSm8
namespace Go.Proofs.YtgmdlnobajmjfaaDoor
open Go.RowKit
set_option linter.unusedSimpArgs false
set_option linter.unusedVariables false

def RiseR (s : List Rs) : Prop := s.Pairwise fun a b => ¬ (orderL b.labs a.labs < 0)
def SortP (l l' : List Rs) (c : Int) : Prop :=
  (4096 < l.length ∧ l' = [] ∧ c = 3) ∨ (l.length ≤ 4096 ∧ anyBad l = true ∧ l' = [] ∧ c = 2) ∨
  (l.length ≤ 4096 ∧ anyBad l = false ∧ ∃ s : List Rs, s.Perm l ∧ RiseR s ∧ ((checkV s = 0 ∧ l' = s ∧ c = 0) ∨ (checkV s ≠ 0 ∧ l' = [] ∧ c = checkV s)))
def SortRes (l : List Rs) (W : World) (e : Ending) (w' : World) : Prop :=
  ∃ (v' : Value) (l' : List Rs) (c : Int), e = .returned (.tuple #[v', .int .i64 c]) ∧ IsRes w'.heap.size w' v' l' ∧ Below W.heap.size W w' ∧ SortP l l' c
theorem good_check {l : List Rs} (h : anyBad l = false) : ∀ r ∈ l, checkL r.labs = 0 := by
  intro r hr
  unfold anyBad at h
  have := List.any_eq_false.1 h r hr
  exact right_check (by simpa using this)
set_option maxHeartbeats 2000000 in
theorem sSort {l : List Rs} {v : Value} {n : Nat} {W : World} (hn : n ≤ W.heap.size) (ha : IsRes n W v l) :
    Calls Tryd.prog 8 #[v] W (SortRes l W) := by
  obtain ⟨p, cap, rfl, hc1, hc2⟩ := ha.open
  unfold maxLen at hc2
  have HA := Lib.hid ha; have HN := Lib.hid hn
  clear ha hn
  obtain ⟨N, hN⟩ : ∃ z, l.length = z := ⟨_, rfl⟩
  rw [hN] at HA hc1 ⊢
  have HNL := Lib.hid hN
  have hN2 : (N : Int) ≤ 9223372036854775807 := by omega
  clear hN
  by_cases h4 : 4096 < N
  · have h4i : (4096 : Int) < (N : Int) := by omega
    go_enter Tryd.func8, Tryd.ntmps8; (try simp only [List.append_eq, List.cons_append, List.nil_append])
    go_wp2
    go_ret2
    exact ⟨_, [], _, rfl, IsRes.nil _ _, Below.refl _ _, .inl ⟨by rw [HNL.out]; exact h4, rfl, rfl⟩⟩
  have h4i : ¬ ((4096 : Int) < (N : Int)) := by omega
  have H4 := Lib.hid (show l.length ≤ 4096 by rw [HNL.out]; omega)
  clear h4
  go_enter Tryd.func8, Tryd.ntmps8; (try simp only [List.append_eq, List.cons_append, List.nil_append])
  go_wp2_with fail
  refine (hasBad HN.out HA.out).mono ?_
  rintro e w1 ⟨rfl, hb1⟩
  have HB1 := Lib.hid hb1
  clear hb1
  obtain ⟨bb, hbb⟩ : ∃ z, anyBad l = z := ⟨_, rfl⟩
  have HBB := Lib.hid hbb
  rw [hbb]
  clear hbb
  cases bb with
  | true =>
    go_wp2
    go_ret2
    exact ⟨_, [], _, rfl, IsRes.nil _ _, HB1.out, .inr (.inl ⟨H4.out, HBB.out, rfl, rfl⟩)⟩
  | false =>
    go_wp2_with fail
    refine (cloneR (Nat.le_trans HN.out HB1.out.size) (HA.out.mono (HB1.out.mono HN.out) (Nat.le_refl _)) (by have := H4.out; omega)).mono ?_
    rintro e w2 ⟨v2, rfl, hown, hb2⟩
    have HO := Lib.hid hown; have HB2 := Lib.hid hb2
    have HB12 := Lib.hid (HB1.out.trans (hb2.mono HB1.out.size))
    clear hown hb2
    go_wp2_with fail
    refine (sSortF (n := n) (base := w1.heap.size) (HB2.out.mono (Nat.le_trans HN.out HB1.out.size)) (Nat.le_trans HN.out HB1.out.size) HO.out (good_check HBB.out) (by have := H4.out; omega)).mono ?_
    rintro e w3 ⟨rfl, s, hperm, hsort, hres, hb3⟩
    have HP := Lib.hid hperm; have HSO := Lib.hid (show RiseR s from hsort); have HR := Lib.hid hres
    have HB3 := Lib.hid (HB1.out.trans ((HB2.out.trans hb3).mono HB1.out.size))
    clear hperm hsort hres hb3
    go_wp2_with fail
    refine (sCheckV (Nat.le_refl _) HR.out).mono ?_
    rintro e w4 ⟨rfl, hb4⟩
    have HB4 := Lib.hid (HB3.out.trans (hb4.mono HB3.out.size))
    have HR4 := Lib.hid (HR.out.mono hb4 hb4.size)
    clear hb4
    obtain ⟨c, hc⟩ : ∃ z, checkV s = z := ⟨_, rfl⟩
    have HC := Lib.hid hc
    rw [hc]
    clear hc
    by_cases h0 : c = 0
    · subst h0
      go_wp2
      go_ret2
      exact ⟨_, s, _, rfl, HR4.out, HB4.out, .inr (.inr ⟨H4.out, HBB.out, s, HP.out, HSO.out, .inl ⟨HC.out, rfl, rfl⟩⟩)⟩
    · have hx : (c != 0) = true := by simp [h0]
      have HZ := Lib.hid h0
      clear h0
      go_wp2
      go_ret2
      exact ⟨_, [], _, rfl, IsRes.nil _ _, HB4.out, .inr (.inr ⟨H4.out, HBB.out, s, HP.out, HSO.out, .inr ⟨by rw [HC.out]; exact HZ.out, rfl, HC.out.symm⟩⟩)⟩
end Go.Proofs.YtgmdlnobajmjfaaDoor
