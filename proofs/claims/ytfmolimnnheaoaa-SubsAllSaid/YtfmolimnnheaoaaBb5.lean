/- What is kept above a time: a binary search. -/
import Derived.Test.YtfmolimnnheaoaaBb4
namespace Go.Proofs.Ytfmolimnnheaoaa
open Go.RowKit
set_option linter.unusedSimpArgs false
set_option linter.unusedVariables false
open Go.Maps

theorem bNaN (x : Int) (W : World) : Calls Try.prog 57 #[.int .i64 x] W fun e w' => e = .returned (.bool false) ∧ w' = W := by
  go_enter Try.func57, Try.ntmps57; (try simp only [List.append_eq, List.cons_append, List.nil_append])
  go_wp2
  go_ret
  exact ⟨by simp, rfl⟩
def cmpI (x t : Int) : Int := if x < t then -1 else if t < x then 1 else 0
theorem bCmp (x t : Int) (W : World) : Calls Try.prog 47 #[.int .i64 x, .int .i64 t] W fun e w' => e = .returned (.int .i64 (cmpI x t)) ∧ w' = W := by
  unfold cmpI
  by_cases h1 : x < t
  · rw [if_pos h1]
    go_enter Try.func47, Try.ntmps47; (try simp only [List.append_eq, List.cons_append, List.nil_append])
    go_wp2_with fail
    refine (bNaN x _).mono ?_
    rintro e w1 ⟨rfl, rfl⟩
    go_wp2_with fail
    refine (bNaN t _).mono ?_
    rintro e w1 ⟨rfl, rfl⟩
    go_wp2
    go_ret
    exact ⟨rfl, rfl⟩
  · rw [if_neg h1]
    by_cases h2 : t < x
    · rw [if_pos h2]
      go_enter Try.func47, Try.ntmps47; (try simp only [List.append_eq, List.cons_append, List.nil_append])
      go_wp2_with fail
      refine (bNaN x _).mono ?_
      rintro e w1 ⟨rfl, rfl⟩
      go_wp2_with fail
      refine (bNaN t _).mono ?_
      rintro e w1 ⟨rfl, rfl⟩
      go_wp2
      go_ret
      exact ⟨rfl, rfl⟩
    · rw [if_neg h2]
      go_enter Try.func47, Try.ntmps47; (try simp only [List.append_eq, List.cons_append, List.nil_append])
      go_wp2_with fail
      refine (bNaN x _).mono ?_
      rintro e w1 ⟨rfl, rfl⟩
      go_wp2_with fail
      refine (bNaN t _).mono ?_
      rintro e w1 ⟨rfl, rfl⟩
      go_wp2
      go_ret
      exact ⟨rfl, rfl⟩
theorem bAboveC (x t : Int) (W : World) : Calls Try.prog 46 #[.agg #[.int .i64 x, .slice none 0 0], .int .i64 t] W fun e w' => e = .returned (.int .i64 (cmpI x t)) ∧ Below W.heap.size W w' := by
  go_enter Try.func46, Try.ntmps46; (try simp only [List.append_eq, List.cons_append, List.nil_append])
  go_wp2_with fail
  refine (bCmp x t _).mono ?_
  rintro e w1 ⟨rfl, rfl⟩
  go_wp2
  go_ret
  exact ⟨rfl, (Below.refl _ W).alloc (Nat.le_refl _) _⟩
/-- A list of told times without results. -/
def IsT (n : Nat) (w : World) (v : Value) (l : List Int) : Prop := Arr n w v 2 (l.map toldC)
theorem IsT.mono {n m : Nat} {w w' : World} {v : Value} {l : List Int} (h : IsT n w v l) (hb : Below n w w') (hm : n ≤ m) : IsT m w' v l := Arr.mono h hb hm
theorem IsT.open {n : Nat} {w : World} {v : Value} {l : List Int} (h : IsT n w v l) : ∃ p cap, v = .slice p l.length cap ∧ l.length ≤ cap ∧ cap ≤ maxLen := by
  obtain ⟨p, cap, hv, h1, h2, _⟩ := h
  simp only [List.length_map] at hv h1
  exact ⟨p, cap, hv, h1, h2⟩
theorem IsT.get {n : Nat} {w : World} {p : Option Addr} {len cap : Nat} {l : List Int} (h : IsT n w (.slice p len cap) l) {k : Nat} {x : Int} (hx : l[k]? = some x) :
    ∃ b off, p = some ⟨b, off, none⟩ ∧ b < n ∧ w.cell? ⟨b, off + k * 2, none⟩ = some (.int .i64 x) ∧ w.cell? ⟨b, off + k * 2 + 1, none⟩ = some (.slice none 0 0) := by
  obtain ⟨b, off, hp, hb, hc⟩ := Arr.at h k (toldC x) (by rw [List.getElem?_map, hx]; rfl)
  exact ⟨b, off, hp, hb, by simpa using hc 0 _ rfl, hc 1 _ rfl⟩
set_option maxRecDepth 100000 in
set_option maxHeartbeats 4000000 in
theorem bSearch {n : Nat} {v : Value} {l : List Int} {W : World} (hl : IsT n W v l) (hn : n ≤ W.heap.size) (hr : Rise l) (hlen : l.length ≤ 1000000) (t : Int) :
    Calls Try.prog 45 #[v, .int .i64 t, .func (.func 46) #[] #[]] W fun e w' => ∃ k : Nat, k ≤ l.length ∧ e = .returned (.tuple #[.int .i64 k, .bool (decide (l[k]? = some t))]) ∧ (∀ j x, l[j]? = some x → (x < t ↔ j < k)) ∧ Below W.heap.size W w' := by
  obtain ⟨p, cap, rfl, hcap1, hcap2⟩ := hl.open
  have Hl := Lib.hid hl; have Hr := Lib.hid hr
  clear hl hr
  go_enter Try.func45, Try.ntmps45; (try simp only [List.append_eq, List.cons_append, List.nil_append])
  go_wp2
  go_loopw [9, 10] (fun v9 v10 wr => ∃ lo hi : Nat, v9 = .int .i64 lo ∧ v10 = .int .i64 hi ∧ lo ≤ hi ∧ hi ≤ l.length ∧ (∀ j x, l[j]? = some x → j < lo → x < t) ∧ (∀ j x, l[j]? = some x → hi ≤ j → t ≤ x) ∧ Below W.heap.size W wr) (fun v9 v10 _ => (intOf v10).toNat - (intOf v9).toNat)
  case atStart => exact ⟨0, l.length, rfl, rfl, Nat.zero_le _, Nat.le_refl _, fun j x _ h => by omega, fun j x h1 h2 => by have := (List.getElem?_eq_some_iff.1 h1).1; omega, Below.refl _ _⟩
  case round =>
    obtain ⟨lo, hi, rfl, rfl, hlh, hin, hlo, hhi, hb⟩ := hrel
    have Hlo := Lib.hid hlo; have Hhi := Lib.hid hhi; have HB := Lib.hid hb
    clear hlo hhi hb
    by_cases hlt : lo < hi
    · obtain ⟨x, hx⟩ : ∃ x, l[(lo + hi) / 2]? = some x := ⟨_, List.getElem?_eq_getElem (by omega)⟩
      have HX := Lib.hid hx
      obtain ⟨bb, off, rfl, hbb, d0, d1⟩ := (Hl.out.mono (HB.out.mono hn) (Nat.le_refl _)).get hx
      have hsz := HB.out.size
      have hbw : bb < wr.heap.size := by omega
      clear hx
      have E0 := Lib.hid (show ((lo : Int) + (hi : Int)) / 2 = (((lo + hi) / 2 : Nat) : Int) by omega)
      by_cases hxt : x < t
      · have hc : cmpI x t < 0 := by unfold cmpI; rw [if_pos hxt]; decide
        go_wp2_with fail
        refine (bAboveC x t _).mono ?_
        rintro e w1 ⟨rfl, hb1⟩
        have HB1 := Lib.hid (HB.out.trans (hb1.mono HB.out.size))
        clear hb1
        generalize cmpI x t = c at *
        go_wp2
        refine ⟨⟨(lo + hi) / 2 + 1, hi, by rw [E0.out]; go_num, rfl, by omega, hin, fun j y hy hj => ?_, Hhi.out, HB1.out⟩, by rw [E0.out]; simp only [intOf]; omega⟩
        rcases Nat.lt_or_ge j ((lo + hi) / 2) with h1 | h1
        · have h2 : j < l.length := by omega
          have h3 := rise_get Hr.out h1 (by omega)
          rw [List.getElem?_eq_getElem h2] at hy
          have hx2 := HX.out
          rw [List.getElem?_eq_getElem (by omega)] at hx2
          have e1 := Option.some.inj hy
          have e2 := Option.some.inj hx2
          omega
        · have : j = (lo + hi) / 2 := by omega
          subst this
          rw [HX.out] at hy; cases hy; exact hxt
      · have hc : ¬ cmpI x t < 0 := by unfold cmpI; rw [if_neg hxt]; split <;> decide
        go_wp2_with fail
        refine (bAboveC x t _).mono ?_
        rintro e w1 ⟨rfl, hb1⟩
        have HB1 := Lib.hid (HB.out.trans (hb1.mono HB.out.size))
        clear hb1
        generalize cmpI x t = c at *
        go_wp2
        refine ⟨⟨lo, (lo + hi) / 2, rfl, by rw [E0.out], by omega, by omega, Hlo.out, fun j y hy hj => ?_, HB1.out⟩, by rw [E0.out]; simp only [intOf]; omega⟩
        rcases Nat.lt_or_ge ((lo + hi) / 2) j with h1 | h1
        · have h2 : j < l.length := (List.getElem?_eq_some_iff.1 hy).1
          have h3 := rise_get Hr.out h1 h2
          rw [List.getElem?_eq_getElem h2] at hy
          have hx2 := HX.out
          rw [List.getElem?_eq_getElem (by omega)] at hx2
          have e1 := Option.some.inj hy
          have e2 := Option.some.inj hx2
          omega
        · have : j = (lo + hi) / 2 := by omega
          subst this
          rw [HX.out] at hy; cases hy; omega
    · obtain rfl : hi = lo := by omega
      by_cases hl2 : hi < l.length
      · obtain ⟨x, hx⟩ : ∃ x, l[hi]? = some x := ⟨_, List.getElem?_eq_getElem (by omega)⟩
        have HX := Lib.hid hx
        obtain ⟨bb, off, rfl, hbb, d0, d1⟩ := (Hl.out.mono (HB.out.mono hn) (Nat.le_refl _)).get hx
        have hsz := HB.out.size
        have hbw : bb < wr.heap.size := by omega
        clear hx
        go_wp2_with fail
        refine (bAboveC x t _).mono ?_
        rintro e w1 ⟨rfl, hb1⟩
        have HB1 := Lib.hid (HB.out.trans (hb1.mono HB.out.size))
        clear hb1
        have HC := Lib.hid (show (cmpI x t == 0) = decide (l[hi]? = some t) from by
          rw [HX.out]
          unfold cmpI
          by_cases h1 : x < t
          · rw [if_pos h1]; simp; omega
          · rw [if_neg h1]
            by_cases h2 : t < x
            · rw [if_pos h2]; simp; omega
            · rw [if_neg h2]; simp; omega)
        generalize cmpI x t = c at *
        go_wp2
        go_ret2
        refine ⟨hi, by omega, by rw [← HC.out]; rfl, fun j y hy => ⟨fun h => ?_, fun h => Hlo.out j y hy h⟩, HB1.out⟩
        rcases Nat.lt_or_ge j hi with h1 | h1
        · exact h1
        · have := Hhi.out j y hy h1; omega
      · go_wp2
        go_ret2
        refine ⟨hi, by omega, by rw [List.getElem?_eq_none (by omega)]; rfl, fun j y hy => ⟨fun h => ?_, fun h => Hlo.out j y hy h⟩, HB.out⟩
        have := (List.getElem?_eq_some_iff.1 hy).1
        omega
/-- Where a list that rises is cut. -/
theorem above_at {l : List Int} {t : Int} {k : Nat} (hk : k ≤ l.length) (h : ∀ j x, l[j]? = some x → (x < t ↔ j < k)) (hr : Rise l) : (if l[k]? = some t then k + 1 else k) = aboveN l t := by
  have key : ∀ (l : List Int) (m : Nat), m ≤ l.length → (∀ j x, l[j]? = some x → (x ≤ t ↔ j < m)) → aboveN l t = m := by
    intro l
    induction l with
    | nil => intro m hm _; simp at hm; subst hm; rfl
    | cons x l ih =>
      intro m hm h
      unfold aboveN
      rw [List.takeWhile_cons]
      by_cases hx : x ≤ t
      · rw [if_pos (by simpa using hx), List.length_cons]
        have h0 := (h 0 x rfl).1 hx
        have := ih (m - 1) (by simp at hm; omega) (fun j y hy => by have := h (j + 1) y (by simpa using hy); rw [this]; omega)
        unfold aboveN at this
        omega
      · rw [if_neg (by simpa using hx)]
        have h0 : ¬ (0 < m) := fun h0 => hx ((h 0 x rfl).2 h0)
        simp; omega
  split
  · rename_i ht
    have hk2 := (List.getElem?_eq_some_iff.1 ht).1
    refine (key l (k + 1) (by omega) fun j x hx => ?_).symm
    have hj := (List.getElem?_eq_some_iff.1 hx).1
    have h1 := h j x hx
    constructor
    · intro h2
      rcases Nat.lt_or_ge j (k + 1) with h3 | h3
      · exact h3
      · have h4 := rise_get hr (show k < j by omega) hj
        rw [List.getElem?_eq_getElem hj] at hx
        rw [List.getElem?_eq_getElem hk2] at ht
        have e1 := Option.some.inj hx
        have e2 := Option.some.inj ht
        omega
    · intro h2
      rcases Nat.lt_or_ge j k with h3 | h3
      · have := h1.2 h3; omega
      · have : j = k := by omega
        subst this
        rw [ht] at hx
        have := Option.some.inj hx
        omega
  · rename_i ht
    refine (key l k hk fun j x hx => ?_).symm
    have h1 := h j x hx
    constructor
    · intro h2
      rcases Int.lt_or_eq_of_le h2 with h3 | h3
      · exact h1.1 h3
      · subst h3
        rcases Nat.lt_trichotomy j k with h4 | h4 | h4
        · exact h4
        · subst h4; exact absurd hx ht
        · exfalso
          have hj := (List.getElem?_eq_some_iff.1 hx).1
          have h5 := rise_get hr h4 hj
          have h6 := (h k l[k] (List.getElem?_eq_getElem (by omega))).1
          rw [List.getElem?_eq_getElem hj] at hx
          have e1 := Option.some.inj hx
          omega
    · intro h2; have := h1.2 h2; omega
set_option maxRecDepth 100000 in
theorem bAbove {n : Nat} {v : Value} {l : List Int} {W : World} (hl : IsT n W v l) (hn : n ≤ W.heap.size) (hr : Rise l) (hlen : l.length ≤ 1000000) (t : Int) :
    Calls Try.prog 34 #[v, .int .i64 t] W fun e w' => e = .returned (.int .i64 (aboveN l t)) ∧ Below W.heap.size W w' := by
  have hs := bSearch hl hn hr hlen t
  have Hr := Lib.hid hr
  clear hl hr
  go_enter Try.func34, Try.ntmps34; (try simp only [List.append_eq, List.cons_append, List.nil_append])
  go_wp2_with fail
  refine hs.mono ?_
  rintro e w1 ⟨k, hk, rfl, hall, hb1⟩
  have E := Lib.hid (above_at hk hall Hr.out)
  have HB := Lib.hid hb1
  clear hall hb1
  by_cases ht : l[k]? = some t
  · rw [if_pos ht] at E
    simp only [ht, decide_true]
    go_wp2
    go_ret
    exact ⟨by rw [← E.out]; go_num, HB.out⟩
  · rw [if_neg ht] at E
    simp only [ht, decide_false]
    go_wp2
    go_ret
    exact ⟨by rw [← E.out]; rfl, HB.out⟩
end Go.Proofs.Ytfmolimnnheaoaa
