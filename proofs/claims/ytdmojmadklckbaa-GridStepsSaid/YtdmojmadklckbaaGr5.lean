/- The reference's grid: Last, In, Mark; grid.Mark; slices.Min, slices.Max, ContainsFunc of numbers. -/
import Derived.Test.YtdmojmadklckbaaGr4
import Derived.Test.YtdmojmadklckbaaApp
namespace Go.Proofs.Ytdmojmadklckbaa
open Go.RowKit
set_option linter.unusedSimpArgs false
set_option linter.unusedVariables false

set_option maxRecDepth 100000 in
set_option maxHeartbeats 1000000 in
theorem rLast (ev mark : Int) (e : Ex) (cs : List Value) (w : World) (he : QCells e cs) (hmk : -9223372036854775808 ≤ mark ∧ mark ≤ 9223372036854775807) :
    Calls Try.prog 24 #[.agg (.int .i64 ev :: cs).toArray, .int .i64 mark] w fun e' w' => e' = .returned (.int .i64 (lastT ev mark)) ∧ Below w.heap.size w w' := by
  have HR := Lib.hid (fun wx => rEvery ev e cs wx he)
  obtain ⟨pm, cm, pn, cn, pk, ck, rfl⟩ := he
  obtain ⟨hm1, hm2⟩ := hmk
  cases hok : evOk ev with
  | false =>
    have Hf : Hid (lastT ev mark = 0) := by show _ = _; unfold lastT; rw [hok]; rfl
    rw [hok] at HR
    simp only [Bool.false_eq_true, if_false] at HR
    clear hok
    go_enter Try.func24, Try.ntmps24; (try simp only [List.append_eq, List.cons_append, List.nil_append])
    go_wp2_with (go_at_call 44; refine (HR.out _).mono ?_; rintro e' w1 ⟨rfl, rfl⟩)
    go_ret
    exact ⟨ret_int Hf.out.symm, ((Below.refl _ _).alloc (Nat.le_refl _) _).alloc (by simp) _⟩
  | true =>
    have hok' := evOk_iff.1 hok
    obtain ⟨h1, h2⟩ := hok'
    rw [hok] at HR
    simp only [if_true] at HR
    have hev0 : ev ≠ 0 := by omega
    have hev0' : (ev == 0) = false := by simpa using hev0
    by_cases h0 : 1 ≤ mark
    · have Hf : Hid (lastT ev mark = min mark 1099511627776 - min mark 1099511627776 % ev) := by show _ = _; unfold lastT MT; rw [hok, if_pos (by simp; omega)]
      clear hok
      have h0' : ¬ mark < 1 := by omega
      have hr1 := Int.emod_nonneg (min mark 1099511627776) hev0
      have hr2 := Int.emod_lt_of_pos (min mark 1099511627776) (show 0 < ev by omega)
      have hr3 : min mark 1099511627776 % ev ≤ min mark 1099511627776 := by
        have := Int.ediv_mul_add_emod (min mark 1099511627776) ev
        have : 0 ≤ min mark 1099511627776 / ev * ev := Int.mul_nonneg (Int.ediv_nonneg (by omega) (by omega)) (by omega)
        omega
      by_cases hle : mark ≤ 1099511627776
      · rw [show min mark 1099511627776 = mark by omega] at *
        have hle' : ¬ 1099511627776 < mark := by omega
        go_enter Try.func24, Try.ntmps24; (try simp only [List.append_eq, List.cons_append, List.nil_append])
        go_wp2_with (go_at_call 44; refine (HR.out _).mono ?_; rintro e' w1 ⟨rfl, rfl⟩)
        go_ret
        exact ⟨ret_int Hf.out.symm, ((Below.refl _ _).alloc (Nat.le_refl _) _).alloc (by simp) _⟩
      · rw [show min mark 1099511627776 = 1099511627776 by omega] at *
        have hle' : 1099511627776 < mark := by omega
        go_enter Try.func24, Try.ntmps24; (try simp only [List.append_eq, List.cons_append, List.nil_append])
        go_wp2_with (go_at_call 44; refine (HR.out _).mono ?_; rintro e' w1 ⟨rfl, rfl⟩)
        go_ret
        exact ⟨ret_int Hf.out.symm, ((Below.refl _ _).alloc (Nat.le_refl _) _).alloc (by simp) _⟩
    · have Hf : Hid (lastT ev mark = 0) := by
        show _ = _
        unfold lastT MT
        by_cases hz : 0 ≤ mark
        · obtain rfl : mark = 0 := by omega
          rw [show min (0 : Int) 1099511627776 = 0 by omega]; simp
        · rw [if_neg (by simp [hz])]
      clear hok
      have h0' : mark < 1 := by omega
      go_enter Try.func24, Try.ntmps24; (try simp only [List.append_eq, List.cons_append, List.nil_append])
      go_wp2_with (go_at_call 44; refine (HR.out _).mono ?_; rintro e' w1 ⟨rfl, rfl⟩)
      go_ret
      exact ⟨ret_int Hf.out.symm, ((Below.refl _ _).alloc (Nat.le_refl _) _).alloc (by simp) _⟩

set_option maxHeartbeats 1000000 in
theorem rIn (span at' time : Int) (w : World) (hs : -9223372036854775808 ≤ span ∧ span ≤ 9223372036854775807) (ha : -9223372036854775808 ≤ at' ∧ at' ≤ 9223372036854775807) (ht : -9223372036854775808 ≤ time ∧ time ≤ 9223372036854775807) :
    Calls Try.prog 27 #[.int .i64 span, .int .i64 at', .int .i64 time] w fun e' w' => e' = .returned (.bool (inW span at' time)) ∧ w = w' := by
  obtain ⟨hs1, hs2⟩ := hs
  obtain ⟨ha1, ha2⟩ := ha
  obtain ⟨ht1, ht2⟩ := ht
  by_cases h1 : 1 ≤ span
  · by_cases h2 : time ≤ at'
    · by_cases h3 : at' < -9223372036854775808 + span
      · have Hv : Hid (inW span at' time = true) := by show _ = _; unfold inW; rw [decide_eq_true]; omega
        go_enter Try.func27, Try.ntmps27; (try simp only [List.append_eq, List.cons_append, List.nil_append])
        go_wp2
        all_goals go_ret
        all_goals exact ⟨ret_bool Hv.out.symm, rfl⟩
      · by_cases h4 : at' - span < time
        · have Hv : Hid (inW span at' time = true) := by show _ = _; unfold inW; rw [decide_eq_true]; omega
          go_enter Try.func27, Try.ntmps27; (try simp only [List.append_eq, List.cons_append, List.nil_append])
          go_wp2
          all_goals go_ret
          all_goals exact ⟨ret_bool Hv.out.symm, rfl⟩
        · have Hv : Hid (inW span at' time = false) := by show _ = _; unfold inW; rw [decide_eq_false]; omega
          go_enter Try.func27, Try.ntmps27; (try simp only [List.append_eq, List.cons_append, List.nil_append])
          go_wp2
          all_goals go_ret
          all_goals exact ⟨ret_bool Hv.out.symm, rfl⟩
    · have Hv : Hid (inW span at' time = false) := by show _ = _; unfold inW; rw [decide_eq_false]; omega
      go_enter Try.func27, Try.ntmps27; (try simp only [List.append_eq, List.cons_append, List.nil_append])
      go_wp2
      all_goals go_ret
      all_goals exact ⟨ret_bool Hv.out.symm, rfl⟩
  · have Hv : Hid (inW span at' time = false) := by show _ = _; unfold inW; rw [decide_eq_false]; omega
    go_enter Try.func27, Try.ntmps27; (try simp only [List.append_eq, List.cons_append, List.nil_append])
    go_wp2
    all_goals go_ret
    all_goals exact ⟨ret_bool Hv.out.symm, rfl⟩

/-! ### lists of numbers -/
/-- A slice of numbers. -/
def IsInts (n : Nat) (w : World) (v : Value) (l : List Int) : Prop := Arr n w v 1 (l.map fun i => [.int .i64 i])
theorem IsInts.mono {n m : Nat} {w w' : World} {v : Value} {l : List Int} (h : IsInts n w v l) (hb : Below n w w') (hm : n ≤ m) : IsInts m w' v l := Arr.mono h hb hm
theorem IsInts.open {n : Nat} {w : World} {v : Value} {l : List Int} (h : IsInts n w v l) : ∃ p cap, v = .slice p l.length cap ∧ l.length ≤ cap ∧ cap ≤ maxLen ∧ l.length ≤ maxLen := by
  obtain ⟨p, cap, hv, h1, h2, _⟩ := h
  simp only [List.length_map] at hv h1
  exact ⟨p, cap, hv, h1, h2, by omega⟩
theorem IsInts.get {n : Nat} {w : World} {p : Option Addr} {len cap : Nat} {l : List Int} (h : IsInts n w (.slice p len cap) l) {k : Nat} (hk : k < l.length) :
    ∃ b off, p = some ⟨b, off, none⟩ ∧ b < n ∧ w.cell? ⟨b, off + k, none⟩ = some (.int .i64 l[k]) := by
  obtain ⟨b, off, hp, hb, hc⟩ := h.at k [.int .i64 l[k]] (by simp [hk])
  exact ⟨b, off, hp, hb, by simpa using hc 0 _ rfl⟩
/-- Numbers in a block of their own. -/
def OwnI (t : Nat) (base : Nat) (w : World) (v : Value) (l : List Int) : Prop := w.ownsRow base t 1 v l.length (l.map fun i => Value.int .i64 i)
theorem OwnI.ints {t base m : Nat} {w : World} {v : Value} {l : List Int} (h : OwnI t base w v l) (hm : w.heap.size ≤ m) : IsInts m w v l := by
  rcases h.2 with ⟨rfl, hl⟩ | ⟨g, cap, cur, rfl, hg, hh, hc1, hc2, hc3, hc4⟩
  · have : l = [] := List.eq_nil_of_length_eq_zero (by omega)
    subst this
    exact Arr.nil _ _ _
  · refine ⟨_, cap, by rw [List.length_map], by simpa using hc1, hc2, fun _ => ⟨g, 0, rfl, ?_, fun k r hr j x hx => ?_⟩⟩
    · have := (Array.getElem?_eq_some_iff.1 hh).1; omega
    · obtain ⟨i, hi, rfl⟩ : ∃ i, l[k]? = some i ∧ r = [.int .i64 i] := by
        rw [List.getElem?_map] at hr
        cases hlk : l[k]? with
        | none => rw [hlk] at hr; cases hr
        | some i => rw [hlk] at hr; cases hr; exact ⟨i, rfl, rfl⟩
      cases j with
      | zero =>
        simp at hx; subst hx
        have hcell := h.cells (g := g) rfl k (.int .i64 i) (by simp [hi])
        have e0 : (⟨g, 0, none⟩ : Addr).add k = ⟨g, 0 + k * 1 + 0, none⟩ := by
          unfold Addr.add
          split <;> simp <;> omega
        rw [e0] at hcell
        exact hcell
      | succ j => simp at hx

/-- The least, the greatest of numbers, so far. -/
def minTo : List Int → Int
  | [] => 0
  | x :: l => l.foldl min x
def maxTo : List Int → Int
  | [] => 0
  | x :: l => l.foldl max x
theorem minTo_step {l : List Int} {k : Nat} (h0 : 0 < k) (h : k < l.length) : minTo (l.take (k + 1)) = min (minTo (l.take k)) l[k] := by
  rw [List.take_succ_eq_append_getElem h]
  match l, k, h0, h with
  | x :: l, k + 1, _, h => simp only [List.take_succ_cons, List.cons_append, minTo, List.foldl_append, List.foldl_cons, List.foldl_nil]
theorem maxTo_step {l : List Int} {k : Nat} (h0 : 0 < k) (h : k < l.length) : maxTo (l.take (k + 1)) = max (maxTo (l.take k)) l[k] := by
  rw [List.take_succ_eq_append_getElem h]
  match l, k, h0, h with
  | x :: l, k + 1, _, h => simp only [List.take_succ_cons, List.cons_append, maxTo, List.foldl_append, List.foldl_cons, List.foldl_nil]

set_option maxHeartbeats 1000000 in
theorem sMin (l : List Int) (v : Value) (n : Nat) (w : World) (h0 : 0 < l.length) (h : IsInts n w v l) :
    Calls Try.prog 38 #[v] w fun e' w' => e' = .returned (.int .i64 (minTo l)) ∧ w = w' := by
  obtain ⟨p, cap, rfl, _, _, hl⟩ := h.open
  unfold maxLen at hl
  obtain ⟨b, off, rfl, hb, c0⟩ := h.get h0
  simp only [Nat.add_zero] at c0
  have h1 : ¬ (l.length : Int) < 1 := by omega
  have H := Lib.hid h; clear h
  have hz : l[0] = minTo (l.take 1) := by match l, h0 with | x :: l, _ => rfl
  go_enter Try.func38, Try.ntmps38; (try simp only [List.append_eq, List.cons_append, List.nil_append])
  go_wp2
  go_loop [3, 4] (fun m i => ∃ k : Nat, 1 ≤ k ∧ k ≤ l.length ∧ i = .int .i64 k ∧ m = .int .i64 (minTo (l.take k))) (fun _ i => l.length - (intOf i).toNat)
  case atStart => exact ⟨1, Nat.le_refl _, h0, rfl, rfl⟩
  case round =>
    obtain ⟨k, hk1, hk, rfl, rfl⟩ := hrel
    by_cases hlt : k < l.length
    · have Hst := Lib.hid (minTo_step (l := l) (k := k) (by omega) hlt)
      obtain ⟨b', off', hbe, hb', c1⟩ := H.out.get hlt
      cases hbe
      clear hz
      go_wp2
      go_round
      case rel =>
        refine ⟨k + 1, by omega, by omega, by go_num, ?_⟩
        rw [Hst.out]
        congr 1
        split <;> omega
      case measure => simp [intOf]; omega
    · go_wp2
      go_ret
      exact ⟨ret_int (by rw [List.take_of_length_le (by omega)]), rfl⟩

set_option maxHeartbeats 1000000 in
theorem sMax (l : List Int) (v : Value) (n : Nat) (w : World) (h0 : 0 < l.length) (h : IsInts n w v l) :
    Calls Try.prog 43 #[v] w fun e' w' => e' = .returned (.int .i64 (maxTo l)) ∧ w = w' := by
  obtain ⟨p, cap, rfl, _, _, hl⟩ := h.open
  unfold maxLen at hl
  obtain ⟨b, off, rfl, hb, c0⟩ := h.get h0
  simp only [Nat.add_zero] at c0
  have h1 : ¬ (l.length : Int) < 1 := by omega
  have H := Lib.hid h; clear h
  have hz : l[0] = maxTo (l.take 1) := by match l, h0 with | x :: l, _ => rfl
  go_enter Try.func43, Try.ntmps43; (try simp only [List.append_eq, List.cons_append, List.nil_append])
  go_wp2
  go_loop [3, 4] (fun m i => ∃ k : Nat, 1 ≤ k ∧ k ≤ l.length ∧ i = .int .i64 k ∧ m = .int .i64 (maxTo (l.take k))) (fun _ i => l.length - (intOf i).toNat)
  case atStart => exact ⟨1, Nat.le_refl _, h0, rfl, rfl⟩
  case round =>
    obtain ⟨k, hk1, hk, rfl, rfl⟩ := hrel
    by_cases hlt : k < l.length
    · have Hst := Lib.hid (maxTo_step (l := l) (k := k) (by omega) hlt)
      obtain ⟨b', off', hbe, hb', c1⟩ := H.out.get hlt
      cases hbe
      clear hz
      go_wp2
      go_round
      case rel =>
        refine ⟨k + 1, by omega, by omega, by go_num, ?_⟩
        rw [Hst.out]
        congr 1
        split <;> omega
      case measure => simp [intOf]; omega
    · go_wp2
      go_ret
      exact ⟨ret_int (by rw [List.take_of_length_le (by omega)]), rfl⟩

end Go.Proofs.Ytdmojmadklckbaa
