/- The reference's grid: every, Next, Last, First, In. -/
import Derived.Test.YtdmojmadklckbaaGr3
namespace Go.Proofs.Ytdmojmadklckbaa
open Go.RowKit
set_option linter.unusedSimpArgs false
set_option linter.unusedVariables false

theorem rEvery (ev : Int) (e : Ex) (cs : List Value) (w : World) (he : QCells e cs) :
    Calls Try.prog 44 #[.agg (.int .i64 ev :: cs).toArray] w fun e' w' => e' = .returned (.int .i64 (if evOk ev then ev else 0)) ∧ w.alloc (.cells (.int .i64 ev :: cs).toArray 28) = w' := by
  obtain ⟨pm, cm, pn, cn, pk, ck, rfl⟩ := he
  cases hok : evOk ev with
  | true =>
    obtain ⟨h1, h2⟩ := evOk_iff.1 hok
    clear hok
    simp only [if_true]
    go_enter Try.func44, Try.ntmps44; (try simp only [List.append_eq, List.cons_append, List.nil_append])
    go_wp2
    all_goals go_ret
    all_goals exact ⟨rfl, rfl⟩
  | false =>
    have h : ev < 1 ∨ (1 ≤ ev ∧ 1073741824 < ev) := by unfold evOk at hok; simp at hok; omega
    clear hok
    simp only [Bool.false_eq_true, if_false]
    rcases h with h | ⟨h1, h⟩
    all_goals
      go_enter Try.func44, Try.ntmps44; (try simp only [List.append_eq, List.cons_append, List.nil_append])
      go_wp2
      all_goals go_ret
      all_goals exact ⟨rfl, rfl⟩

set_option maxRecDepth 100000 in
set_option maxHeartbeats 1000000 in
theorem rNext (ev mark : Int) (e : Ex) (cs : List Value) (w : World) (he : QCells e cs) (hmk : -9223372036854775808 ≤ mark ∧ mark ≤ 9223372036854775807) :
    Calls Try.prog 21 #[.agg (.int .i64 ev :: cs).toArray, .int .i64 mark] w fun e' w' => e' = .returned (nextV ev mark) ∧ Below w.heap.size w w' := by
  have HR := Lib.hid (fun wx => rEvery ev e cs wx he)
  obtain ⟨pm, cm, pn, cn, pk, ck, rfl⟩ := he
  obtain ⟨hm1, hm2⟩ := hmk
  cases hok : evOk ev with
  | false =>
    have Hf : Hid (nextV ev mark = .tuple #[.int .i64 0, .bool false]) := by show _ = _; unfold nextV nextT; rw [hok]; rfl
    rw [hok] at HR
    simp only [Bool.false_eq_true, if_false] at HR
    clear hok
    rw [Hf.out]
    go_enter Try.func21, Try.ntmps21; (try simp only [List.append_eq, List.cons_append, List.nil_append])
    go_wp2_with (go_at_call 44; refine (HR.out _).mono ?_; rintro e' w1 ⟨rfl, rfl⟩)
    all_goals go_ret2
    all_goals exact ⟨rfl, ((Below.refl _ _).alloc (Nat.le_refl _) _).alloc (by simp) _⟩
  | true =>
    have hok' := evOk_iff.1 hok
    obtain ⟨h1, h2⟩ := hok'
    rw [hok] at HR
    simp only [if_true] at HR
    have hev0 : ev ≠ 0 := by omega
    have hev0' : (ev == 0) = false := by simpa using hev0
    obtain ⟨m, hm⟩ : ∃ m, m = max 0 mark := ⟨_, rfl⟩
    have hr1 := Int.emod_nonneg m hev0
    have hr2 := Int.emod_lt_of_pos m (show 0 < ev by omega)
    have hr3 : m % ev ≤ m := by
      have := Int.ediv_mul_add_emod m ev
      have : 0 ≤ m / ev * ev := Int.mul_nonneg (Int.ediv_nonneg (by omega) (by omega)) (by omega)
      omega
    have ht := t0_rem (ev := ev) (mark := mark) h1
    rw [← hm] at ht
    have Hn : Hid (nextV ev mark = if mark < 1099511627776 ∧ m - m % ev + ev ≤ 1099511627776 then .tuple #[.int .i64 (m - m % ev + ev), .bool true] else .tuple #[.int .i64 0, .bool false]) := by
      show _ = _
      unfold nextV nextT MT
      rw [hok, ht]
      by_cases hh : mark < 1099511627776 ∧ m - m % ev + ev ≤ 1099511627776
      · rw [if_pos hh, if_pos (by simpa using hh)]
      · rw [if_neg hh, if_neg (by simpa using hh)]
    clear ht hok
    by_cases h0 : 0 < mark
    · obtain rfl : m = mark := by omega
      clear hm
      by_cases h3 : m < 1099511627776
      · have h3' : ¬ 1099511627776 ≤ m := by omega
        by_cases h4 : m - m % ev + ev ≤ 1099511627776
        · rw [Hn.out, if_pos ⟨h3, h4⟩]
          go_enter Try.func21, Try.ntmps21; (try simp only [List.append_eq, List.cons_append, List.nil_append])
          go_wp2_with (go_at_call 44; refine (HR.out _).mono ?_; rintro e' w1 ⟨rfl, rfl⟩)
          all_goals go_ret2
          all_goals exact ⟨rfl, ((Below.refl _ _).alloc (Nat.le_refl _) _).alloc (by simp) _⟩
        · rw [Hn.out, if_neg (fun h => h4 h.2)]
          go_enter Try.func21, Try.ntmps21; (try simp only [List.append_eq, List.cons_append, List.nil_append])
          go_wp2_with (go_at_call 44; refine (HR.out _).mono ?_; rintro e' w1 ⟨rfl, rfl⟩)
          all_goals go_ret2
          all_goals exact ⟨rfl, ((Below.refl _ _).alloc (Nat.le_refl _) _).alloc (by simp) _⟩
      · rw [Hn.out, if_neg (fun h => h3 h.1)]
        go_enter Try.func21, Try.ntmps21; (try simp only [List.append_eq, List.cons_append, List.nil_append])
        go_wp2_with (go_at_call 44; refine (HR.out _).mono ?_; rintro e' w1 ⟨rfl, rfl⟩)
        all_goals go_ret2
        all_goals exact ⟨rfl, ((Below.refl _ _).alloc (Nat.le_refl _) _).alloc (by simp) _⟩
    · obtain rfl : m = 0 := by omega
      have hz : (0 : Int) % ev = 0 := Int.zero_emod ev
      rw [Hn.out, if_pos ⟨by omega, by rw [hz]; omega⟩, hz]
      clear hm hr1 hr2 hr3 hz Hn
      go_enter Try.func21, Try.ntmps21; (try simp only [List.append_eq, List.cons_append, List.nil_append])
      go_wp2_with (go_at_call 44; refine (HR.out _).mono ?_; rintro e' w1 ⟨rfl, rfl⟩)
      all_goals go_ret2
      all_goals exact ⟨by first | rfl | simp, ((Below.refl _ _).alloc (Nat.le_refl _) _).alloc (by simp) _⟩

set_option maxRecDepth 100000 in
set_option maxHeartbeats 1000000 in
theorem rFirst (ev mark : Int) (e : Ex) (cs : List Value) (w : World) (he : QCells e cs) (hmk : -9223372036854775808 ≤ mark ∧ mark ≤ 9223372036854775807) :
    Calls Try.prog 26 #[.agg (.int .i64 ev :: cs).toArray, .int .i64 mark] w fun e' w' => e' = .returned (.int .i64 (firstT ev mark)) ∧ Below w.heap.size w w' := by
  have HN := Lib.hid (fun wx => rNext ev mark e cs wx he hmk)
  have HR := Lib.hid (fun wx => rEvery ev e cs wx he)
  obtain ⟨pm, cm, pn, cn, pk, ck, rfl⟩ := he
  cases hn : nextT ev mark with
  | none =>
    have Hf : Hid (firstT ev mark = 0) := by show _ = _; unfold firstT; rw [hn]
    unfold nextV at HN
    rw [hn] at HN
    clear hn
    go_enter Try.func26, Try.ntmps26; (try simp only [List.append_eq, List.cons_append, List.nil_append])
    go_wp2_with (go_at_call 21; refine (HN.out _).mono ?_; rintro e' w1 ⟨rfl, hb⟩; have HB := Lib.hid hb; clear hb)
    go_ret
    exact ⟨ret_int Hf.out.symm, ((Below.refl _ _).alloc (Nat.le_refl _) _).trans (HB.out.mono (by simp))⟩
  | some t =>
    have Hf : Hid (firstT ev mark = t / ev) := by show _ = _; unfold firstT; rw [hn]
    have hbd := nextT_bd hn
    obtain ⟨h1, h2, h3, h4, -, -, -⟩ := hbd
    unfold MT at h4
    unfold nextV at HN
    rw [hn] at HN
    rw [evOk_iff.2 ⟨h1, h2⟩] at HR
    simp only [if_true] at HR
    clear hn
    have hev0 : ev ≠ 0 := by omega
    have hev0' : (ev == 0) = false := by simpa using hev0
    go_enter Try.func26, Try.ntmps26; (try simp only [List.append_eq, List.cons_append, List.nil_append])
    go_wp2_with (first
      | (go_at_call 21; refine (HN.out _).mono ?_; rintro e' w1 ⟨rfl, hb⟩; have hbx := (Box.new w ([.int .i64 ev, .int .i64 e.kind, .int .i64 e.fn, .int .i64 e.op, .int .i64 e.num, .string e.metric, .slice pm e.mats.length cm, .int .i64 e.span, .slice pn e.names.length cn, .slice pk e.kids.length ck]) 28).keep hb; have c0 := hbx.2 0 _ rfl; have c1 := hbx.2 1 _ rfl; have c2 := hbx.2 2 _ rfl; have c3 := hbx.2 3 _ rfl; have c4 := hbx.2 4 _ rfl; have c5 := hbx.2 5 _ rfl; have c6 := hbx.2 6 _ rfl; have c7 := hbx.2 7 _ rfl; have c8 := hbx.2 8 _ rfl; have c9 := hbx.2 9 _ rfl; clear hbx; have HB := Lib.hid hb; clear hb)
      | (go_at_call 44; refine (HR.out _).mono ?_; rintro e' w2 ⟨rfl, rfl⟩))
    go_ret
    exact ⟨ret_int Hf.out.symm, (((Below.refl _ _).alloc (Nat.le_refl _) _).trans (HB.out.mono (by simp))).alloc (by have := HB.out.size; simp at this; omega) _⟩

end Go.Proofs.Ytdmojmadklckbaa
