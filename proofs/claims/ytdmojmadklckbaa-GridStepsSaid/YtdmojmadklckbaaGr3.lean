/- grid: Last, First; the reference's every, Next, Last, First, In. -/
import Derived.Test.YtdmojmadklckbaaGr2
namespace Go.Proofs.Ytdmojmadklckbaa
open Go.RowKit
set_option linter.unusedSimpArgs false
set_option linter.unusedVariables false

def lastT (ev mark : Int) : Int := if evOk ev && decide (0 ≤ mark) then min mark MT - min mark MT % ev else 0
def firstT (ev mark : Int) : Int := match nextT ev mark with
  | some t => t / ev
  | none => 0
theorem nextT_bd {ev mark t : Int} (h : nextT ev mark = some t) : 1 ≤ ev ∧ ev ≤ 1073741824 ∧ 0 < t ∧ t ≤ MT ∧ mark < t ∧ t = t0 ev mark ∧ mark < MT := by
  unfold nextT at h
  split at h
  · rename_i hc
    simp only [Bool.and_eq_true, evOk_iff, decide_eq_true_eq] at hc
    cases h
    have := t0_bd (ev := ev) (mark := mark) hc.1.1.1
    exact ⟨hc.1.1.1, hc.1.1.2, by omega, hc.2, by omega, rfl, hc.1.2⟩
  · cases h

set_option maxRecDepth 100000 in
set_option maxHeartbeats 1000000 in
theorem gFirst (ev mark : Int) (e : Ex) (cs : List Value) (w : World) (he : QCells e cs) (hmk : -9223372036854775808 ≤ mark ∧ mark ≤ 9223372036854775807) :
    Calls Try.prog 20 #[.agg (.int .i64 ev :: cs).toArray, .int .i64 mark] w fun e' w' => e' = .returned (.int .i64 (firstT ev mark)) ∧ Below w.heap.size w w' := by
  have HN := Lib.hid (fun wx => gNext ev mark e cs wx he hmk)
  obtain ⟨pm, cm, pn, cn, pk, ck, rfl⟩ := he
  cases hn : nextT ev mark with
  | none =>
    have Hf : Hid (firstT ev mark = 0) := by show _ = _; unfold firstT; rw [hn]
    unfold nextV at HN
    rw [hn] at HN
    clear hn
    go_enter Try.func20, Try.ntmps20; (try simp only [List.append_eq, List.cons_append, List.nil_append])
    go_wp2_with (go_at_call 15; refine (HN.out _).mono ?_; rintro e' w1 ⟨rfl, hb⟩; have HB := Lib.hid hb; clear hb)
    go_ret
    exact ⟨ret_int Hf.out.symm, ((Below.refl _ _).alloc (Nat.le_refl _) _).trans (HB.out.mono (by simp))⟩
  | some t =>
    have Hf : Hid (firstT ev mark = t / ev) := by show _ = _; unfold firstT; rw [hn]
    have hbd := nextT_bd hn
    obtain ⟨h1, h2, h3, h4, -, -, -⟩ := hbd
    unfold MT at h4
    unfold nextV at HN
    rw [hn] at HN
    clear hn
    have hev0 : ev ≠ 0 := by omega
    have hev0' : (ev == 0) = false := by simpa using hev0
    go_enter Try.func20, Try.ntmps20; (try simp only [List.append_eq, List.cons_append, List.nil_append])
    go_wp2_with (go_at_call 15; refine (HN.out _).mono ?_; rintro e' w1 ⟨rfl, hb⟩; have hbx := (Box.new w ([.int .i64 ev, .int .i64 e.kind, .int .i64 e.fn, .int .i64 e.op, .int .i64 e.num, .string e.metric, .slice pm e.mats.length cm, .int .i64 e.span, .slice pn e.names.length cn, .slice pk e.kids.length ck]) 28).keep hb; have c0 := hbx.2 0 _ rfl; clear hbx; have HB := Lib.hid hb; clear hb)
    go_ret
    exact ⟨ret_int Hf.out.symm, ((Below.refl _ _).alloc (Nat.le_refl _) _).trans (HB.out.mono (by simp))⟩

set_option maxRecDepth 100000 in
set_option maxHeartbeats 1000000 in
theorem gLast (ev mark : Int) (e : Ex) (cs : List Value) (w : World) (he : QCells e cs) (hmk : -9223372036854775808 ≤ mark ∧ mark ≤ 9223372036854775807) :
    Calls Try.prog 23 #[.agg (.int .i64 ev :: cs).toArray, .int .i64 mark] w fun e' w' => e' = .returned (.int .i64 (lastT ev mark)) ∧ Below w.heap.size w w' := by
  have HR := Lib.hid (fun wx => gRight ev e cs wx he)
  obtain ⟨pm, cm, pn, cn, pk, ck, rfl⟩ := he
  obtain ⟨hm1, hm2⟩ := hmk
  cases hok : evOk ev with
  | false =>
    have Hf : Hid (lastT ev mark = 0) := by show _ = _; unfold lastT; rw [hok]; rfl
    rw [hok] at HR
    clear hok
    go_enter Try.func23, Try.ntmps23; (try simp only [List.append_eq, List.cons_append, List.nil_append])
    go_wp2_with (go_at_call 45; refine (HR.out _).mono ?_; rintro e' w1 ⟨rfl, rfl⟩)
    go_ret
    exact ⟨ret_int Hf.out.symm, ((Below.refl _ _).alloc (Nat.le_refl _) _).alloc (by simp) _⟩
  | true =>
    have hok' := evOk_iff.1 hok
    obtain ⟨h1, h2⟩ := hok'
    by_cases h0 : 0 ≤ mark
    · have Hf : Hid (lastT ev mark = min mark 1099511627776 - min mark 1099511627776 % ev) := by show _ = _; unfold lastT MT; rw [hok, if_pos (by simpa using h0)]
      rw [hok] at HR
      clear hok
      have hev0 : ev ≠ 0 := by omega
      have hev0' : (ev == 0) = false := by simpa using hev0
      have h0' : ¬ mark < 0 := by omega
      have hr1 := Int.emod_nonneg (min mark 1099511627776) hev0
      have hr2 := Int.emod_lt_of_pos (min mark 1099511627776) (show 0 < ev by omega)
      have hr3 : min mark 1099511627776 % ev ≤ min mark 1099511627776 := by
        have := Int.ediv_mul_add_emod (min mark 1099511627776) ev
        have : 0 ≤ min mark 1099511627776 / ev * ev := Int.mul_nonneg (Int.ediv_nonneg (by omega) (by omega)) (by omega)
        omega
      have hmin : (if mark ≤ 1099511627776 then mark else 1099511627776) = min mark 1099511627776 := by split <;> omega
      by_cases hle : mark ≤ 1099511627776
      · rw [show min mark 1099511627776 = mark by omega] at *
        have hle' : ¬ 1099511627776 < mark := by omega
        go_enter Try.func23, Try.ntmps23; (try simp only [List.append_eq, List.cons_append, List.nil_append])
        go_wp2_with (go_at_call 45; refine (HR.out _).mono ?_; rintro e' w1 ⟨rfl, rfl⟩)
        go_ret
        exact ⟨ret_int Hf.out.symm, ((Below.refl _ _).alloc (Nat.le_refl _) _).alloc (by simp) _⟩
      · rw [show min mark 1099511627776 = 1099511627776 by omega] at *
        have hle' : 1099511627776 < mark := by omega
        go_enter Try.func23, Try.ntmps23; (try simp only [List.append_eq, List.cons_append, List.nil_append])
        go_wp2_with (go_at_call 45; refine (HR.out _).mono ?_; rintro e' w1 ⟨rfl, rfl⟩)
        go_ret
        exact ⟨ret_int Hf.out.symm, ((Below.refl _ _).alloc (Nat.le_refl _) _).alloc (by simp) _⟩
    · have Hf : Hid (lastT ev mark = 0) := by show _ = _; unfold lastT; rw [if_neg (by simp [h0])]
      rw [hok] at HR
      clear hok
      have h0' : mark < 0 := by omega
      go_enter Try.func23, Try.ntmps23; (try simp only [List.append_eq, List.cons_append, List.nil_append])
      go_wp2_with (go_at_call 45; refine (HR.out _).mono ?_; rintro e' w1 ⟨rfl, rfl⟩)
      go_ret
      exact ⟨ret_int Hf.out.symm, ((Below.refl _ _).alloc (Nat.le_refl _) _).alloc (by simp) _⟩

end Go.Proofs.Ytdmojmadklckbaa
