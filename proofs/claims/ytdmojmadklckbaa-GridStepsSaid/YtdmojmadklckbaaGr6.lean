/- Mark, of grid and of the reference; waterwheelkit.Times. -/
import Derived.Test.YtdmojmadklckbaaGr5
import Derived.Deep.QuietTactic
import Derived.BigQuiet
namespace Go.Proofs.Ytdmojmadklckbaa
open Go.RowKit
set_option linter.unusedSimpArgs false
set_option linter.unusedVariables false

/-- May a time not be? -/
def badT (t : Int) : Bool := decide (t < 1 ∨ 1099511627776 < t)
def markE (late : Int) (l : List Int) : Int := if late < 0 ∨ l.any badT = true then 2 else 0
def markT (late : Int) (l : List Int) : Int := if late < 0 ∨ l.any badT = true then 0 else max 0 (maxTo l - late)
theorem maxTo_bd {l : List Int} (h : l.any badT = false) : 0 ≤ maxTo l ∧ maxTo l ≤ 1099511627776 := by
  have key : ∀ (l : List Int) (a : Int), 0 ≤ a → a ≤ 1099511627776 → l.any badT = false → 0 ≤ l.foldl max a ∧ l.foldl max a ≤ 1099511627776 := by
    intro l
    induction l with
    | nil => intro a h0 h1 _; exact ⟨h0, h1⟩
    | cons x l ih =>
      intro a h0 h1 h
      simp only [List.any_cons, Bool.or_eq_false_iff] at h
      rw [List.foldl_cons]
      have hx : 1 ≤ x ∧ x ≤ 1099511627776 := by have := h.1; unfold badT at this; simp at this; exact this
      exact ih (max a x) (by omega) (by omega) h.2
  match l, h with
  | [], _ => exact ⟨Int.le_refl _, by decide⟩
  | x :: l, h =>
    simp only [List.any_cons, Bool.or_eq_false_iff] at h
    have hx : 1 ≤ x ∧ x ≤ 1099511627776 := by have := h.1; unfold badT at this; simp at this; exact this
    exact key l x (by omega) hx.2 h.2

theorem gBad (t : Int) (w : World) : Calls Try.prog 42 #[.int .i64 t] w fun e' w' => e' = .returned (.bool (badT t)) ∧ w = w' := by
  unfold badT
  go_enter Try.func42, Try.ntmps42; (try simp only [List.append_eq, List.cons_append, List.nil_append])
  go_wp2
  all_goals go_ret
  all_goals exact ⟨ret_bool (by (first | rfl | (rw [Bool.eq_iff_iff]; simp only [Bool.and_eq_true, Bool.or_eq_true, decide_eq_true_eq, beq_iff_eq, bne_iff_ne, ne_eq, Bool.not_eq_true', decide_eq_false_iff_not, Bool.false_eq_true, iff_false, false_iff, iff_true, true_iff]; omega))), rfl⟩

/-- An index, or below 0. -/
def FoundI (l : List Int) (w : World) (e : Ending) (w' : World) : Prop := ∃ i : Int, e = .returned (.int .i64 i) ∧ decide (0 ≤ i) = l.any badT ∧ w = w'
set_option maxHeartbeats 1000000 in
theorem sIndexI (l : List Int) (v : Value) (n : Nat) (w : World) (h : IsInts n w v l) :
    Calls Try.prog 55 #[v, .func (.func 42) #[] #[]] w (FoundI l w) := by
  obtain ⟨p, cap, rfl, _, _, hl⟩ := h.open
  unfold maxLen at hl
  have H := Lib.hid h; clear h
  have HB := Lib.hid (fun t wx => gBad t wx)
  go_enter Try.func55, Try.ntmps55; (try simp only [List.append_eq, List.cons_append, List.nil_append])
  go_wp2
  go_loop [8] (fun i => ∃ k : Nat, k ≤ l.length ∧ i = .int .i64 k ∧ (l.take k).any badT = false) (fun i => l.length - (intOf i).toNat)
  case atStart => exact ⟨0, Nat.zero_le _, rfl, by simp⟩
  case round =>
    obtain ⟨k, hk, rfl, hr⟩ := hrel
    have Hr := Lib.hid hr; clear hr
    by_cases hlt : k < l.length
    · obtain ⟨b', off', rfl, hb', c1⟩ := H.out.get hlt
      have Hsn : Hid ((l.take (k + 1)).any badT = badT l[k]) := by
        show _ = _
        rw [List.take_succ_eq_append_getElem hlt, List.any_append, Hr.out]; simp
      have Hyes : Hid (badT l[k] = true → l.any badT = true) := fun h => List.any_eq_true.2 ⟨_, List.getElem_mem hlt, h⟩
      generalize l[k] = x at *
      have HBx := Lib.hid (fun wx => HB.out x wx)
      cases hb : badT x
      all_goals
        rw [hb] at HBx Hsn Hyes
        clear hb
        go_wp2_with (go_at_call 42; refine (HBx.out _).mono ?_; rintro e w' ⟨rfl, rfl⟩)
      · go_round
        case rel => exact ⟨k + 1, by omega, by go_num, Hsn.out⟩
        case measure => simp [intOf]; omega
      · go_ret
        exact ⟨_, rfl, by rw [Hyes.out (by first | rfl | trivial)]; simp, rfl⟩
    · have hk' : k = l.length := by omega
      subst hk'
      rw [List.take_length] at Hr
      go_wp2
      go_ret
      exact ⟨_, rfl, by rw [Hr.out]; rfl, rfl⟩

theorem sContI (l : List Int) (v : Value) (n : Nat) (w : World) (h : IsInts n w v l) :
    Calls Try.prog 41 #[v, .func (.func 42) #[] #[]] w fun e w' => e = .returned (.bool (l.any badT)) ∧ w = w' := by
  have HS := Lib.hid (fun wx (hw : w = wx) => sIndexI l v n wx (by rw [← hw]; exact h))
  go_enter Try.func41, Try.ntmps41; (try simp only [List.append_eq, List.cons_append, List.nil_append])
  go_wp2_with (go_at_call 55; refine (HS.out _ rfl).mono ?_; rintro e w' ⟨i, rfl, hi, rfl⟩; have Hi := Lib.hid hi; clear hi)
  all_goals go_ret
  all_goals exact ⟨ret_bool (by rw [← Hi.out]), rfl⟩

set_option maxHeartbeats 1000000 in
theorem gMark (late : Int) (l : List Int) (v : Value) (n : Nat) (w : World) (hlate : -9223372036854775808 ≤ late ∧ late ≤ 9223372036854775807) (h : IsInts n w v l) :
    Calls Try.prog 17 #[.int .i64 late, v] w fun e w' => e = .returned (.tuple #[.int .i64 (markT late l), .int .i64 (markE late l)]) ∧ w = w' := by
  have HC := Lib.hid (fun wx (hw : w = wx) => sContI l v n wx (by rw [← hw]; exact h))
  have HM := Lib.hid (fun wx (hw : w = wx) (h0 : 0 < l.length) => sMax l v n wx h0 (by rw [← hw]; exact h))
  obtain ⟨p, cap, rfl, _, _, hl⟩ := h.open
  unfold maxLen at hl
  clear h
  obtain ⟨hl1, hl2⟩ := hlate
  by_cases h1 : late < 0
  · have He : Hid (markE late l = 2 ∧ markT late l = 0) := by unfold markE markT; exact ⟨if_pos (.inl h1), if_pos (.inl h1)⟩
    rw [He.out.1, He.out.2]
    go_enter Try.func17, Try.ntmps17; (try simp only [List.append_eq, List.cons_append, List.nil_append])
    go_wp2_with (go_at_call 41; refine (HC.out _ rfl).mono ?_; rintro e w' ⟨rfl, rfl⟩)
    all_goals go_ret2
    all_goals exact ⟨rfl, rfl⟩
  · cases hb : l.any badT with
    | true =>
      have He : Hid (markE late l = 2 ∧ markT late l = 0) := by unfold markE markT; exact ⟨if_pos (.inr hb), if_pos (.inr hb)⟩
      rw [hb] at HC
      rw [He.out.1, He.out.2]
      clear hb
      go_enter Try.func17, Try.ntmps17; (try simp only [List.append_eq, List.cons_append, List.nil_append])
      go_wp2_with (go_at_call 41; refine (HC.out _ rfl).mono ?_; rintro e w' ⟨rfl, rfl⟩)
      all_goals go_ret2
      all_goals exact ⟨rfl, rfl⟩
    | false =>
      have hc : ¬ (late < 0 ∨ l.any badT = true) := by rw [hb]; simp; omega
      have He : Hid (markE late l = 0 ∧ markT late l = max 0 (maxTo l - late)) := by unfold markE markT; exact ⟨if_neg hc, if_neg hc⟩
      rw [He.out.1, He.out.2]
      have hbd := maxTo_bd hb
      obtain ⟨hbd1, hbd2⟩ := hbd
      rw [hb] at HC
      clear hb hc
      by_cases h0 : 0 < l.length
      · have h0' : ((l.length : Int) == 0) = false := beq_eq_false_iff_ne.2 (by omega)
        have HMx := Lib.hid (fun wx hw => HM.out wx hw h0)
        generalize maxTo l = m at *
        by_cases hm : 0 < m - late
        · rw [show max 0 (m - late) = m - late by omega]
          go_enter Try.func17, Try.ntmps17; (try simp only [List.append_eq, List.cons_append, List.nil_append])
          go_wp2_with (first
            | (go_at_call 41; refine (HC.out _ rfl).mono ?_; rintro e w' ⟨rfl, rfl⟩)
            | (go_at_call 43; refine (HMx.out _ rfl).mono ?_; rintro e w' ⟨rfl, rfl⟩))
          all_goals go_ret2
          all_goals exact ⟨rfl, rfl⟩
        · rw [show max 0 (m - late) = 0 by omega]
          go_enter Try.func17, Try.ntmps17; (try simp only [List.append_eq, List.cons_append, List.nil_append])
          go_wp2_with (first
            | (go_at_call 41; refine (HC.out _ rfl).mono ?_; rintro e w' ⟨rfl, rfl⟩)
            | (go_at_call 43; refine (HMx.out _ rfl).mono ?_; rintro e w' ⟨rfl, rfl⟩))
          all_goals go_ret2
          all_goals exact ⟨rfl, rfl⟩
      · have hz : l = [] := List.eq_nil_of_length_eq_zero (by omega)
        subst hz
        rw [show max 0 (maxTo [] - late) = 0 by show max 0 (0 - late) = 0; omega]
        go_enter Try.func17, Try.ntmps17; (try simp only [List.append_eq, List.cons_append, List.nil_append])
        go_wp2_with (go_at_call 41; refine (HC.out _ rfl).mono ?_; rintro e w' ⟨rfl, rfl⟩)
        all_goals go_ret2
        all_goals exact ⟨rfl, rfl⟩

theorem foldl_max0 (l : List Int) (a : Int) (ha : 0 ≤ a) : l.foldl max a = max 0 (l.foldl max a) := by
  induction l generalizing a with
  | nil => simp; omega
  | cons x l ih => rw [List.foldl_cons]; exact ih _ (by omega)
/-- The greatest of numbers and 0. -/
def maxZ (l : List Int) : Int := l.foldl max 0
theorem maxZ_step {l : List Int} {k : Nat} (h : k < l.length) : maxZ (l.take (k + 1)) = max (maxZ (l.take k)) l[k] := by
  rw [List.take_succ_eq_append_getElem h]; simp only [maxZ, List.foldl_append, List.foldl_cons, List.foldl_nil]
theorem maxZ_eq {l : List Int} (h : l.any badT = false) : maxZ l = maxTo l := by
  match l, h with
  | [], _ => rfl
  | x :: l, h =>
    simp only [List.any_cons, Bool.or_eq_false_iff] at h
    have hx : 1 ≤ x := by have := h.1; unfold badT at this; simp at this; exact this.1
    show (x :: l).foldl max 0 = l.foldl max x
    rw [List.foldl_cons, show max 0 x = x by omega]
theorem maxZ_bd {l : List Int} (h : l.any badT = false) : 0 ≤ maxZ l ∧ maxZ l ≤ 1099511627776 := by rw [maxZ_eq h]; exact maxTo_bd h

theorem mark_end {late : Int} {l : List Int} {t e : Int} (h1 : markT late l = t) (h2 : markE late l = e) : Ending.returned (.tuple #[.int .i64 t, .int .i64 e]) = .returned (.tuple #[.int .i64 (markT late l), .int .i64 (markE late l)]) := by rw [h1, h2]
set_option maxRecDepth 100000 in
set_option maxHeartbeats 1000000 in
theorem rMark (late : Int) (l : List Int) (v : Value) (n : Nat) (w : World) (hlate : -9223372036854775808 ≤ late ∧ late ≤ 9223372036854775807) (h : IsInts n w v l) :
    Calls Try.prog 22 #[.int .i64 late, v] w fun e w' => e = .returned (.tuple #[.int .i64 (markT late l), .int .i64 (markE late l)]) ∧ w = w' := by
  obtain ⟨p, cap, rfl, _, _, hl⟩ := h.open
  unfold maxLen at hl
  have H := Lib.hid h; clear h
  obtain ⟨hl1, hl2⟩ := hlate
  by_cases h1 : late < 0
  · have He : Hid (markE late l = 2 ∧ markT late l = 0) := by unfold markE markT; exact ⟨if_pos (.inl h1), if_pos (.inl h1)⟩
    rw [He.out.1, He.out.2]
    go_enter Try.func22, Try.ntmps22; (try simp only [List.append_eq, List.cons_append, List.nil_append])
    go_wp2
    all_goals go_ret2
    all_goals exact ⟨rfl, rfl⟩
  · go_enter Try.func22, Try.ntmps22; (try simp only [List.append_eq, List.cons_append, List.nil_append])
    go_wp2
    go_loop [6, 7] (fun m i => ∃ k : Nat, k ≤ l.length ∧ i = .int .i64 k ∧ m = .int .i64 (maxZ (l.take k)) ∧ (l.take k).any badT = false) (fun _ i => l.length - (intOf i).toNat)
    case atStart => exact ⟨0, Nat.zero_le _, rfl, rfl, by simp⟩
    case round =>
      obtain ⟨k, hk, rfl, rfl, hr⟩ := hrel
      have hbd := maxZ_bd hr
      obtain ⟨hbd1, hbd2⟩ := hbd
      have Hr := Lib.hid hr; clear hr
      by_cases hlt : k < l.length
      · obtain ⟨b', off', rfl, hb', c1⟩ := H.out.get hlt
        have Hsn : Hid ((l.take (k + 1)).any badT = badT l[k]) := by
          show _ = _
          rw [List.take_succ_eq_append_getElem hlt, List.any_append, Hr.out]; simp
        have Hyes : Hid (badT l[k] = true → l.any badT = true) := fun h => List.any_eq_true.2 ⟨_, List.getElem_mem hlt, h⟩
        have Hst := Lib.hid (maxZ_step hlt)
        generalize l[k] = x at *
        generalize maxZ (l.take k) = m at *
        by_cases hx1 : x < 1
        · have He : Hid (markE late l = 2 ∧ markT late l = 0) := by
            have := Hyes.out (by unfold badT; simp; omega)
            unfold markE markT; exact ⟨if_pos (.inr this), if_pos (.inr this)⟩
          go_wp2
          all_goals go_ret2
          all_goals exact ⟨mark_end He.out.2 He.out.1, rfl⟩
        · by_cases hx2 : 1099511627776 < x
          · have He : Hid (markE late l = 2 ∧ markT late l = 0) := by
              have := Hyes.out (by unfold badT; simp; omega)
              unfold markE markT; exact ⟨if_pos (.inr this), if_pos (.inr this)⟩
            go_wp2
            all_goals go_ret2
            all_goals exact ⟨mark_end He.out.2 He.out.1, rfl⟩
          · have Hnb : Hid (badT x = false) := by show _ = _; unfold badT; simp; omega
            go_wp2
            go_round
            case rel =>
              refine ⟨k + 1, by omega, by go_num, ?_, by rw [Hsn.out]; exact Hnb.out⟩
              rw [Hst.out]
              congr 1
              split <;> omega
            case measure => simp [intOf]; omega
      · have hk' : k = l.length := by omega
        subst hk'
        rw [List.take_length] at *
        have He : Hid (markE late l = 0 ∧ markT late l = max 0 (maxZ l - late)) := by
          have hc : ¬ (late < 0 ∨ l.any badT = true) := by rw [Hr.out]; simp; omega
          unfold markE markT
          rw [maxZ_eq Hr.out]
          exact ⟨if_neg hc, if_neg hc⟩
        generalize maxZ l = m at *
        by_cases hm : 0 < m - late
        · have He2 : Hid (markT late l = m - late) := by show _ = _; rw [He.out.2]; omega
          go_wp2
          all_goals go_ret2
          all_goals exact ⟨mark_end He2.out He.out.1, rfl⟩
        · have He2 : Hid (markT late l = 0) := by show _ = _; rw [He.out.2]; omega
          go_wp2
          all_goals go_ret2
          all_goals exact ⟨mark_end He2.out He.out.1, rfl⟩

theorem eq_of_uptoI {a b : List Int} (hl : a.length = b.length) (h : a.take a.length = b.take a.length) : a = b := by
  rwa [List.take_of_length_le (Nat.le_refl _), List.take_of_length_le (by omega)] at h

set_option maxHeartbeats 1000000 in
theorem kTimes (la lb : List Int) (va vb : Value) (n : Nat) (w : World) (hn : n ≤ w.heap.size) (ha : IsInts n w va la) (hb : IsInts n w vb lb) :
    Calls Try.prog 18 #[va, vb] w fun e w' => e = .returned (.bool (decide (la = lb))) ∧ Below w.heap.size w w' := by
  obtain ⟨p, cap, rfl, _, _, hla⟩ := ha.open
  obtain ⟨q, cbp, rfl, _, _, hlb⟩ := hb.open
  unfold maxLen at hla hlb
  by_cases hl : la.length = lb.length
  · have Hl := Lib.hid hl; clear hl
    have hl : ((la.length : Int) != (lb.length : Int)) = false := by simp [Hl.out]
    go_enter Try.func18, Try.ntmps18; (try simp only [List.append_eq, List.cons_append, List.nil_append])
    go_wp2
    go_loopw [5] (fun i wr => ∃ k : Nat, k ≤ la.length ∧ i = .int .i64 k ∧ la.take k = lb.take k ∧ Below w.heap.size w wr) (fun i _ => la.length - (intOf i).toNat)
    case atStart => exact ⟨0, Nat.zero_le _, rfl, by simp, Below.refl _ _⟩
    case round =>
      obtain ⟨k, hk, rfl, hr, hbl⟩ := hrel
      have Hr := Lib.hid hr; clear hr
      have Hb := Lib.hid hbl; clear hbl
      by_cases hlt : k < la.length
      · have hltb : k < lb.length := by have := Hl.out; omega
        obtain ⟨b, off, rfl, hbn, h1⟩ := (ha.mono (Hb.out.mono hn) (Nat.le_refl _)).get hlt
        obtain ⟨b', off', rfl, hbn', h1'⟩ := (hb.mono (Hb.out.mono hn) (Nat.le_refl _)).get hltb
        have Ha := Lib.hid ha; clear ha
        have Hbb := Lib.hid hb; clear hb
        have Hno : Hid (¬ la[k] = lb[k] → ¬ la = lb) := fun h e => h (by subst e; rfl)
        have Hyes : Hid (la[k] = lb[k] → la.take (k + 1) = lb.take (k + 1)) := fun h => by rw [List.take_succ_eq_append_getElem hlt, List.take_succ_eq_append_getElem hltb, Hr.out, h]
        generalize la[k] = x at *
        generalize lb[k] = y at *
        by_cases e1 : x = y
        · have g1 : (x != y) = false := by simp [e1]
          have E1 := Lib.hid e1; clear e1
          go_wp2
          go_quiet (fail)
          go_wp2
          exact ⟨⟨k + 1, by omega, by go_num, Hyes.out E1.out, below_drewN Hb.out _⟩, by simp [intOf]; omega⟩
        · have g1 : (x != y) = true := by simp [e1]
          have E1 := Lib.hid e1; clear e1
          go_wp2
          go_quiet (fail)
          go_wp2
          go_ret
          exact ⟨ret_bool (Eq.symm (decide_eq_false (Hno.out E1.out))), below_drewN Hb.out _⟩
      · go_wp2
        go_ret
        refine ⟨ret_bool (Eq.symm (decide_eq_true ?_)), Hb.out⟩
        have hk' : k = la.length := by omega
        subst hk'
        exact eq_of_uptoI Hl.out Hr.out
  · have hl' : ((la.length : Int) != (lb.length : Int)) = true := by simp; omega
    go_enter Try.func18, Try.ntmps18; (try simp only [List.append_eq, List.cons_append, List.nil_append])
    go_wp2
    go_ret
    exact ⟨ret_bool (Eq.symm (decide_eq_false (fun e => hl (by rw [e])))), Below.refl _ _⟩

end Go.Proofs.Ytdmojmadklckbaa
