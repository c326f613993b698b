/- The round trip whole. No program here. -/
import Derived.Test.YtobelmipjanibaaDoorPp7
namespace Go.Proofs.YtobelmipjanibaaDoor
open Go.RowKit
set_option linter.unusedSimpArgs false
set_option linter.unusedVariables false

/-- Read in all ways that its strength lets. -/
def RTall (L : List Tok) (n : Nat) (e : Ex) : Prop := ∀ (p : PS) (t : Tok) (r : List Tok), p.opn + n < 64 → At L p (exTT e ++ t :: r) →
  (3 ≤ strI e.kind e.op → RTa L e p t r) ∧ (2 ≤ strI e.kind e.op → RTt L e p t r) ∧ (1 ≤ strI e.kind e.op → noSt t [42] → RTs L e p t r) ∧ (stopT t → RTe L e p t r)
theorem kid_in {L : List Tok} {n : Nat} {e : Ex} (h : RTall L n e) (p : PS) (t : Tok) (r : List Tok) (ho : p.opn + n + 1 < 64) (hat : At L p ([sT [40]] ++ exTT e ++ [sT [41]] ++ t :: r)) : RTa L e p t r := by
  refine rt_br L e p (exTT e) t r (by omega) (by simpa using hat) ?_
  intro q hq hq2
  exact (h q (sT [41]) (t :: r) (by omega) hq2).2.2.2 stop_shut
theorem kid_a {L : List Tok} {n : Nat} {e : Ex} (h : RTall L n e) (p : PS) (t : Tok) (r : List Tok) (ho : p.opn + n + 1 < 64) (hat : At L p (kidTs 3 (strI e.kind e.op, exTT e) ++ t :: r)) : RTa L e p t r := by
  by_cases hs : 3 ≤ strI e.kind e.op
  · rw [kidTs, if_pos hs] at hat
    exact (h p t r (by omega) hat).1 hs
  · rw [kidTs, if_neg hs] at hat
    exact kid_in h p t r ho hat
theorem kid_t {L : List Tok} {n : Nat} {e : Ex} (h : RTall L n e) (p : PS) (t : Tok) (r : List Tok) (ho : p.opn + n + 1 < 64) (hat : At L p (kidTs 2 (strI e.kind e.op, exTT e) ++ t :: r)) : RTt L e p t r := by
  by_cases hs : 2 ≤ strI e.kind e.op
  · rw [kidTs, if_pos hs] at hat
    exact (h p t r (by omega) hat).2.1 hs
  · rw [kidTs, if_neg hs] at hat
    exact (kid_in h p t r ho hat).term
theorem kid_s {L : List Tok} {n : Nat} {e : Ex} (h : RTall L n e) (p : PS) (t : Tok) (r : List Tok) (ho : p.opn + n + 1 < 64) (ht : noSt t [42]) (hat : At L p (kidTs 1 (strI e.kind e.op, exTT e) ++ t :: r)) : RTs L e p t r := by
  by_cases hs : 1 ≤ strI e.kind e.op
  · rw [kidTs, if_pos hs] at hat
    exact (h p t r (by omega) hat).2.2.1 hs ht
  · rw [kidTs, if_neg hs] at hat
    exact (kid_in h p t r ho hat).term.sum ht
theorem front_kid (l : Int) (s : Int) {ts : List Tok} (h : ∃ t0 r0, ts = t0 :: r0 ∧ frontT t0) : ∃ t0 r0, kidTs l (s, ts) = t0 :: r0 ∧ frontT t0 := by
  unfold kidTs
  split
  · exact h
  · exact ⟨_, _, rfl, front_open⟩

theorem tt_win (fn span : Int) (metric : ByteArray) (mats : List Mat) : exTT (.mk 1 fn 0 0 metric mats span [] []) = wT (wordL 1 fn) :: ([sT [40], wT metric.data.toList] ++ matsT mats ++ [sT [91], nT span, sT [93], sT [41]]) := by
  rw [exTT, nodeTs, if_pos rfl]; simp
theorem tt_grp (fn : Int) (names : List ByteArray) (a : Ex) : exTT (.mk 2 fn 0 0 ⟨#[]⟩ [] 0 names [a]) = wT (wordL 2 fn) :: wT [98, 121] :: (namesT names ++ sT [40] :: (exTT a ++ [sT [41]])) := by
  rw [exTT, nodeTs, if_neg (by decide), if_pos rfl]; simp [exTTs]
theorem tt_join (op : Int) (names : List ByteArray) (a b : Ex) : exTT (.mk 3 0 op 0 ⟨#[]⟩ [] 0 names [a, b]) = kidTs (strI 3 op) (strI a.kind a.op, exTT a) ++ sT (signL op) :: (onTs names ++ kidTs (strI 3 op + 1) (strI b.kind b.op, exTT b)) := by
  rw [exTT, nodeTs, if_neg (by decide), if_neg (by decide), if_pos rfl]; simp [exTTs]
theorem tt_scale (op num : Int) (a : Ex) : exTT (.mk 4 0 op num ⟨#[]⟩ [] 0 [] [a]) = kidTs (strI 4 op) (strI a.kind a.op, exTT a) ++ [sT (signL op), nT num] := by
  rw [exTT, nodeTs, if_neg (by decide), if_neg (by decide), if_neg (by decide), if_pos rfl]; simp [exTTs]
theorem tt_filt (op num : Int) (a : Ex) : exTT (.mk 5 0 op num ⟨#[]⟩ [] 0 [] [a]) = kidTs 1 (strI a.kind a.op, exTT a) ++ [sT (signL op), nT num] := by
  rw [exTT, nodeTs, if_neg (by decide), if_neg (by decide), if_neg (by decide), if_neg (by decide), if_pos rfl]; simp [exTTs]
theorem str_op {k op : Int} (hk : k = 3 ∨ k = 4) (h : 1 ≤ op ∧ op ≤ 3) : (op = 3 ∧ strI k op = 2) ∨ ((op = 1 ∨ op = 2) ∧ strI k op = 1) := by
  have : op = 3 ∨ (op = 1 ∨ op = 2) := by omega
  rcases this with h3 | h3
  · left; refine ⟨h3, ?_⟩; unfold strI; rw [if_pos hk, if_pos h3]
  · right; refine ⟨h3, ?_⟩; unfold strI; rw [if_pos hk, if_neg (by omega)]
theorem front_of : ∀ {n : Nat} {e : Ex}, Good n e → ∃ t0 r0, exTT e = t0 :: r0 ∧ frontT t0 := by
  intro n e h
  have app : ∀ (ts u : List Tok), (∃ t0 r0, ts = t0 :: r0 ∧ frontT t0) → ∃ t0 r0, ts ++ u = t0 :: r0 ∧ frontT t0 := by
    rintro ts u ⟨t0, r0, rfl, h⟩; exact ⟨t0, r0 ++ u, rfl, h⟩
  induction h with
  | win n fn span metric mats h1 h2 h3 h4 => rw [tt_win]; exact ⟨_, _, rfl, by simp [wT], by simp [noSt, wT, (word1_ne h1).2]⟩
  | grp n fn names a h1 h2 _ ih => rw [tt_grp]; exact ⟨_, _, rfl, by simp [wT], by simp [noSt, wT, (word2_ne h1).2]⟩
  | join n op names a b h1 h2 _ _ ih ih' => rw [tt_join]; exact app _ _ (front_kid _ _ ih)
  | scale n op num a h1 h2 _ ih => rw [tt_scale]; exact app _ _ (front_kid _ _ ih)
  | filt n op num a h1 h2 _ ih => rw [tt_filt]; exact app _ _ (front_kid _ _ ih)

theorem all_of_a {L : List Tok} {e : Ex} {p : PS} {t : Tok} {r : List Tok} (ra : RTa L e p t r) : (3 ≤ strI e.kind e.op → RTa L e p t r) ∧ (2 ≤ strI e.kind e.op → RTt L e p t r) ∧ (1 ≤ strI e.kind e.op → noSt t [42] → RTs L e p t r) ∧ (stopT t → RTe L e p t r) :=
  ⟨fun _ => ra, fun _ => ra.term, fun _ ht => ra.term.sum ht, fun hs => (ra.term.sum hs.1).ex hs⟩
theorem all_of_t {L : List Tok} {e : Ex} {p : PS} {t : Tok} {r : List Tok} (h3 : strI e.kind e.op < 3) (rt : RTt L e p t r) : (3 ≤ strI e.kind e.op → RTa L e p t r) ∧ (2 ≤ strI e.kind e.op → RTt L e p t r) ∧ (1 ≤ strI e.kind e.op → noSt t [42] → RTs L e p t r) ∧ (stopT t → RTe L e p t r) :=
  ⟨fun h => by omega, fun _ => rt, fun _ ht => rt.sum ht, fun hs => (rt.sum hs.1).ex hs⟩
theorem all_of_s {L : List Tok} {e : Ex} {p : PS} {t : Tok} {r : List Tok} (h2 : strI e.kind e.op < 2) (rs : noSt t [42] → RTs L e p t r) : (3 ≤ strI e.kind e.op → RTa L e p t r) ∧ (2 ≤ strI e.kind e.op → RTt L e p t r) ∧ (1 ≤ strI e.kind e.op → noSt t [42] → RTs L e p t r) ∧ (stopT t → RTe L e p t r) :=
  ⟨fun h => by omega, fun h => by omega, fun _ ht => rs ht, fun hs => (rs hs.1).ex hs⟩

theorem rt_all (L : List Tok) : ∀ {n : Nat} {e : Ex}, Good n e → RTall L n e := by
  intro n e h
  induction h with
  | win n fn span metric mats h1 h2 h3 h4 =>
    intro p t r ho hat
    rw [tt_win] at hat
    exact all_of_a (rt_win L fn span metric mats h1 (mats_ok h3) p t r (by omega) (by simpa using hat))
  | grp n fn names a h1 h2 _ ih =>
    intro p t r ho hat
    rw [tt_grp] at hat
    refine all_of_a (rt_grp L fn names a h1 (names_ok h2) p (exTT a) t r (by omega) (by simpa using hat) ?_)
    intro q hq hq2
    exact (ih q (sT [41]) (t :: r) (by omega) hq2).2.2.2 stop_shut
  | join n op names a b h1 h2 _ hb ih ih' =>
    intro p t r ho hat
    rw [tt_join] at hat
    obtain ⟨t0, r0, e0, f0⟩ := front_kid (strI 3 op + 1) (strI b.kind b.op) (front_of hb)
    have hkb : ∀ q : PS, At L q (t0 :: (r0 ++ t :: r)) → At L q (kidTs (strI 3 op + 1) (strI b.kind b.op, exTT b) ++ t :: r) := by
      intro q hq; rw [e0]; exact hq
    rw [e0] at hat
    rcases str_op (.inl rfl) h1 with ⟨rfl, hs⟩ | ⟨h12, hs⟩
    · rw [hs] at hat hkb
      refine all_of_t (by show strI 3 3 < 3; omega) (rt_mul_join L a b names (names_ok h2) p t0 (r0 ++ t :: r) t r (by omega) f0 ?_ ?_)
      · exact kid_t ih p (sT [42]) _ (by omega) (by simpa [signL] using hat)
      · intro q hq hq2
        exact kid_a ih' q t r (by omega) (hkb q hq2)
    · rw [hs] at hat hkb
      refine all_of_s (by show strI 3 op < 2; omega) (fun ht => rt_add_join L op h12 a b names (names_ok h2) p t0 (r0 ++ t :: r) t r (by omega) f0 ?_ ht ?_)
      · exact kid_s ih p (sT (signL op)) _ (by omega) (by rcases h12 with rfl | rfl <;> decide) (by simpa using hat)
      · intro q hq hq2
        exact kid_t ih' q t r (by omega) (hkb q hq2)
  | scale n op num a h1 h2 _ ih =>
    intro p t r ho hat
    rw [tt_scale] at hat
    rcases str_op (.inr rfl) h1 with ⟨rfl, hs⟩ | ⟨h12, hs⟩
    · rw [hs] at hat
      exact all_of_t (by show strI 4 3 < 3; omega) (rt_mul_num L a num p t r (kid_t ih p (sT [42]) _ (by omega) (by simpa [signL] using hat)))
    · rw [hs] at hat
      exact all_of_s (by show strI 4 op < 2; omega) (fun _ => rt_add_num L op h12 a num p t r (kid_s ih p (sT (signL op)) _ (by omega) (by rcases h12 with rfl | rfl <;> decide) (by simpa using hat)))
  | filt n op num a h1 h2 _ ih =>
    intro p t r ho hat
    rw [tt_filt] at hat
    have hs : strI 5 op = 0 := by unfold strI; rw [if_neg (by omega), if_pos rfl]
    have hn : noSt (sT (signL op)) [42] := by
      have : op = 4 ∨ op = 5 ∨ op = 6 ∨ op = 7 ∨ op = 8 ∨ op = 9 := by omega
      rcases this with rfl | rfl | rfl | rfl | rfl | rfl <;> decide
    refine ⟨fun h => absurd h (by show ¬ 3 ≤ strI 5 op; omega), fun h => absurd h (by show ¬ 2 ≤ strI 5 op; omega), fun h => absurd h (by show ¬ 1 ≤ strI 5 op; omega), fun _ => ?_⟩
    exact rt_filt L op h1 a num p t r (kid_s ih p (sT (signL op)) _ (by omega) hn (by simpa using hat))

/-- The same tokens, the same expression. -/
theorem same_ex {L : List Tok} {p : PS} {n m : Nat} {a b : Ex} {t u : Tok} {r s : List Tok} (ha : Good n a) (hb : Good m b) (hn : p.opn + n < 64) (hm : p.opn + m < 64) (ht : stopT t) (hu : stopT u) (h : At L p (exTT a ++ t :: r)) (h' : At L p (exTT b ++ u :: s)) : a = b := by
  obtain ⟨F, i, _, h1⟩ := (rt_all L ha p t r hn h).2.2.2 ht
  obtain ⟨F', i', _, h2⟩ := (rt_all L hb p u s hm h').2.2.2 hu
  have := (h1 (F + F') (by omega)).symm.trans (h2 (F + F') (by omega))
  simp only [Option.some.injEq, Prod.mk.injEq] at this
  exact this.1
end Go.Proofs.YtobelmipjanibaaDoor
