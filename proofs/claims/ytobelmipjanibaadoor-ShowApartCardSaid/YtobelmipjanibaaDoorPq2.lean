/- A shown query is lexed as its tokens: the whole; unlike queries have unlike texts. No program here. -/
import Derived.Test.YtobelmipjanibaaDoorPq1
import Derived.Test.YtobelmipjanibaaDoorPp8
namespace Go.Proofs.YtobelmipjanibaaDoor
open Go.RowKit
set_option linter.unusedSimpArgs false
set_option linter.unusedVariables false

theorem i64_of {n : Int} (h : 1 ≤ n ∧ n ≤ 1073741824) : -9223372036854775808 ≤ n ∧ n ≤ 9223372036854775807 := by omega
theorem lx_ex : ∀ {n : Nat} {e : Ex}, Good n e → LxG anyF true (exT e) (exTT e) anyF := by
  intro n e h
  induction h with
  | win n fn span metric mats h1 h2 h3 h4 =>
    rw [tx_win, tt_win]
    have hm : ∃ x c', matsL mats ++ ([91] ++ Lib.itoa span ++ [93, 41]) = x :: c' ∧ wordC x = false := by
      unfold matsL
      cases mats with
      | nil => exact ⟨91, Lib.itoa span ++ [93, 41], by simp, by decide⟩
      | cons m l => exact ⟨123, _, by simp [matsUp, matL]; rfl, by decide⟩
    have hb : LxG anyF false ([91] ++ Lib.itoa span ++ [93, 41]) ([sT [91], nT span, sT [93], sT [41]]) anyF :=
      (((lx_s 91 (by decide)).app (lx_num (i64_of h4)) (fun _ _ => .inl (by omega)) (.inl rfl)).and lx_ends (.inr ⟨93, [41], rfl, by decide⟩))
    have h5 := ((lx_word (word1_word h1)).and (lx_s 40 (by decide)) (.inr ⟨40, [], rfl, by decide⟩)).and ((lx_word (name_word h2)).and ((lx_mats h3).and hb (.inl rfl)) (.inr hm)) (.inl rfl)
    refine LxG.weak (b := false) ?_
    simpa using h5
  | grp n fn names a h1 h2 _ ih =>
    rw [tx_grp, tt_grp]
    have h5 := ((((lx_word (word2_word h1)).and lx_by (.inr ⟨32, _, rfl, by decide⟩)).and (lx_namesAll h2) (.inl rfl)).and lx_mid (.inr ⟨41, _, rfl, by decide⟩)).and (ih.and (lx_s 41 (by decide)) (.inr ⟨41, [], rfl, by decide⟩)) (.inl rfl)
    refine LxG.weak (b := false) ?_
    simpa [namesT] using h5
  | join n op names a b h1 h2 _ _ ih ih' =>
    rw [tx_join, tt_join]
    have h5 := (((lx_kid (strI 3 op) (strI a.kind a.op) ih).and (lx_op (op := op) (by omega)).any (.inr ⟨32, _, rfl, by decide⟩)).and (lx_on h2) (.inl rfl)).and (lx_kid (strI 3 op + 1) (strI b.kind b.op) ih') (.inl rfl)
    simpa using h5
  | scale n op num a h1 h2 _ ih =>
    rw [tx_scale, tt_scale]
    exact (lx_kid (strI 4 op) (strI a.kind a.op) ih).and (lx_op_num (by omega) h2) (.inr ⟨32, _, rfl, by decide⟩)
  | filt n op num a h1 h2 _ ih =>
    rw [tx_filt, tt_filt]
    exact (lx_kid 1 (strI a.kind a.op) ih).and (lx_op_num (by omega) h2) (.inr ⟨32, _, rfl, by decide⟩)
theorem lx_query {n : Nat} {e : Ex} (h : Good n e) {every : Int} (hev : 1 ≤ every ∧ every ≤ 1073741824) : LxG anyF true (queryT every e) (queryTT every e) anyF := by
  have h1 : LxG anyF true [101, 118, 101, 114, 121] [wT [101, 118, 101, 114, 121]] anyF := lx_word (by decide)
  have h2 : LxG anyF false [58, 32] [sT [58]] anyF := (lx_s 58 (by decide)).and (LxG.blank anyF) (.inl rfl)
  have h3 := ((((h1.and (LxG.blank anyF) (.inr ⟨32, [], rfl, by decide⟩)).app (lx_num (i64_of hev)) (fun _ _ => .inl (by omega)) (.inl rfl)).and h2 (.inr ⟨58, [32], rfl, by decide⟩)).and (lx_ex h) (.inl rfl))
  have e1 : queryT every e = [101, 118, 101, 114, 121] ++ [32] ++ Lib.itoa every ++ [58, 32] ++ exT e := by simp [queryT]
  have e2 : queryTT every e = [wT [101, 118, 101, 114, 121]] ++ [] ++ [nT every] ++ [sT [58]] ++ exTT e := by simp [queryTT]
  rw [e1, e2]; exact h3
def endT : Tok := ⟨5, [], 0, 0⟩
/-- The tokens of a query's text. -/
theorem lex_query {n : Nat} {e : Ex} (h : Good n e) {every : Int} (hev : 1 ≤ every ∧ every ≤ 1073741824) : ∃ l, lexL true 0 (queryT every e) = .ok l ∧ l.map Tok.z = queryTT every e ++ [endT] := by
  obtain ⟨l, f, _, h1, h2⟩ := lx_query h hev true 0 [] trivial (fun _ => rfl)
  rw [List.append_nil, lexL_nil] at h2
  refine ⟨l ++ [⟨5, [], 0, ((0 + (queryT every e).length : Nat) : Int)⟩], h2.trans rfl, ?_⟩
  rw [List.map_append, h1]; rfl
theorem good_check {every : Int} {e : Ex} (h : checkQuery every e = 0) (h64 : e.num64) : Good 16 e ∧ 1 ≤ every ∧ every ≤ 1073741824 := by
  unfold checkQuery at h
  split at h
  · rename_i hev
    refine ⟨?_, hev⟩
    unfold checkExpr at h
    split at h
    · cases h
    · rename_i h1
      split at h
      · rename_i h2
        exact (good_of e h2 h64).mono (by omega)
      · cases h
  · cases h
/-- Unlike queries have unlike texts. -/
theorem query_inj {a b : Ex} {x y : Int} (ha : checkQuery x a = 0) (hb : checkQuery y b = 0) (h64 : a.num64) (h64' : b.num64) (h : queryT x a = queryT y b) : x = y ∧ a = b := by
  obtain ⟨ga, hx⟩ := good_check ha h64
  obtain ⟨gb, hy⟩ := good_check hb h64'
  obtain ⟨l, e1, e2⟩ := lex_query ga hx
  obtain ⟨l', e3, e4⟩ := lex_query gb hy
  rw [h] at e1
  rw [e1] at e3
  simp only [Except.ok.injEq] at e3
  subst e3
  have ee := e2.symm.trans e4
  have hxy : x = y := by
    have e0 := ee
    simp only [queryTT, List.cons_append, List.nil_append, List.cons.injEq, true_and, nT, Tok.mk.injEq] at e0
    exact e0.1.2.1
  refine ⟨hxy, ?_⟩
  have q1 : At l ⟨3, 0, 0, 0⟩ (exTT a ++ [endT]) := ⟨rfl, by
    show (l.drop 3).map Tok.z = _
    rw [List.map_drop, e2]; rfl⟩
  have q2 : At l ⟨3, 0, 0, 0⟩ (exTT b ++ [endT]) := ⟨rfl, by
    show (l.drop 3).map Tok.z = _
    rw [List.map_drop, e4]; rfl⟩
  exact same_ex ga gb (by show (0 : Int) + ((16 : Nat) : Int) < 64; omega) (by show (0 : Int) + ((16 : Nat) : Int) < 64; omega) (stop_end _ rfl) (stop_end _ rfl) q1 q2
end Go.Proofs.YtobelmipjanibaaDoor
