/- What the reference's Query reads: a shown query's text; a text that is too long; any text. -/
import Derived.Test.YtobelmipjanibaaDoorK28
import Derived.Test.YtobelmipjanibaaDoorK33
import Derived.Test.YtobelmipjanibaaDoorK14
import Derived.Test.YtobelmipjanibaaDoorK16
namespace Go.Proofs.YtobelmipjanibaaDoor
open Go.RowKit
set_option linter.unusedSimpArgs false
set_option linter.unusedVariables false

theorem rdQuery (s : ByteArray) (w : World) (hs : s.size ≤ maxLen) {f : Nat} {e : Ex} {p4 : PS} (hr : pExpr (LX s) f (P3 s) = some (e, p4)) :
    Calls Tryd.prog 20 #[.string s] w (QryR s e (p4.done (LX s) (checkQuery (EV s) e)) w) :=
  pQuery s w (fun w => rAll s w hs) e p4 f hr (fun cs W he => rCheck (EV s) e cs W.heap.size W (Nat.le_refl _) he (by have := expr_size hr (pw3 s); omega))

theorem any_read (s : ByteArray) : ∃ f e p4, pExpr (LX s) f (P3 s) = some (e, p4) := by
  obtain ⟨⟨e, p4⟩, F, h⟩ := expr_ev (LX s) (P3 s) (pw3 s)
  exact ⟨F, e, p4, h F (Nat.le_refl _)⟩
theorem done_err {L : List Tok} {p : PS} {c : Int} (h : (p.done L c).err = 0) : c = 0 := by
  unfold PS.done at h
  by_cases hc : c = 0
  · exact hc
  · rw [if_neg hc] at h
    unfold PS.fail at h
    split at h
    · exact h
    · contradiction
/-- What is told of a text that is one. -/
theorem read_good {s : ByteArray} {f : Nat} {e : Ex} {p4 : PS} (hr : pExpr (LX s) f (P3 s) = some (e, p4)) (h0 : (p4.done (LX s) (checkQuery (EV s) e)).err = 0) :
    checkQuery (EV s) e = 0 ∧ e.num64 ∧ e.size ≤ 1000000 ∧ (-9223372036854775808 ≤ EV s ∧ EV s ≤ 9223372036854775807) :=
  ⟨done_err h0, ((keeps (LX s) f).expr _ _ _ hr (pw3 s)).2.2, by have := expr_size hr (pw3 s); omega, tok_num' (pw1 s) 2⟩
theorem shown_read {x : Int} {a : Ex} (h : checkQuery x a = 0) (h64 : a.num64) {s : ByteArray} (hs : (⟨(queryT x a).toArray⟩ : ByteArray) = s) (hl : s.size ≤ 16384) :
    ∃ f p4, pExpr (LX s) f (P3 s) = some (a, p4) ∧ EV s = x ∧ (p4.done (LX s) (checkQuery (EV s) a)).err = 0 ∧ (p4.done (LX s) (checkQuery (EV s) a)).at' = 0 := by
  obtain ⟨ga, hx⟩ := good_check h h64
  obtain ⟨l, e1, e2⟩ := lex_query ga hx
  have hsl : sl s 0 = queryT x a := by subst hs; unfold sl; simp
  have hA : lexAll s = (l, 0, 0) := by
    unfold lexAll
    rw [if_neg (by omega), hsl, e1]
  have hL : LX s = l := by unfold LX; rw [hA]; rfl
  have hP : PX s = ⟨0, 0, 0, 0⟩ := by unfold PX; rw [hA]
  have a0 : At l ⟨0, 0, 0, 0⟩ (wT [101, 118, 101, 114, 121] :: nT x :: sT [58] :: (exTT a ++ [endT])) := ⟨rfl, by rw [show l.drop (0 : Nat) = l from rfl, e2]; rfl⟩
  obtain ⟨b1, a1⟩ := a0.need_sign (s := tEvery) (by decide) (by decide) (by decide)
  have p1 : P1 s = ⟨1, 0, 0, 0⟩ := by unfold P1; rw [hL, hP]; exact b1
  obtain ⟨b2, b3, a2⟩ := a1.token (k := 2) rfl
  have p2 : P2 s = ⟨2, 0, 0, 0⟩ := by unfold P2; rw [hL, p1]; exact b3
  have ev : EV s = x := by
    unfold EV; rw [hL, p1]
    have := congrArg Tok.num b2
    exact this
  obtain ⟨b4, a3⟩ := a2.need_sign (s := [58]) (by decide) (by decide) (by decide)
  have p3 : P3 s = ⟨3, 0, 0, 0⟩ := by unfold P3; rw [hL, p2]; exact b4
  obtain ⟨F, i, c1, c2⟩ := (rt_all l ga ⟨3, 0, 0, 0⟩ endT [] (by show (0 : Int) + ((16 : Nat) : Int) < 64; omega) a3).2.2.2 (stop_end _ rfl)
  have ho : (⟨i, 0, 0, 0⟩ : PS).over l = ⟨i, 0, 0, 0⟩ := by
    unfold PS.over
    rw [if_neg]
    rintro ⟨-, h2⟩
    exact h2 c1.kind.1
  have hd : (⟨i, 0, 0, 0⟩ : PS).done l 0 = ⟨i, 0, 0, 0⟩ := by unfold PS.done; rw [if_pos rfl, ho]
  refine ⟨F, ⟨i, 0, 0, 0⟩, ?_, ev, ?_, ?_⟩
  · rw [hL, p3]; exact c2 F (Nat.le_refl _)
  · rw [ev, h, hL, hd]
  · rw [ev, h, hL, hd]
theorem fail_keep {p : PS} (h : p.err = 3) (e a : Int) : (p.fail e a).err = 3 := by unfold PS.fail; rw [if_neg (by rw [h]; decide)]; exact h
theorem done_keep {L : List Tok} {p : PS} (h : p.err = 3) (c : Int) : (p.done L c).err = 3 := by
  have ho : (p.over L).err = 3 := by unfold PS.over; split; exact fail_keep h _ _; exact h
  unfold PS.done
  split
  · exact ho
  · exact fail_keep ho _ _
theorem long_read {s : ByteArray} (h : 16384 < s.size) : ∃ f e p4, pExpr (LX s) f (P3 s) = some (e, p4) ∧ ∀ c, (p4.done (LX s) c).err = 3 := by
  have hA : lexAll s = ([], 3, 0) := by unfold lexAll; rw [if_pos h]
  have hL : LX s = [⟨5, [], 0, 0⟩] := by unfold LX; rw [hA]; rfl
  have hP : PX s = ⟨0, 3, 0, 0⟩ := by unfold PX; rw [hA]
  have p3 : P3 s = ⟨0, 3, 0, 0⟩ := by unfold P3 P2 P1; rw [hL, hP]; rfl
  obtain ⟨e, he⟩ : ∃ e, pExpr [⟨5, [], 0, 0⟩] 10 ⟨0, 3, 0, 0⟩ = some (e, ⟨0, 3, 0, 0⟩) := ⟨_, rfl⟩
  exact ⟨10, e, ⟨0, 3, 0, 0⟩, by rw [hL, p3]; exact he, fun c => done_keep rfl c⟩
end Go.Proofs.YtobelmipjanibaaDoor

/- What the reference's Query answers, as ShowBack asks it. -/
namespace Go.Proofs.YtobelmipjanibaaDoor
open Go.RowKit
set_option linter.unusedSimpArgs false
set_option linter.unusedVariables false

/-- Any text: what is read may be a query, if there is no fault. -/
def AnyR (w : World) (e' : Ending) (w' : World) : Prop := Below w.heap.size w w' ∧ ∃ (ev : Int) (e : Ex) (cs : List Value) (er at' : Int),
  e' = .returned (.tuple #[.agg (.int .i64 ev :: cs).toArray, .agg #[.int .i64 er, .int .i64 at']]) ∧ IsEx w'.heap.size w' e cs ∧
  (er = 0 → checkQuery ev e = 0 ∧ e.num64 ∧ e.size ≤ 1000000 ∧ (-9223372036854775808 ≤ ev ∧ ev ≤ 9223372036854775807))
theorem rdAny (s : ByteArray) (w : World) (hs : s.size ≤ maxLen) : Calls Tryd.prog 20 #[.string s] w (AnyR w) := by
  obtain ⟨f, e, p4, hr⟩ := any_read s
  refine (rdQuery s w hs hr).mono ?_
  rintro e' w' ⟨hb, ⟨h0, cs, rfl, hx⟩ | ⟨h0, rfl⟩⟩
  · exact ⟨hb, EV s, e, cs, 0, _, rfl, hx, fun _ => read_good hr h0⟩
  · exact ⟨hb, 0, noEx, ZX, _, _, rfl, (noExS (fun _ => True) w').ex, fun h => absurd h h0⟩
/-- A shown query's text. -/
def ShownR (x : Int) (a : Ex) (s : ByteArray) (w : World) (e' : Ending) (w' : World) : Prop := Below w.heap.size w w' ∧
  ∃ (ev : Int) (e : Ex) (cs : List Value) (er at' : Int), e' = .returned (.tuple #[.agg (.int .i64 ev :: cs).toArray, .agg #[.int .i64 er, .int .i64 at']]) ∧ IsEx w'.heap.size w' e cs ∧
  ((s.size ≤ 16384 ∧ ev = x ∧ e = a ∧ er = 0 ∧ at' = 0) ∨ (16384 < s.size ∧ er = 3))
theorem rdShown {x : Int} {a : Ex} (h : checkQuery x a = 0) (h64 : a.num64) (s : ByteArray) (hs : (⟨(queryT x a).toArray⟩ : ByteArray) = s) (hl : s.size ≤ maxLen) (w : World) : Calls Tryd.prog 20 #[.string s] w (ShownR x a s w) := by
  by_cases hlt : s.size ≤ 16384
  · obtain ⟨f, p4, hr, hev, h0, hat⟩ := shown_read h h64 hs hlt
    refine (rdQuery s w hl hr).mono ?_
    rintro e' w' ⟨hb, ⟨_, cs, rfl, hx⟩ | ⟨h1, -⟩⟩
    · exact ⟨hb, EV s, a, cs, 0, _, rfl, hx, Or.inl ⟨hlt, hev, rfl, rfl, hat⟩⟩
    · exact absurd h0 h1
  · obtain ⟨f, e, p4, hr, h3⟩ := long_read (s := s) (by omega)
    refine (rdQuery s w hl hr).mono ?_
    rintro e' w' ⟨hb, ⟨h1, -⟩ | ⟨h1, rfl⟩⟩
    · exact absurd ((h3 _).symm.trans h1) (by decide)
    · exact ⟨hb, 0, noEx, ZX, _, _, rfl, (noExS (fun _ => True) w').ex, Or.inr ⟨by omega, h3 _⟩⟩
end Go.Proofs.YtobelmipjanibaaDoor
