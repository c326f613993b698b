/- slices.SortStableFunc of labels by their names: what it does to an own list. -/
import Derived.Test.YtbllkddpmmeloaaLa1
import Derived.Test.YtbllkddpmmeloaaApp
import Derived.Laws.OwnMore
import Derived.Deep.RegionHeld3
import Derived.Deep.CutRange
import Derived.Deep.QuietTactic
import Derived.BigQuiet
import Derived.BigRegion
namespace Go.Proofs.Ytbllkddpmmeloaa
open Go.RowKit
set_option linter.unusedSimpArgs false
set_option linter.unusedVariables false

/-- The order of two texts as a number. -/
def cmpS (a b : ByteArray) : Int := if sless a b then -1 else if sless b a then 1 else 0
theorem cNaN (s : ByteArray) (w : World) : Calls Try.prog 30 #[.string s] w fun e w' => e = .returned (.bool false) ∧ w = w' := by
  go_enter Try.func30, Try.ntmps30; (try simp only [List.append_eq, List.cons_append, List.nil_append])
  go_wp2
  go_ret
  exact ⟨ret_bool (by simp), rfl⟩
theorem cCompare (a b : ByteArray) (w : World) : Calls Try.prog 20 #[.string a, .string b] w fun e w' => e = .returned (.int .i64 (cmpS a b)) ∧ w = w' := by
  have key : ∀ c : Int, cmpS a b = c → (Op.bytesLess a.toList b.toList = true ∧ c = -1) ∨ (a = b ∧ c = 0) ∨ (Op.bytesLess a.toList b.toList = false ∧ (a.toList == b.toList) = false ∧ c = 1) := by
    intro c hc
    unfold cmpS at hc
    rcases sless_tri a b with h | h | h
    · left; rw [h] at hc; exact ⟨h, hc.symm⟩
    · right; left; subst h; rw [sless_irrefl] at hc; exact ⟨rfl, hc.symm⟩
    · right; right
      rw [sless_asymm h, h] at hc
      refine ⟨sless_asymm h, ?_, hc.symm⟩
      rw [toList_beq]
      exact decide_eq_false (by intro e; subst e; rw [sless_irrefl] at h; cases h)
  obtain ⟨c, hc⟩ : ∃ c, cmpS a b = c := ⟨_, rfl⟩
  have key := key c hc
  rw [hc]
  clear hc
  rcases key with ⟨h1, rfl⟩ | ⟨rfl, rfl⟩ | ⟨h1, h2, rfl⟩
  · go_enter Try.func20, Try.ntmps20; (try simp only [List.append_eq, List.cons_append, List.nil_append])
    go_wp2_with (go_at_call 30; refine (cNaN _ _).mono ?_; rintro e w' ⟨rfl, rfl⟩)
    go_ret
    exact ⟨rfl, rfl⟩
  · have h1 : Op.bytesLess a.toList a.toList = false := sless_irrefl a
    go_enter Try.func20, Try.ntmps20; (try simp only [List.append_eq, List.cons_append, List.nil_append])
    go_wp2_with (go_at_call 30; refine (cNaN _ _).mono ?_; rintro e w' ⟨rfl, rfl⟩)
    all_goals go_ret
    all_goals exact ⟨rfl, rfl⟩
  · go_enter Try.func20, Try.ntmps20; (try simp only [List.append_eq, List.cons_append, List.nil_append])
    go_wp2_with (go_at_call 30; refine (cNaN _ _).mono ?_; rintro e w' ⟨rfl, rfl⟩)
    all_goals go_ret
    all_goals exact ⟨rfl, rfl⟩
/-- Labels compared by their names. -/
theorem lOf1 (x y : Lab) (w : World) : Calls Try.prog 19 #[.agg x.cells.toArray, .agg y.cells.toArray] w fun e w' => e = .returned (.int .i64 (cmpS x.name y.name)) ∧ Below w.heap.size w w' := by
  unfold Lab.cells
  go_enter Try.func19, Try.ntmps19; (try simp only [List.append_eq, List.cons_append, List.nil_append])
  go_wp2_with (go_at_call 20; refine (cCompare _ _ _).mono ?_; rintro e w' ⟨rfl, rfl⟩)
  go_ret
  exact ⟨rfl, ((Below.refl _ _).alloc (Nat.le_refl _) _).alloc (by simp) _⟩
theorem cmpS_neg {a b : ByteArray} (h : sless a b = true) : cmpS a b = -1 := by simp [cmpS, h]
theorem cmpS_ge {a b : ByteArray} (h : sless a b = false) : ¬ cmpS a b < 0 := by
  unfold cmpS; rw [h]; simp; split <;> omega

/-- Labels in a block of their own. -/
def OwnL (base : Nat) (w : World) (v : Value) (l : List Lab) : Prop := w.ownsRow base 28 2 v l.length (flat l)
/-- The two places' cells. -/
theorem OwnL.at {base g cap : Nat} {w : World} {n : Nat} {l : List Lab} (h : OwnL base w (.slice (some ⟨g, 0, none⟩) n cap) l) {k : Nat} {x : Lab} (hx : l[k]? = some x) :
    w.cell? ⟨g, k * 2, none⟩ = some (.string x.name) ∧ w.cell? ⟨g, k * 2 + 1, none⟩ = some (.string x.text) := by
  obtain ⟨A, cap', e⟩ := ownsRow_slice h
  cases e
  have hk : k < l.length := by
    rcases Nat.lt_or_ge k l.length with h' | h'
    · exact h'
    · rw [List.getElem?_eq_none h'] at hx; cases hx
  have h' : w.ownsRow base _ 2 _ l.length (flat l) := h
  exact ⟨(h'.cellAt _ (by omega)).trans (flat_at0 l k x hx), (h'.cellAt _ (by omega)).trans (flat_at1 l k x hx)⟩
/-- One is stored. -/
theorem OwnL.put {base g cap n : Nat} {w : World} {l : List Lab} (h : OwnL base w (.slice (some ⟨g, 0, none⟩) n cap) l) (k : Nat) (x : Lab) :
    OwnL base ((w.setCell ⟨g, k * 2, none⟩ (.string x.name)).setCell ⟨g, k * 2 + 1, none⟩ (.string x.text)) (.slice (some ⟨g, 0, none⟩) n cap) (l.set k x) := by
  obtain ⟨A, cap', e⟩ := ownsRow_slice h
  cases e
  have h1 := (World.ownsRow.stored h (k * 2) (.string x.name)).1
  have h2 := (World.ownsRow.stored h1 (k * 2 + 1) (.string x.text)).1
  unfold OwnL
  rw [← flat_set, List.length_set]
  exact h2
theorem OwnL.free {base g cap n : Nat} {w : World} {l : List Lab} (h : OwnL base w (.slice (some ⟨g, 0, none⟩) n cap) l) (j : Nat) : w.frozen? ⟨g, j, none⟩ = false := by
  obtain ⟨A, cap', e⟩ := ownsRow_slice h
  cases e
  exact World.ownsRow.frozenAt h j
theorem OwnL.block {base g cap n : Nat} {w : World} {l : List Lab} (h : OwnL base w (.slice (some ⟨g, 0, none⟩) n cap) l) : base ≤ g ∧ g < w.heap.size := World.ownsRow.lt h g rfl
theorem OwnL.keep {base : Nat} {w w' : World} {v : Value} {l : List Lab} (h : OwnL base w v l) (hb : Below w.heap.size w w') : OwnL base w' v l := ownsRow_keep h hb
theorem below_put {B : Nat} {a w : World} (h : Below B a w) {g : Nat} (hg : B ≤ g) (i j : Nat) (u v : Value) : Below B a ((w.setCell ⟨g, i, none⟩ u).setCell ⟨g, j, none⟩ v) :=
  Below.setCell (p := (⟨g, j, none⟩ : Addr)) (Below.setCell (p := (⟨g, i, none⟩ : Addr)) h hg u) hg v

/-- Sorted, with the same labels, in the same block. -/
def SortedIn (base : Nat) (w : World) (v : Value) (l : List Lab) (e : Ending) (w' : World) : Prop :=
  ∃ s : List Lab, e = .returned (.tuple #[]) ∧ s.Perm l ∧ s.Pairwise leN ∧ OwnL base w' v s ∧ Below base w w'

theorem split_last (a : List Lab) : a = [] ∨ ∃ a0 y, a = a0 ++ [y] := by
  rcases List.eq_nil_or_concat a with h | ⟨a0, y, h⟩
  · exact .inl h
  · exact .inr ⟨a0, y, by simpa using h⟩
set_option maxRecDepth 100000 in
set_option maxHeartbeats 4000000 in
theorem sIns (l : List Lab) (base g cap : Nat) (w : World) (hb : base ≤ w.heap.size) (hlen : l.length ≤ 100) (hne : 1 ≤ l.length) (h : OwnL base w (.slice (some ⟨g, 0, none⟩) l.length cap) l) :
    Calls Try.prog 39 #[.slice (some ⟨g, 0, none⟩) l.length cap, .int .i64 0, .int .i64 l.length, .func (.func 19) #[] #[]] w (SortedIn base w (.slice (some ⟨g, 0, none⟩) l.length cap) l) := by
  have HC := Lib.hid (fun x y wx => lOf1 x y wx)
  have H := Lib.hid h; clear h
  go_enter Try.func39, Try.ntmps39; (try simp only [List.append_eq, List.cons_append, List.nil_append])
  go_upto_region 1 with fail
  go_loopw [8] (fun s8 wr => ∃ a q : List Lab, s8 = .int .i64 a.length ∧ 1 ≤ a.length ∧ (a ++ q).Perm l ∧ a.Pairwise leN ∧ OwnL base wr (.slice (some ⟨g, 0, none⟩) l.length cap) (a ++ q) ∧ Below base w wr) (fun s8 _ => l.length - (intOf s8).toNat)
  case atStart =>
    cases l with
    | nil => simp at hne
    | cons x l => exact ⟨[x], l, rfl, by simp, List.Perm.refl _, by simp, H.out, Below.refl _ _⟩
  case round =>
    obtain ⟨a, q, rfl, ha1, hp, hs, ho, hbl⟩ := hrel
    have hal : a.length + q.length = l.length := by rw [← hp.length_eq, List.length_append]
    have Hp := Lib.hid hp; clear hp
    have Hs := Lib.hid hs; clear hs
    have Ho := Lib.hid ho; clear ho
    have Hbl := Lib.hid hbl; clear hbl
    by_cases hlt : a.length < l.length
    · cases q with
      | nil => exfalso; simp at hal; omega
      | cons x q =>
        go_upto_region 4 with fail
        go_loopw [9] (fun s9 wr2 => ∃ (a' b' : List Lab) (k : Nat), s9 = .int .i64 k ∧ k = a'.length ∧ Ins a' x b' ∧ (a' ++ x :: b').Perm (a ++ [x]) ∧ OwnL base wr2 (.slice (some ⟨g, 0, none⟩) l.length cap) (a' ++ x :: b' ++ q) ∧ Below base w wr2) (fun s9 _ => (intOf s9).toNat)
        case atStart => exact ⟨a, [], a.length, rfl, rfl, .start Hs.out, List.Perm.refl _, by simpa using Ho.out, Hbl.out⟩
        case round =>
          obtain ⟨a', b', k, rfl, hk, hi, hp, ho, hbl⟩ := hrel
          obtain ⟨wr2, rfl⟩ : ∃ wr2 : World, wr2 = wr := ⟨_, rfl⟩
          have hl2 : a'.length + b'.length = a.length := by have := hp.length_eq; simp at this; omega
          have hal2 : a.length + (q.length + 1) = l.length := by simpa using hal
          have Hi := Lib.hid hi; clear hi
          have HQ := Lib.hid hp; clear hp
          have HO := Lib.hid ho; clear ho
          have HB := Lib.hid hbl; clear hbl
          have hbw : base ≤ wr2.heap.size := by have := HB.out.size; have := HO.out.block; omega
          have Hend : Hid (∀ X, Below wr2.heap.size wr2 X → (a' ++ x :: b').Pairwise leN → ∃ a2 q2 : List Lab, Value.int .i64 ((a.length : Int) + 1) = .int .i64 a2.length ∧ 1 ≤ a2.length ∧ (a2 ++ q2).Perm l ∧ a2.Pairwise leN ∧ OwnL base X (.slice (some ⟨g, 0, none⟩) l.length cap) (a2 ++ q2) ∧ Below base w X) := fun X hX h =>
            ⟨a' ++ x :: b', q, by rw [HQ.out.length_eq]; simp, by simp; omega, ((HQ.out.append_right q).trans (by simp)).trans Hp.out, h, HO.out.keep hX, HB.out.trans (hX.mono hbw)⟩
          rcases split_last a' with rfl | ⟨a0, y, rfl⟩
          · have Hd := Lib.hid Hi.out.done_nil
            obtain rfl : k = 0 := by simpa using hk
            clear hk hl2
            rw [show ((0 : Nat) : Int) = 0 from rfl]
            go_upto_region 4 with fail
            go_quiet (fail)
            go_wp2
            exact ⟨Hend.out _ (below_drewN (Below.refl _ _) _) Hd.out, by simp [intOf]; omega⟩
          · obtain ⟨m, hm⟩ : ∃ m, m = a0.length := ⟨_, rfl⟩
            have hkm : k = m + 1 := by rw [hk, hm]; simp
            have hml : m + 1 < l.length := by simp at hl2; omega
            have hgx : (a0 ++ [y] ++ x :: b' ++ q)[k]? = some x := by rw [hkm, hm]; simp
            have hgy : (a0 ++ [y] ++ x :: b' ++ q)[m]? = some y := by rw [hm]; simp
            obtain ⟨e0, e1⟩ := HO.out.at hgx
            obtain ⟨e2, e3⟩ := HO.out.at hgy
            obtain ⟨hg1, hg2⟩ := HO.out.block
            have HS := Lib.hid (fun X (h : Below wr2.heap.size wr2 X) => show X.cell? ⟨g, k * 2, none⟩ = some (.string x.name) ∧ X.cell? ⟨g, k * 2 + 1, none⟩ = some (.string x.text) ∧ X.cell? ⟨g, m * 2, none⟩ = some (.string y.name) ∧ X.cell? ⟨g, m * 2 + 1, none⟩ = some (.string y.text) from
              ⟨(h.cell (p := ⟨g, k * 2, none⟩) hg2).trans e0, (h.cell (p := ⟨g, k * 2 + 1, none⟩) hg2).trans e1, (h.cell (p := ⟨g, m * 2, none⟩) hg2).trans e2, (h.cell (p := ⟨g, m * 2 + 1, none⟩) hg2).trans e3⟩)
            clear hgx hgy e0 e1 e2 e3
            have hX := Below.refl wr2.heap.size wr2
            have hw1 : IntKind.i64.wrap ((k : Int) - 1) = (m : Int) := by rw [IntWalk.i64_in _ (by omega)]; omega
            have b0 : (0 : Int) < (k : Int) := by omega
            have b0' : 0 < k := by omega
            have b0'' : decide (0 < k) = true := decide_eq_true b0'
            have b1 : (k : Int) < (l.length : Int) := by omega
            have b2 : (m : Int) < (l.length : Int) := by omega
            have b3 : (0 : Int) ≤ (m : Int) := by omega
            have hkm2 : m < k := by omega
            have Hk := Lib.hid hk; have Hm := Lib.hid hm; have Hkm := Lib.hid hkm
            clear hk hm hkm
            cases hlt2 : sless x.name y.name with
            | true =>
              have HCx := Lib.hid (fun X (h : Below wr2.heap.size wr2 X) => show Calls Try.prog 19 #[.agg #[.string x.name, .string x.text], .agg #[.string y.name, .string y.text]] X (fun e w' => e = .returned (.int .i64 (-1)) ∧ Below wr2.heap.size wr2 w') from (HC.out x y X).mono (fun e' w' ⟨h1, h2⟩ => ⟨by rw [h1, cmpS_neg hlt2], h.trans (h2.mono h.size)⟩))
              go_upto_region 4 with fail
              go_region_held3 (fun w' => w'.cell? ⟨g, k * 2, none⟩ = some (.string x.name) ∧ w'.cell? ⟨g, k * 2 + 1, none⟩ = some (.string x.text) ∧ w'.cell? ⟨g, m * 2, none⟩ = some (.string y.name) ∧ w'.cell? ⟨g, m * 2 + 1, none⟩ = some (.string y.text))
                ((first | exact HS.out _ (by assumption) | exact HS.out _ (Below.drew (by assumption))))
                ((go_at_call 19; refine (HCx.out _ (by first | assumption | exact Below.drew (by assumption))).mono ?_; rintro e' X6 ⟨rfl, hA1⟩; have HA1 := Lib.hid hA1))
              all_goals go_upto_region 6 with fail
              all_goals have HO6 := Lib.hid (HO.out.keep HA1.out)
              all_goals obtain ⟨e0, e1, e2, e3⟩ := HS.out _ HA1.out
              all_goals have f0 := HO6.out.free (k * 2)
              all_goals have f1 := HO6.out.free (k * 2 + 1)
              all_goals have f2 := HO6.out.free (m * 2)
              all_goals have f3 := HO6.out.free (m * 2 + 1)
              all_goals have g1 : ¬ m = k := by omega
              all_goals have g2 : ¬ k = m := by omega
              all_goals have g3 : ¬ m * 2 = k * 2 + 1 := by omega
              all_goals have g4 : ¬ m * 2 + 1 = k * 2 := by omega
              all_goals have g5 : ¬ k * 2 + 1 = m * 2 := by omega
              all_goals have g6 : ¬ k * 2 = m * 2 + 1 := by omega
              all_goals go_region
              all_goals go_wp2
              all_goals refine ⟨⟨a0, y :: b', m, rfl, Hm.out, Hi.out.step hlt2, (List.Perm.append_left a0 (List.Perm.swap y x b')).trans (by simpa using HQ.out), ?_, ?_⟩, by simp [intOf]; omega⟩
              · have h1 := (HO6.out.put k y).put m x
                have h2 : ((a0 ++ [y] ++ x :: b' ++ q).set k y).set m x = a0 ++ x :: y :: b' ++ q := by
                  rw [Hkm.out, Hm.out, show a0 ++ [y] ++ x :: b' ++ q = a0 ++ y :: x :: (b' ++ q) by simp, swap_mid]; simp
                rw [h2] at h1
                exact World.ownsRow.drew h1
              · have h1 := HB.out.trans (HA1.out.mono hbw)
                exact (below_put (below_put h1 hg1 _ _ _ _) hg1 _ _ _ _).drew
            | false =>
              obtain ⟨c, hc⟩ : ∃ c, cmpS x.name y.name = c := ⟨_, rfl⟩
              have hc0 : ¬ c < 0 := by rw [← hc]; exact cmpS_ge hlt2
              have HCx := Lib.hid (fun X (h : Below wr2.heap.size wr2 X) => show Calls Try.prog 19 #[.agg #[.string x.name, .string x.text], .agg #[.string y.name, .string y.text]] X (fun e w' => e = .returned (.int .i64 c) ∧ Below wr2.heap.size wr2 w') from (HC.out x y X).mono (fun e' w' ⟨h1, h2⟩ => ⟨by rw [h1, hc], h.trans (h2.mono h.size)⟩))
              clear hc
              have Hd := Lib.hid (Hi.out.done hlt2)
              go_upto_region 4 with fail
              go_region_held3 (fun w' => w'.cell? ⟨g, k * 2, none⟩ = some (.string x.name) ∧ w'.cell? ⟨g, k * 2 + 1, none⟩ = some (.string x.text) ∧ w'.cell? ⟨g, m * 2, none⟩ = some (.string y.name) ∧ w'.cell? ⟨g, m * 2 + 1, none⟩ = some (.string y.text))
                ((first | exact HS.out _ (by assumption) | exact HS.out _ (Below.drew (by assumption))))
                ((go_at_call 19; refine (HCx.out _ (by first | assumption | exact Below.drew (by assumption))).mono ?_; rintro e' X6 ⟨rfl, hA1⟩; have HA1 := Lib.hid hA1))
              all_goals go_wp2
              all_goals exact ⟨Hend.out _ HA1.out Hd.out, by simp [intOf]; omega⟩
    · have hq : q = [] := List.eq_nil_of_length_eq_zero (by omega)
      subst hq
      have Hfin : Hid (SortedIn base w (.slice (some ⟨g, 0, none⟩) l.length cap) l (.returned (.tuple #[])) wr) := ⟨a, rfl, by simpa using Hp.out, Hs.out, by simpa using Ho.out, Hbl.out⟩
      go_wp2
      exact bodyPost_ret (results_none rfl _ _ _) rfl Hfin.out

set_option maxRecDepth 100000 in
set_option maxHeartbeats 1000000 in
theorem sStable (l : List Lab) (base g cap : Nat) (w : World) (hb : base ≤ w.heap.size) (hlen : l.length < 20) (hne : 1 ≤ l.length) (h : OwnL base w (.slice (some ⟨g, 0, none⟩) l.length cap) l) :
    Calls Try.prog 29 #[.slice (some ⟨g, 0, none⟩) l.length cap, .int .i64 l.length, .func (.func 19) #[] #[]] w (SortedIn base w (.slice (some ⟨g, 0, none⟩) l.length cap) l) := by
  have HI := Lib.hid (sIns l base g cap w hb (by omega) hne h); clear h
  have h1 : ¬ (20 : Int) ≤ (l.length : Int) := by omega
  have h2 : ¬ (20 : Int) < (l.length : Int) := by omega
  go_enter Try.func29, Try.ntmps29; (try simp only [List.append_eq, List.cons_append, List.nil_append])
  go_upto_region 2 with fail
  go_loop [7, 8] (fun s7 s8 => s7 = .int .i64 0 ∧ s8 = .int .i64 20) (fun _ _ => 0)
  case atStart => exact ⟨rfl, rfl⟩
  case round =>
    obtain ⟨rfl, rfl⟩ := hrel
    go_upto_region 7 with (go_at_call 39; refine HI.out.mono ?_; rintro e w' ⟨s, rfl, hp, hs, ho, hbl⟩; have HR := Lib.hid (show SortedIn base w (.slice (some ⟨g, 0, none⟩) l.length cap) l (.returned (.tuple #[])) w' from ⟨s, rfl, hp, hs, ho, hbl⟩); clear hp hs ho hbl)
    go_loop [6] (fun s6 => s6 = .int .i64 20) (fun _ => 0)
    case atStart => rfl
    case round =>
      subst hrel
      go_wp2
      exact bodyPost_ret (results_none rfl _ _ _) rfl HR.out
theorem sSortStable (l : List Lab) (base g cap : Nat) (w : World) (hb : base ≤ w.heap.size) (hlen : l.length < 20) (hne : 1 ≤ l.length) (h : OwnL base w (.slice (some ⟨g, 0, none⟩) l.length cap) l) :
    Calls Try.prog 18 #[.slice (some ⟨g, 0, none⟩) l.length cap, .func (.func 19) #[] #[]] w (SortedIn base w (.slice (some ⟨g, 0, none⟩) l.length cap) l) := by
  have HI := Lib.hid (sStable l base g cap w hb hlen hne h); clear h
  go_enter Try.func18, Try.ntmps18; (try simp only [List.append_eq, List.cons_append, List.nil_append])
  go_wp2_with (go_at_call 29; refine HI.out.mono ?_; rintro e w' ⟨s, rfl, hp, hs, ho, hbl⟩; have HR := Lib.hid (show SortedIn base w (.slice (some ⟨g, 0, none⟩) l.length cap) l (.returned (.tuple #[])) w' from ⟨s, rfl, hp, hs, ho, hbl⟩); clear hp hs ho hbl)
  exact bodyPost_ret (results_none rfl _ _ _) rfl HR.out

end Go.Proofs.Ytbllkddpmmeloaa
