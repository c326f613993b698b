/- Labels sorted by their names, by insertion; and a set of labels made. Plain lists; no program here. -/
import Derived.Test.YtkheeiipkdeihaaLa0
namespace Go.Proofs.Ytkheeiipkdeihaa
open Go.RowKit
set_option linter.unusedSimpArgs false
set_option linter.unusedVariables false

/-- Not behind. -/
def leN (a b : Lab) : Prop := sless b.name a.name = false
theorem leN_refl (a : Lab) : leN a a := sless_irrefl _
theorem leN_of_lt {a b : Lab} (h : sless a.name b.name = true) : leN a b := sless_asymm h
theorem leN_trans {a b c : Lab} (h : leN a b) (h' : leN b c) : leN a c := by
  unfold leN at *
  cases hc : sless c.name a.name with
  | false => rfl
  | true =>
    rcases sless_tri b.name c.name with h1 | h1 | h1
    · rw [sless_trans h1 hc] at h; cases h
    · rw [h1, hc] at h; cases h
    · rw [h1] at h'; cases h'
/-- One more is put among those that are sorted: behind `a`, ahead of `b`. -/
structure Ins (a : List Lab) (x : Lab) (b : List Lab) : Prop where
  srt : (a ++ b).Pairwise leN
  lt : ∀ y ∈ b, sless x.name y.name = true
theorem Ins.start {a : List Lab} {x : Lab} (h : a.Pairwise leN) : Ins a x [] := ⟨by simpa using h, by simp⟩
theorem Ins.step {a : List Lab} {y x : Lab} {b : List Lab} (h : Ins (a ++ [y]) x b) (hlt : sless x.name y.name = true) : Ins a x (y :: b) :=
  ⟨by have := h.srt; simpa using this, by intro z hz; exact (List.mem_cons.1 hz).elim (fun e => e ▸ hlt) (fun hz => h.lt z hz)⟩
theorem Ins.done_nil {x : Lab} {b : List Lab} (h : Ins [] x b) : ([] ++ x :: b).Pairwise leN := by
  rw [List.nil_append, List.pairwise_cons]
  exact ⟨fun y hy => leN_of_lt (h.lt y hy), by simpa using h.srt⟩
theorem Ins.done {a : List Lab} {y x : Lab} {b : List Lab} (h : Ins (a ++ [y]) x b) (hge : sless x.name y.name = false) : ((a ++ [y]) ++ x :: b).Pairwise leN := by
  have hs := h.srt
  rw [List.pairwise_append] at hs ⊢
  obtain ⟨h1, h2, h3⟩ := hs
  refine ⟨h1, by rw [List.pairwise_cons]; exact ⟨fun z hz => leN_of_lt (h.lt z hz), h2⟩, fun u hu z hz => ?_⟩
  rcases List.mem_cons.1 hz with rfl | hz
  · have hy : leN u y := by
      rcases List.mem_append.1 hu with hu' | hu'
      · rw [List.pairwise_append] at h1
        exact h1.2.2 u hu' y (by simp)
      · simp at hu'; subst hu'; exact leN_refl _
    exact leN_trans hy hge
  · exact h3 u hu z hz

/-- Two neighbours change places. -/
def swapAt (l : List Lab) (i j : Nat) (x y : Lab) : List Lab := (l.set i y).set j x
theorem swap_mid (p : List Lab) (x y : Lab) (q : List Lab) : ((p ++ y :: x :: q).set (p.length + 1) y).set p.length x = p ++ x :: y :: q := by
  induction p with
  | nil => rfl
  | cons z p ih =>
    rw [List.cons_append, List.length_cons, show p.length + 1 + 1 = (p.length + 1) + 1 from rfl, List.set_cons_succ, List.set_cons_succ, ih]; rfl
theorem get_mid (p : List Lab) (x : Lab) (q : List Lab) : (p ++ x :: q)[p.length]? = some x := by simp
theorem get_mid1 (p : List Lab) (y x : Lab) (q : List Lab) : (p ++ y :: x :: q)[p.length + 1]? = some x := by simp

/-- The cells of labels, one behind the other. -/
def flat (l : List Lab) : List Value := (l.map Lab.cells).flatten
theorem flat_nil : flat [] = [] := rfl
theorem flat_cons (x : Lab) (l : List Lab) : flat (x :: l) = .string x.name :: .string x.text :: flat l := rfl
theorem flat_append (a b : List Lab) : flat (a ++ b) = flat a ++ flat b := by simp [flat]
theorem flatL_length (l : List Lab) : (flat l).length = l.length * 2 := by
  induction l with
  | nil => rfl
  | cons x l ih => rw [flat_cons, List.length_cons, List.length_cons, List.length_cons, ih]; omega
theorem flat_one (l : List Lab) : ∀ u ∈ flat l, u.oneCell' = true := by
  induction l with
  | nil => simp [flat]
  | cons x l ih => intro u hu; rw [flat_cons] at hu; rcases List.mem_cons.1 hu with rfl | hu; rfl; rcases List.mem_cons.1 hu with rfl | hu; rfl; exact ih u hu
theorem flat_at0 (l : List Lab) (k : Nat) (x : Lab) (h : l[k]? = some x) : (flat l)[k * 2]? = some (.string x.name) := by
  induction l generalizing k with
  | nil => simp at h
  | cons y l ih =>
    cases k with
    | zero => simp at h; subst h; rfl
    | succ k => rw [flat_cons, show (k + 1) * 2 = k * 2 + 1 + 1 by omega]; simp only [List.getElem?_cons_succ] at h ⊢; exact ih k h
theorem flat_at1 (l : List Lab) (k : Nat) (x : Lab) (h : l[k]? = some x) : (flat l)[k * 2 + 1]? = some (.string x.text) := by
  induction l generalizing k with
  | nil => simp at h
  | cons y l ih =>
    cases k with
    | zero => simp at h; subst h; rfl
    | succ k => rw [flat_cons, show (k + 1) * 2 + 1 = k * 2 + 1 + 1 + 1 by omega]; simp only [List.getElem?_cons_succ] at h ⊢; exact ih k h
theorem flat_set (l : List Lab) (k : Nat) (x : Lab) : ((flat l).set (k * 2) (.string x.name)).set (k * 2 + 1) (.string x.text) = flat (l.set k x) := by
  induction l generalizing k with
  | nil => simp [flat]
  | cons y l ih =>
    cases k with
    | zero => rfl
    | succ k =>
      rw [show (k + 1) * 2 = k * 2 + 1 + 1 by omega, flat_cons, List.set_cons_succ, List.set_cons_succ, List.set_cons_succ, List.set_cons_succ, ih, List.set_cons_succ, flat_cons]

/-! ### a set of labels -/
/-- Do two have the same name? -/
def dupN (l : List Lab) : Bool := !decide ((l.map (·.name)).Nodup)
def full (x : Lab) : Bool := decide (1 ≤ x.text.size)
/-- The strict order. -/
def ltN (a b : Lab) : Prop := sless a.name b.name = true
theorem sorted_dup {l : List Lab} (h : l.Pairwise leN) : (l.map (·.name)).Nodup ↔ l.Pairwise ltN := by
  unfold List.Nodup
  rw [List.pairwise_map]
  constructor
  · intro h2
    refine (h.and h2).imp ?_
    rintro a b ⟨h1, h2⟩
    rcases sless_tri a.name b.name with h3 | h3 | h3
    · exact h3
    · exact (h2 h3).elim
    · unfold leN at h1; rw [h3] at h1; cases h1
  · intro h2
    refine h2.imp ?_
    intro a b h1 h3
    unfold ltN at h1; rw [h3, sless_irrefl] at h1; cases h1
/-- A list in strict order is told by what is in it. -/
theorem sorted_unique {a b : List Lab} (hp : a.Perm b) (ha : a.Pairwise ltN) (hb : b.Pairwise ltN) : a = b := by
  refine List.Perm.eq_of_pairwise (le := ltN) ?_ ha hb hp
  intro x y _ _ h1 h2
  have := sless_trans h1 h2
  rw [sless_irrefl] at this; cases this

/-- Put among those that are sorted. -/
def insN (x : Lab) : List Lab → List Lab
  | [] => [x]
  | y :: l => if sless y.name x.name then y :: insN x l else x :: y :: l
theorem insN_perm (x : Lab) (l : List Lab) : (insN x l).Perm (x :: l) := by
  induction l with
  | nil => exact List.Perm.refl _
  | cons y l ih =>
    unfold insN
    split
    · exact (ih.cons y).trans (List.Perm.swap x y l)
    · exact List.Perm.refl _
theorem insN_sorted {x : Lab} {l : List Lab} (h : l.Pairwise leN) : (insN x l).Pairwise leN := by
  induction l with
  | nil => simp [insN]
  | cons y l ih =>
    rw [List.pairwise_cons] at h
    unfold insN
    split
    · rename_i hlt
      rw [List.pairwise_cons]
      refine ⟨fun z hz => ?_, ih h.2⟩
      rcases List.mem_cons.1 ((insN_perm x l).mem_iff.1 hz) with rfl | hz
      · exact leN_of_lt hlt
      · exact h.1 z hz
    · rename_i hlt
      have hxy : leN x y := by simpa [leN] using hlt
      rw [List.pairwise_cons]
      refine ⟨fun z hz => ?_, List.pairwise_cons.2 h⟩
      rcases List.mem_cons.1 hz with rfl | hz
      · exact hxy
      · exact leN_trans hxy (h.1 z hz)
/-- Those that have a text, sorted. -/
def sortR (l : List Lab) : List Lab := l.foldl (fun o x => if full x then insN x o else o) []
theorem sortR_snoc (l : List Lab) (x : Lab) : sortR (l ++ [x]) = if full x then insN x (sortR l) else sortR l := by simp [sortR, List.foldl_append]
theorem sortR_aux : ∀ (l o : List Lab), (l.foldl (fun o x => if full x then insN x o else o) o).Perm (l.filter full ++ o)
  | [], o => List.Perm.refl _
  | x :: l, o => by
    rw [List.foldl_cons]
    refine (sortR_aux l _).trans ?_
    cases hx : full x with
    | true =>
      rw [if_pos rfl, List.filter_cons_of_pos hx]
      exact ((insN_perm x o).append_left _).trans List.perm_middle
    | false => rw [if_neg (by simp), List.filter_cons_of_neg (by simp [hx])]
theorem sortR_perm (l : List Lab) : (sortR l).Perm (l.filter full) := by have := sortR_aux l []; rwa [List.append_nil] at this
theorem sortR_saux : ∀ (l o : List Lab), o.Pairwise leN → (l.foldl (fun o x => if full x then insN x o else o) o).Pairwise leN
  | [], o, h => h
  | x :: l, o, h => by
    rw [List.foldl_cons]
    refine sortR_saux l _ ?_
    split
    · exact insN_sorted h
    · exact h
theorem sortR_sorted (l : List Lab) : (sortR l).Pairwise leN := sortR_saux l [] .nil
/-- A set of labels, and what is wrong with it. -/
def ofL (l : List Lab) : List Lab × Int := if dupN l then ([], 2) else if checkL (sortR l) = 0 then (sortR l, 0) else ([], checkL (sortR l))
theorem nodup_filter {l : List Lab} (h : (l.map (·.name)).Nodup) : ((l.filter full).map (·.name)).Nodup := by
  unfold List.Nodup at *
  rw [List.pairwise_map] at *
  exact h.filter _
/-- Whoever sorts has the same. -/
theorem sorted_is {l s : List Lab} (hp : s.Perm l) (hs : s.Pairwise leN) (hd : dupN l = false) : s.filter full = sortR l := by
  have hn : (l.map (·.name)).Nodup := by simpa [dupN] using hd
  have h1 : ((s.filter full).map (·.name)).Nodup := nodup_filter ((hp.map _).nodup_iff.2 hn)
  have hq : (s.filter full).Perm (sortR l) := (hp.filter _).trans (sortR_perm l).symm
  have h2 : ((sortR l).map (·.name)).Nodup := (hq.map _).nodup_iff.1 h1
  exact sorted_unique hq ((sorted_dup (hs.filter _)).1 h1) ((sorted_dup (sortR_sorted l)).1 h2)
/-- Neighbours of the same name. -/
theorem dup_adj {l s : List Lab} (hp : s.Perm l) {k : Nat} (hk : k + 1 < s.length) (h : s[k + 1].name = s[k].name) : dupN l = true := by
  cases hd : dupN l with
  | true => rfl
  | false =>
    have hn : (l.map (·.name)).Nodup := by simpa [dupN] using hd
    have h1 : (s.map (·.name)).Nodup := (hp.map _).nodup_iff.2 hn
    have := (List.nodup_iff_pairwise_ne.1 h1)
    rw [List.pairwise_iff_getElem] at this
    have h3 := this k (k + 1) (by simp; omega) (by simp; omega) (by omega)
    simp at h3
    exact (h3 h.symm).elim
theorem nodup_adj {l s : List Lab} (hp : s.Perm l) (hs : s.Pairwise leN) (h : ∀ k, (hk : k + 1 < s.length) → s[k + 1].name ≠ s[k].name) : dupN l = false := by
  have key : ∀ (s : List Lab), s.Pairwise leN → (∀ k, (hk : k + 1 < s.length) → s[k + 1].name ≠ s[k].name) → s.Pairwise ltN := by
    intro s
    induction s with
    | nil => intro _ _; exact .nil
    | cons x s ih =>
      intro hs h
      rw [List.pairwise_cons] at hs
      have ih' := ih hs.2 (fun k hk => by have := h (k + 1) (by simp; omega); simpa using this)
      rw [List.pairwise_cons]
      refine ⟨fun y hy => ?_, ih'⟩
      cases s with
      | nil => cases hy
      | cons z s =>
        have h0 := h 0 (by simp)
        have hxz : ltN x z := by
          have h1 := hs.1 z (by simp)
          rcases sless_tri x.name z.name with h3 | h3 | h3
          · exact h3
          · simp at h0; exact (h0 h3.symm).elim
          · unfold leN at h1; rw [h3] at h1; cases h1
        rcases List.mem_cons.1 hy with rfl | hy
        · exact hxz
        · rw [List.pairwise_cons] at ih'
          exact sless_trans hxz (ih'.1 y hy)
  have hn := (sorted_dup hs).2 (key s hs h)
  have : (l.map (·.name)).Nodup := (hp.map _).nodup_iff.1 hn
  simp [dupN, this]
end Go.Proofs.Ytkheeiipkdeihaa
