/- The shape of an expression that may be, as the round trip's induction wants it; a step of the parser. No program here. -/
import Derived.Test.YtobelmipjanibaaDoorPp4
namespace Go.Proofs.YtobelmipjanibaaDoor
open Go.RowKit
set_option linter.unusedSimpArgs false
set_option linter.unusedVariables false

theorem pNames_nil (L : List Tok) (p : PS) (r : List Tok) (h : At L p (namesT [] ++ r)) (ho : p.opn < 64) (f : Nat) : ∃ i, pNames L f p = some ([], { p with i := i }) ∧ At L { p with i := i } r := by
  have h' : At L p (sT [40] :: sT [41] :: r) := h
  obtain ⟨e1, h1⟩ := h'.need_open ho
  obtain ⟨e2, h2⟩ := h1.take_shut
  refine ⟨p.i + 1 + 1, ?_, by simpa using h2⟩
  unfold pNames
  simp only [e1, e2]
  simp
/-- Names as a query has them: they rise, none is a bracket. -/
def NamesOk (l : List ByteArray) : Prop := Rise (l.map fun n => n.data.toList) ∧ ∀ x ∈ l, x.data.toList ≠ [41]
theorem pNames_all (L : List Tok) (l : List ByteArray) (hl : NamesOk l) (p : PS) (r : List Tok) (h : At L p (namesT l ++ r)) (ho : p.opn < 64) (f : Nat) (hf : l.length ≤ f) :
    ∃ i, pNames L f p = some (l.map fun n => n.data.toList, { p with i := i }) ∧ At L { p with i := i } r := by
  cases l with
  | nil => exact pNames_nil L p r h ho f
  | cons w l =>
    have hr : Rise (w.data.toList :: l.map fun n : ByteArray => n.data.toList) := hl.1
    refine pNames_ok L (l.map fun n : ByteArray => n.data.toList) w.data.toList (hl.2 w (by simp)) hr p r ?_ ho f (by simpa using hf)
    have e : (w :: l).map (fun n : ByteArray => [wT n.data.toList]) = (w.data.toList :: l.map fun n : ByteArray => n.data.toList).map fun n => [wT n] := by simp
    unfold namesT at h
    rw [e] at h
    exact h
/-- An expression that may be, at most so deep. -/
inductive Good : Nat → Ex → Prop
  | win (n : Nat) (fn span : Int) (metric : ByteArray) (mats : List Mat) : 1 ≤ fn ∧ fn ≤ 6 → nameB metric = true → checkMats mats = 0 → 1 ≤ span ∧ span ≤ 1073741824 → Good n (.mk 1 fn 0 0 metric mats span [] [])
  | grp (n : Nat) (fn : Int) (names : List ByteArray) (a : Ex) : 1 ≤ fn ∧ fn ≤ 4 → namesB names = true → Good n a → Good (n + 1) (.mk 2 fn 0 0 ⟨#[]⟩ [] 0 names [a])
  | join (n : Nat) (op : Int) (names : List ByteArray) (a b : Ex) : 1 ≤ op ∧ op ≤ 3 → namesB names = true → Good n a → Good n b → Good (n + 1) (.mk 3 0 op 0 ⟨#[]⟩ [] 0 names [a, b])
  | scale (n : Nat) (op num : Int) (a : Ex) : 1 ≤ op ∧ op ≤ 3 → -9223372036854775808 ≤ num ∧ num ≤ 9223372036854775807 → Good n a → Good (n + 1) (.mk 4 0 op num ⟨#[]⟩ [] 0 [] [a])
  | filt (n : Nat) (op num : Int) (a : Ex) : 4 ≤ op ∧ op ≤ 9 → -9223372036854775808 ≤ num ∧ num ≤ 9223372036854775807 → Good n a → Good (n + 1) (.mk 5 0 op num ⟨#[]⟩ [] 0 [] [a])
theorem Good.mono : ∀ {n : Nat} {e : Ex}, Good n e → ∀ {m : Nat}, n ≤ m → Good m e := by
  intro n e h
  induction h with
  | win n fn span metric mats h1 h2 h3 h4 => intro m _; exact .win m fn span metric mats h1 h2 h3 h4
  | grp n fn names a h1 h2 _ ih => intro m hm; obtain ⟨k, rfl⟩ : ∃ k, m = k + 1 := ⟨m - 1, by omega⟩; exact .grp k fn names a h1 h2 (ih (by omega))
  | join n op names a b h1 h2 _ _ ih ih' => intro m hm; obtain ⟨k, rfl⟩ : ∃ k, m = k + 1 := ⟨m - 1, by omega⟩; exact .join k op names a b h1 h2 (ih (by omega)) (ih' (by omega))
  | scale n op num a h1 h2 _ ih => intro m hm; obtain ⟨k, rfl⟩ : ∃ k, m = k + 1 := ⟨m - 1, by omega⟩; exact .scale k op num a h1 h2 (ih (by omega))
  | filt n op num a h1 h2 _ ih => intro m hm; obtain ⟨k, rfl⟩ : ∃ k, m = k + 1 := ⟨m - 1, by omega⟩; exact .filt k op num a h1 h2 (ih (by omega))

/-- A name is no sign. -/
theorem name_ne {s : ByteArray} (h : nameB s = true) {c : UInt8} (hc : okC c = false) : s.data.toList ≠ [c] := by
  intro e
  simp only [nameB, Bool.and_eq_true] at h
  have := h.2
  rw [e] at this
  simp [hc] at this
theorem mats_all {l : List Mat} (h : checkMats l = 0) : l.all matB = true ∧ l.length ≤ 8 := by
  have h8 : ¬ 8 < l.length := fun h' => by rw [checkMats_long h'] at h; cases h
  refine ⟨?_, by omega⟩
  cases e : l.all matB with
  | true => rfl
  | false => simp [checkMats, h8, e] at h
theorem mats_ok {l : List Mat} (h : checkMats l = 0) : ∀ x ∈ l, (x.kind = 1 ∨ x.kind = 2) ∧ x.name.data.toList ≠ [125] := by
  intro x hx
  have := List.all_eq_true.1 (mats_all h).1 x hx
  simp only [matB, Bool.and_eq_true, Bool.or_eq_true, beq_iff_eq] at this
  exact ⟨this.1.1, name_ne this.1.2 (by decide)⟩
theorem names_each {l : List ByteArray} (h : namesB l = true) : (∀ x ∈ l, nameB x = true) ∧ ∀ i (hi : i + 1 < l.length), sless (l[i]'(by omega)) l[i + 1] = true := by
  unfold namesB at h
  simp only [Bool.and_eq_true, decide_eq_true_eq] at h
  have h1 := upto_iff.1 h.1
  constructor
  · intro x hx
    obtain ⟨i, hi, rfl⟩ := List.getElem_of_mem hx
    have := h1 i hi
    rw [nameAt_eq hi, Bool.and_eq_true] at this
    exact this.1
  · intro i hi
    have := h1 (i + 1) hi
    rw [nameAt_eq hi, Bool.and_eq_true, lastOf_succ (by omega)] at this
    exact this.2
theorem rise_of : ∀ l : List ByteArray, (∀ i (hi : i + 1 < l.length), sless (l[i]'(by omega)) l[i + 1] = true) → Rise (l.map fun n => n.data.toList)
  | [], _ => trivial
  | x :: r, h => by
    have ih := rise_of r (fun i hi => h (i + 1) (by simpa using hi))
    refine ⟨?_, ih⟩
    cases r with
    | nil => simp
    | cons y r =>
      have h0 : sless x y = true := h 0 (by simp)
      have h0' : Op.bytesLess x.data.toList y.data.toList = true := by
        unfold sless at h0; rwa [ByteArray.toList_eq, ByteArray.toList_eq] at h0
      intro z hz
      simp only [List.map_cons, List.mem_cons] at hz
      rcases hz with rfl | hz
      · exact h0'
      · exact bl_trans _ _ _ h0' (ih.1 z hz)
theorem names_ok {l : List ByteArray} (h : namesB l = true) : NamesOk l :=
  ⟨rise_of l (names_each h).2, fun x hx => name_ne ((names_each h).1 x hx) (by decide)⟩
theorem empty_of {s : ByteArray} (h : s.toList.isEmpty = true) : s = ⟨#[]⟩ := (empty_iff s).1 h
/-- What may be is good. -/
theorem good_of : ∀ e : Ex, e.flat.all rightB = true → e.num64 → Good e.deep e := by
  refine Ex.ind fun e ih => ?_
  intro hr h64
  have hself : rightB e = true := List.all_eq_true.1 hr e (by rw [Ex.flat_eq]; simp)
  have hkid : ∀ k ∈ e.kids, Good (deeps e.kids) k := by
    intro k hk
    refine (ih k hk ?_ (h64.kid hk)).mono ?_
    · rw [List.all_eq_true]; intro x hx
      exact List.all_eq_true.1 hr x (by rw [Ex.flat_eq]; exact List.mem_cons_of_mem _ (flats_iff.2 ⟨k, hk, hx⟩))
    · have : ∀ l : List Ex, k ∈ l → k.deep ≤ deeps l := by
        intro l
        induction l with
        | nil => intro h; cases h
        | cons x l ih => intro h; simp only [deeps]; rcases List.mem_cons.1 h with rfl | h
                         · omega
                         · have := ih h; omega
      exact this _ hk
  have hnum := h64.self
  rw [Ex.deep_eq]
  unfold rightB at hself
  rw [Bool.and_eq_true] at hself
  obtain ⟨hk, hh⟩ := hself
  obtain ⟨kind, fn, op, num, metric, mats, span, names, kids⟩ := e
  simp only [Ex.kind, Ex.fn, Ex.op, Ex.num, Ex.metric, Ex.mats, Ex.span, Ex.names, Ex.kids] at *
  simp only [kindOk, decide_eq_true_eq] at hk
  have : kind = 1 ∨ kind = 2 ∨ kind = 3 ∨ kind = 4 ∨ kind = 5 := by omega
  rcases this with rfl | rfl | rfl | rfl | rfl
  · rw [rightH_1] at hh
    obtain ⟨h1, h2, rfl, rfl, h5, ⟨h6, h7⟩, h8⟩ := hh
    obtain rfl := List.eq_nil_of_length_eq_zero h1
    obtain rfl := List.eq_nil_of_length_eq_zero h5
    exact .win _ fn span metric mats h2 h6 h7 h8
  · rw [rightH_2] at hh
    obtain ⟨h1, h2, rfl, rfl, h5, ⟨h6, h7⟩, rfl⟩ := hh
    obtain ⟨a, rfl⟩ := List.length_eq_one_iff.1 h1
    obtain rfl := List.eq_nil_of_length_eq_zero h7
    obtain rfl := empty_of h6
    exact .grp _ fn names a h2 h5 (hkid a (by simp))
  · rw [rightH_3] at hh
    obtain ⟨h1, rfl, h2, rfl, h5, ⟨h6, h7⟩, rfl⟩ := hh
    obtain ⟨a, b, rfl⟩ : ∃ a b, kids = [a, b] := by
      match kids, h1 with
      | [a, b], _ => exact ⟨a, b, rfl⟩
    obtain rfl := List.eq_nil_of_length_eq_zero h7
    obtain rfl := empty_of h6
    exact .join _ op names a b h2 h5 (hkid a (by simp)) (hkid b (by simp))
  · rw [rightH_4] at hh
    obtain ⟨h1, rfl, h2, h5, ⟨h6, h7⟩, rfl⟩ := hh
    obtain ⟨a, rfl⟩ := List.length_eq_one_iff.1 h1
    obtain rfl := List.eq_nil_of_length_eq_zero h7
    obtain rfl := List.eq_nil_of_length_eq_zero h5
    obtain rfl := empty_of h6
    exact .scale _ op num a h2 hnum (hkid a (by simp))
  · rw [rightH_5] at hh
    obtain ⟨h1, rfl, h2, h5, ⟨h6, h7⟩, rfl⟩ := hh
    obtain ⟨a, rfl⟩ := List.length_eq_one_iff.1 h1
    obtain rfl := List.eq_nil_of_length_eq_zero h7
    obtain rfl := List.eq_nil_of_length_eq_zero h5
    obtain rfl := empty_of h6
    exact .filt _ op num a h2 hnum (hkid a (by simp))

/-- Behind a sign, a number. -/
theorem pStep_num (L : List Tok) (f : Nat) (op : Int) (x : Ex) (deep : Bool) (n : Int) (p : PS) (r : List Tok) (h : At L p (nT n :: r)) :
    pStep L (f + 1) op x deep p = some (.mk 4 0 op n ⟨#[]⟩ [] 0 [] [x], { p with i := p.i + 1 }) ∧ At L { p with i := p.i + 1 } r := by
  refine ⟨?_, h.1, h.tok.2⟩
  unfold pStep
  rw [if_pos ⟨h.1, h.kind.1⟩, h.kind.2.2]; rfl
theorem baOf_same (l : List ByteArray) : (l.map fun n => n.data.toList).map baOf = l := by
  rw [List.map_map]
  conv => rhs; rw [← List.map_id l]
  exact List.map_congr_left fun x _ => ba_same x
end Go.Proofs.YtobelmipjanibaaDoor
