/- Sets of labels as data, how they lie in memory, and what is asked of them, in plain lists. No program here. -/
import Derived.Test.YtkheeiipkdeihaaLabel2
import Derived.Test.YtkheeiipkdeihaaStr
namespace Go.Proofs.Ytkheeiipkdeihaa
open Go.RowKit
set_option linter.unusedSimpArgs false
set_option linter.unusedVariables false

structure Lab where
  name : ByteArray
  text : ByteArray
deriving DecidableEq

def Lab.cells (x : Lab) : List Value := [.string x.name, .string x.text]
def Lab.small (x : Lab) : Prop := x.name.size ≤ maxLen ∧ x.text.size ≤ maxLen

/-- A slice of labels. -/
def IsLabs (n : Nat) (w : World) (v : Value) (l : List Lab) : Prop := Arr n w v 2 (l.map Lab.cells) ∧ ∀ m ∈ l, m.small
theorem IsLabs.mono {n m : Nat} {w w' : World} {v : Value} {l : List Lab} (h : IsLabs n w v l) (hb : Below n w w') (hm : n ≤ m) : IsLabs m w' v l :=
  ⟨h.1.mono hb hm, h.2⟩
theorem IsLabs.open {n : Nat} {w : World} {v : Value} {l : List Lab} (h : IsLabs n w v l) : ∃ p cap, v = .slice p l.length cap ∧ l.length ≤ cap ∧ cap ≤ maxLen ∧ l.length ≤ maxLen := by
  obtain ⟨⟨p, cap, hv, h1, h2, _⟩, _⟩ := h
  simp only [List.length_map] at hv h1
  exact ⟨p, cap, hv, h1, h2, by omega⟩
theorem IsLabs.get {n : Nat} {w : World} {p : Option Addr} {len cap : Nat} {l : List Lab} (h : IsLabs n w (.slice p len cap) l) {k : Nat} (hk : k < l.length) :
    ∃ b off, p = some ⟨b, off, none⟩ ∧ b < n ∧ w.cell? ⟨b, off + k * 2, none⟩ = some (.string l[k].name) ∧ w.cell? ⟨b, off + k * 2 + 1, none⟩ = some (.string l[k].text) ∧
      l[k].name.size ≤ maxLen ∧ l[k].text.size ≤ maxLen := by
  obtain ⟨b, off, hp, hb, hc⟩ := h.1.at k l[k].cells (by simp [hk])
  exact ⟨b, off, hp, hb, hc 0 _ rfl, hc 1 _ rfl, (h.2 _ (List.getElem_mem hk)).1, (h.2 _ (List.getElem_mem hk)).2⟩
theorem IsLabs.nil (n : Nat) (w : World) : IsLabs n w (.slice none 0 0) [] := ⟨Arr.nil _ _ _, by simp⟩

/-! ### may a set be? -/
def labB (x : Lab) : Bool := nameB x.name && decide (1 ≤ x.text.size) && decide (x.text.size ≤ 64)
/-- The names rise, from one on. -/
def rising (last : ByteArray) : List Lab → Bool
  | [] => true
  | x :: l => labB x && sless last x.name && rising x.name l
def lastN (last : ByteArray) (l : List Lab) : ByteArray := l.foldl (fun _ x => x.name) last
theorem rising_append (last : ByteArray) (a b : List Lab) : rising last (a ++ b) = (rising last a && rising (lastN last a) b) := by
  induction a generalizing last with
  | nil => simp [rising, lastN]
  | cons x a ih => simp only [List.cons_append, rising, ih, lastN, List.foldl_cons, Bool.and_assoc]
theorem lastN_snoc (last : ByteArray) (l : List Lab) (x : Lab) : lastN last (l ++ [x]) = x.name := by simp [lastN, List.foldl_append]
/-- May a set be? -/
def checkL (l : List Lab) : Int := if 8 < l.length then 3 else if rising ByteArray.empty l then 0 else 2
theorem rising_step {l : List Lab} {k : Nat} (h : rising ByteArray.empty (l.take k) = true) (hk : k < l.length) (h1 : labB l[k] = true) (h2 : sless (lastN ByteArray.empty (l.take k)) l[k].name = true) :
    rising ByteArray.empty (l.take (k + 1)) = true := by
  rw [List.take_succ_eq_append_getElem hk, rising_append, h]; simp [rising, h1, h2]
theorem rising_bad {l : List Lab} {k : Nat} (hk : k < l.length) (h : labB l[k] = false ∨ sless (lastN ByteArray.empty (l.take k)) l[k].name = false) : rising ByteArray.empty l = false := by
  rw [← List.take_append_drop k l, rising_append, List.drop_eq_getElem_cons hk]
  rcases h with h | h <;> simp [rising, h]
theorem lastN_step {l : List Lab} {k : Nat} (hk : k < l.length) : lastN ByteArray.empty (l.take (k + 1)) = l[k].name := by
  rw [List.take_succ_eq_append_getElem hk, lastN_snoc]
theorem checkL_long {l : List Lab} (h : 8 < l.length) : checkL l = 3 := by simp [checkL, h]
theorem checkL_ok {l : List Lab} (h : ¬ 8 < l.length) (h' : rising ByteArray.empty l = true) : checkL l = 0 := by simp only [checkL, h, h']; rfl
theorem checkL_bad {l : List Lab} (h : ¬ 8 < l.length) (h' : rising ByteArray.empty l = false) : checkL l = 2 := by simp only [checkL, h, h']; rfl
theorem labB_ok {x : Lab} (h : nameB x.name = true) (h1 : 1 ≤ x.text.size) (h2 : x.text.size ≤ 64) : labB x = true := by simp [labB, h, h1, h2]
theorem labB_name {x : Lab} (h : nameB x.name = false) : labB x = false := by simp [labB, h]
theorem labB_text {x : Lab} (h : x.text.size < 1 ∨ 64 < x.text.size) : labB x = false := by
  unfold labB
  rcases h with h | h
  · rw [decide_eq_false (by omega : ¬ 1 ≤ x.text.size)]; simp
  · rw [decide_eq_false (by omega : ¬ x.text.size ≤ 64)]; simp
theorem nameB_size {s : ByteArray} (h : nameB s = true) : 1 ≤ s.size ∧ s.size ≤ 24 := by
  unfold nameB at h
  simp only [Bool.and_eq_true, decide_eq_true_eq] at h
  exact ⟨h.1.1.1, h.1.1.2⟩

/-! ### what a set tells -/
def getL (l : List Lab) (name : ByteArray) : ByteArray := match l.find? fun x => decide (x.name = name) with
  | some x => x.text
  | none => ByteArray.empty
def takesOne (l : List Lab) (m : Mat) : Bool := decide (getL l m.name = m.text) == (m.kind == 1)
def takesAll (m : List Mat) (l : List Lab) : Bool := decide (checkMats m = 0) && decide (checkL l = 0) && m.all (takesOne l)
/-- Is a text among some? -/
def amongB (s : ByteArray) (l : List ByteArray) : Bool := l.any fun t => decide (t = s)
def partL (l : List Lab) (names : List ByteArray) (among : Bool) : List Lab := if checkL l = 0 then l.filter fun x => amongB x.name names == among else []

theorem find_step {l : List Lab} {name : ByteArray} {k : Nat} (h : ∀ x ∈ l.take k, x.name ≠ name) (hk : k < l.length) (hx : l[k].name ≠ name) : ∀ x ∈ l.take (k + 1), x.name ≠ name := by
  intro x hm
  rw [List.take_succ_eq_append_getElem hk] at hm
  rcases List.mem_append.1 hm with h' | h'
  · exact h x h'
  · simp at h'; subst h'; exact hx
theorem getL_at {l : List Lab} {name : ByteArray} {k : Nat} (h : ∀ x ∈ l.take k, x.name ≠ name) (hk : k < l.length) (hx : l[k].name = name) : getL l name = l[k].text := by
  have e : l = l.take k ++ l[k] :: l.drop (k + 1) := by rw [← List.drop_eq_getElem_cons hk, List.take_append_drop]
  have key : ∀ (a : List Lab) (y : Lab) (b : List Lab), (∀ x ∈ a, x.name ≠ name) → y.name = name → (a ++ y :: b).find? (fun x => decide (x.name = name)) = some y := by
    intro a y b h1 h2
    rw [List.find?_append, List.find?_eq_none.2 (by intro x hm; simpa using h1 x hm)]
    simp [h2]
  have := key _ _ (l.drop (k + 1)) h hx
  rw [← e] at this
  unfold getL; rw [this]
theorem getL_none {l : List Lab} {name : ByteArray} (h : ∀ x ∈ l, x.name ≠ name) : getL l name = ByteArray.empty := by
  unfold getL; rw [List.find?_eq_none.2 (by intro x hm; simpa using h x hm)]

end Go.Proofs.Ytkheeiipkdeihaa
