/- label.Name, label.CheckMatch and the references': what they compute. -/
import Derived.Test.YtfmolimnnheaoaaGreatK0
import Derived.Test.YtfmolimnnheaoaaGreatProg
namespace Go.Proofs.YtfmolimnnheaoaaGreat
open Go.RowKit
set_option linter.unusedSimpArgs false
set_option linter.unusedVariables false

def okC (c : UInt8) : Bool := (97 ≤ c && c ≤ 122) || (48 ≤ c && c ≤ 57) || c == 95
def digC (c : UInt8) : Bool := 48 ≤ c && c ≤ 57
/-- A name. -/
def nameB (s : ByteArray) : Bool := decide (1 ≤ s.size) && decide (s.size ≤ 24) && !(digC (s.data.toList.getD 0 0)) && s.data.toList.all okC

theorem okC_iff (c : UInt8) : okC c = decide ((97 ≤ (c.toNat : Int) ∧ (c.toNat : Int) ≤ 122) ∨ (48 ≤ (c.toNat : Int) ∧ (c.toNat : Int) ≤ 57) ∨ (c.toNat : Int) = 95) := by
  rw [Bool.eq_iff_iff]
  have h : (c == 95) = true ↔ (c.toNat : Int) = 95 := by
    rw [beq_iff_eq]
    constructor
    · intro h; rw [h]; rfl
    · intro h; apply UInt8.toNat_inj.1; have h' : c.toNat = 95 := by omega
      rw [h']; rfl
  simp only [okC, Bool.or_eq_true, h, decide_eq_true_eq, Bool.and_eq_true, UInt8.le_iff_toNat_le]
  simp
  omega
theorem digC_iff (c : UInt8) : digC c = decide (48 ≤ (c.toNat : Int) ∧ (c.toNat : Int) ≤ 57) := by
  rw [Bool.eq_iff_iff]
  simp only [digC, decide_eq_true_eq, Bool.and_eq_true, UInt8.le_iff_toNat_le]
  simp
  omega
theorem okC_no {c : UInt8} (h1 : (c.toNat : Int) < 97 ∨ 122 < (c.toNat : Int)) (h2 : (c.toNat : Int) < 48 ∨ 57 < (c.toNat : Int)) (h3 : ¬ (c.toNat : Int) = 95) : okC c = false := by
  rw [okC_iff]; simp; omega
theorem okC_yes {c : UInt8} (h : (97 ≤ (c.toNat : Int) ∧ (c.toNat : Int) ≤ 122) ∨ (48 ≤ (c.toNat : Int) ∧ (c.toNat : Int) ≤ 57) ∨ (c.toNat : Int) = 95) : okC c = true := by
  rw [okC_iff]; simp; omega
theorem digC_no {c : UInt8} (h : (c.toNat : Int) < 48 ∨ 57 < (c.toNat : Int)) : digC c = false := by
  rw [digC_iff]; simp; omega
theorem digC_yes {c : UInt8} (h : 48 ≤ (c.toNat : Int) ∧ (c.toNat : Int) ≤ 57) : digC c = true := by
  rw [digC_iff]; simp; omega

theorem nameB_true {s : ByteArray} (h1 : 1 ≤ s.size) (h2 : s.size ≤ 24) (h3 : digC (s.data.toList.getD 0 0) = false) (h4 : s.data.toList.all okC = true) : nameB s = true := by
  unfold nameB; rw [h3, h4]; simp [h1, h2]
theorem nameB_bad {s : ByteArray} {k : Nat} (hk : k < s.size) (h : okC s[k] = false) : nameB s = false := by
  have : s.data.toList.all okC = false := all_not (l := s.data.toList) (k := k) (by simpa using hk) h
  unfold nameB; rw [this]; simp
theorem nameB_dig {s : ByteArray} (hk : 0 < s.size) (h : digC s[0] = true) : nameB s = false := by
  have : s.data.toList.getD 0 0 = s[0] := by
    have hk' : 0 < s.data.toList.length := by simpa using hk
    rw [List.getD_eq_getElem?_getD, List.getElem?_eq_getElem hk']; rfl
  unfold nameB; rw [this, h]; simp
theorem nameB_short {s : ByteArray} (h : s.size < 1 ∨ 24 < s.size) : nameB s = false := by
  unfold nameB
  rcases h with h | h
  · have : decide (1 ≤ s.size) = false := decide_eq_false (by omega)
    rw [this]; simp
  · have : decide (s.size ≤ 24) = false := decide_eq_false (by omega)
    rw [this]; simp
theorem str_step {s : ByteArray} {k : Nat} {p : UInt8 → Bool} (h : (s.data.toList.take k).all p = true) (hk : k < s.size) (hp : p s[k] = true) : (s.data.toList.take (k + 1)).all p = true :=
  all_step (l := s.data.toList) h (by simpa using hk) hp
theorem str_done {s : ByteArray} {k : Nat} {p : UInt8 → Bool} (h : (s.data.toList.take k).all p = true) (hk : s.size ≤ k) : s.data.toList.all p = true :=
  all_done (l := s.data.toList) h (by simpa using hk)

set_option maxHeartbeats 400000 in
theorem rName (s : ByteArray) (w : World) (hs : s.size ≤ maxLen) :
    Calls Tryz.prog 88 #[.string s] w fun e w' => e = .returned (.bool (nameB s)) ∧ w = w' := by
  unfold maxLen at hs
  go_enter Tryz.func88, Tryz.ntmps88
  go_wp2
  go_loop [3] (fun i => ∃ k : Nat, k ≤ s.size ∧ i = .int .i64 k ∧ (s.data.toList.take k).all okC = true ∧ (0 < k → digC (s.data.toList.getD 0 0) = false)) (fun i => s.size - (intOf i).toNat)
  case atStart => exact ⟨0, Nat.zero_le _, rfl, by simp, by simp⟩
  case round =>
    obtain ⟨k, hk, rfl, hr, hd⟩ := hrel
    have Hr := Lib.hid hr; clear hr
    have Hd := Lib.hid hd; clear hd
    by_cases hlt : k < s.size
    · have hd0 : k = 0 → s.data.toList.getD 0 0 = s[k] := fun e => by
        subst e
        have hk' : 0 < s.data.toList.length := by simpa using hlt
        rw [List.getD_eq_getElem?_getD, List.getElem?_eq_getElem hk']; rfl
      have Hd0 := Lib.hid hd0; clear hd0
      go_wp2
      all_goals first
        | (go_ret; refine ⟨ret_bool (Eq.symm ?_), rfl⟩; refine nameB_bad hlt (okC_no ?_ ?_ ?_) <;> omega)
        | (go_ret; refine ⟨ret_bool (Eq.symm ?_), rfl⟩; have hk0 : k = 0 := by simp at *; omega
           subst hk0; exact nameB_dig hlt (digC_yes (by omega)))
        | skip
      all_goals go_round
      all_goals first
        | (case measure => simp [intOf]; omega)
        | skip
      all_goals refine ⟨k + 1, by omega, by go_num, str_step Hr.out hlt (okC_yes ?_), fun _ => ?_⟩
      all_goals first
        | omega
        | (rcases Nat.eq_zero_or_pos k with h0 | h0
           · rw [Hd0.out h0]
             first
               | exact digC_no (by omega)
               | (exfalso; subst h0; simp at *)
           · exact Hd.out h0)
    · go_wp2
      all_goals go_ret
      all_goals refine ⟨ret_bool ?_, rfl⟩
      all_goals first
        | exact (nameB_short (by omega)).symm
        | (rcases Nat.lt_or_ge 24 s.size with h24 | h24
           · rw [nameB_short (.inr h24)]; simp; omega
           · rw [nameB_true (by omega) h24 (Hd.out (by omega)) (str_done Hr.out (by omega))]; simp; omega)

set_option maxHeartbeats 400000 in
theorem lName (s : ByteArray) (w : World) (hs : s.size ≤ maxLen) :
    Calls Tryz.prog 94 #[.string s] w fun e w' => e = .returned (.bool (nameB s)) ∧ w = w' := by
  unfold maxLen at hs
  by_cases h1 : s.size < 1
  · go_enter Tryz.func94, Tryz.ntmps94
    go_wp2
    go_ret
    exact ⟨ret_bool (nameB_short (.inl h1)).symm, rfl⟩
  by_cases h2 : 24 < s.size
  · have h1' : 1 ≤ s.size := by omega
    clear h1
    go_enter Tryz.func94, Tryz.ntmps94
    go_wp2
    go_ret
    exact ⟨ret_bool (nameB_short (.inr h2)).symm, rfl⟩
  have hlt0 : 0 < s.size := by omega
  have h24 : s.size ≤ 24 := by omega
  have h1' : 1 ≤ s.size := by omega
  clear h1 h2
  have Hd0 : Hid (s.data.toList.getD 0 0 = s[0]) := by
    have hk' : 0 < s.data.toList.length := by simpa using hlt0
    show _ = _
    rw [List.getD_eq_getElem?_getD, List.getElem?_eq_getElem hk']; rfl
  go_enter Tryz.func94, Tryz.ntmps94
  go_wp2
  all_goals first
    | (go_ret; refine ⟨ret_bool (Eq.symm (nameB_dig hlt0 (digC_yes ?_))), rfl⟩; omega)
    | skip
  all_goals
    have Hd : Hid (digC (s.data.toList.getD 0 0) = false) := by
      show _ = _
      rw [Hd0.out]; exact digC_no (by omega)
  all_goals go_loop [25] (fun i => ∃ k : Nat, k ≤ s.size ∧ i = .int .i64 k ∧ (s.data.toList.take k).all okC = true) (fun i => s.size - (intOf i).toNat)
  any_goals (case atStart => exact ⟨0, Nat.zero_le _, rfl, by simp⟩)
  all_goals
    obtain ⟨k, hk, rfl, hr⟩ := hrel
    have Hr := Lib.hid hr; clear hr
    by_cases hlt : k < s.size
    · go_wp2
      all_goals (try simp only [Bool.not_eq_true', Bool.not_eq_false', Bool.not_true, Bool.not_false, Bool.not_eq_true, Bool.not_eq_false, beq_iff_eq, beq_eq_false_iff_ne, bne_iff_ne, ne_eq, bne_eq_false_iff_eq, decide_eq_true_eq, decide_eq_false_iff_not, toList_inj] at *)
      all_goals first
        | (go_ret; refine ⟨ret_bool (Eq.symm ?_), rfl⟩; refine nameB_bad hlt (okC_no ?_ ?_ ?_) <;> omega)
        | skip
      all_goals go_round
      all_goals first
        | (case measure => simp [intOf]; omega)
        | skip
      all_goals refine ⟨k + 1, by omega, by go_num, str_step Hr.out hlt (okC_yes ?_)⟩
      all_goals omega
    · go_wp2
      all_goals go_ret
      all_goals exact ⟨ret_bool (nameB_true (by omega) (by omega) Hd.out (str_done Hr.out (by omega))).symm, rfl⟩

end Go.Proofs.YtfmolimnnheaoaaGreat

/- label.CheckMatch and the reference's: what they compute. -/
namespace Go.Proofs.YtfmolimnnheaoaaGreat
open Go.RowKit
set_option linter.unusedSimpArgs false
set_option linter.unusedVariables false

def matB (m : Mat) : Bool := (m.kind == 1 || m.kind == 2) && nameB m.name && decide (m.text.size ≤ 64)
def checkMats (l : List Mat) : Int := if 8 < l.length then 3 else if l.all matB then 0 else 2

theorem checkMats_long {l : List Mat} (h : 8 < l.length) : checkMats l = 3 := by simp [checkMats, h]
theorem checkMats_ok {l : List Mat} (h : ¬ 8 < l.length) (h' : l.all matB = true) : checkMats l = 0 := by simp only [checkMats, h, h']; rfl
theorem checkMats_bad {l : List Mat} (h : ¬ 8 < l.length) {k : Nat} (hk : k < l.length) (hb : matB l[k] = false) : checkMats l = 2 := by
  simp only [checkMats, h, all_not hk hb]; rfl
theorem matB_kind {m : Mat} (h1 : ¬ m.kind = 1) (h2 : ¬ m.kind = 2) : matB m = false := by simp [matB, h1, h2]
theorem matB_name {m : Mat} (h : nameB m.name = false) : matB m = false := by simp [matB, h]
theorem matB_text {m : Mat} (h : 64 < m.text.size) : matB m = false := by
  have : decide (m.text.size ≤ 64) = false := decide_eq_false (by omega)
  unfold matB; rw [this]; simp
theorem matB_ok {m : Mat} (h : m.kind = 1 ∨ m.kind = 2) (h' : nameB m.name = true) (h'' : m.text.size ≤ 64) : matB m = true := by
  rcases h with h | h <;> simp [matB, h, h', h'']

end Go.Proofs.YtfmolimnnheaoaaGreat

/- Sets of labels as data, how they lie in memory, and what is asked of them, in plain lists. No program here. -/
namespace Go.Proofs.YtfmolimnnheaoaaGreat
open Go.RowKit
set_option linter.unusedSimpArgs false
set_option linter.unusedVariables false

structure Lab where
  name : ByteArray
  text : ByteArray
deriving DecidableEq

def Lab.cells (x : Lab) : List Value := [.string x.name, .string x.text]
def Lab.small (x : Lab) : Prop := x.name.size ≤ maxLen ∧ x.text.size ≤ maxLen

/-- A slice of labels. -/
def IsLabs (n : Nat) (w : World) (v : Value) (l : List Lab) : Prop := Arr n w v 2 (l.map Lab.cells) ∧ ∀ m ∈ l, m.small
theorem IsLabs.mono {n m : Nat} {w w' : World} {v : Value} {l : List Lab} (h : IsLabs n w v l) (hb : Below n w w') (hm : n ≤ m) : IsLabs m w' v l :=
  ⟨h.1.mono hb hm, h.2⟩
theorem IsLabs.open {n : Nat} {w : World} {v : Value} {l : List Lab} (h : IsLabs n w v l) : ∃ p cap, v = .slice p l.length cap ∧ l.length ≤ cap ∧ cap ≤ maxLen ∧ l.length ≤ maxLen := by
  obtain ⟨⟨p, cap, hv, h1, h2, _⟩, _⟩ := h
  simp only [List.length_map] at hv h1
  exact ⟨p, cap, hv, h1, h2, by omega⟩
theorem IsLabs.get {n : Nat} {w : World} {p : Option Addr} {len cap : Nat} {l : List Lab} (h : IsLabs n w (.slice p len cap) l) {k : Nat} (hk : k < l.length) :
    ∃ b off, p = some ⟨b, off, none⟩ ∧ b < n ∧ w.cell? ⟨b, off + k * 2, none⟩ = some (.string l[k].name) ∧ w.cell? ⟨b, off + k * 2 + 1, none⟩ = some (.string l[k].text) ∧
      l[k].name.size ≤ maxLen ∧ l[k].text.size ≤ maxLen := by
  obtain ⟨b, off, hp, hb, hc⟩ := h.1.at k l[k].cells (by simp [hk])
  exact ⟨b, off, hp, hb, hc 0 _ rfl, hc 1 _ rfl, (h.2 _ (List.getElem_mem hk)).1, (h.2 _ (List.getElem_mem hk)).2⟩
theorem IsLabs.nil (n : Nat) (w : World) : IsLabs n w (.slice none 0 0) [] := ⟨Arr.nil _ _ _, by simp⟩

/-! ### may a set be? -/
def labB (x : Lab) : Bool := nameB x.name && decide (1 ≤ x.text.size) && decide (x.text.size ≤ 64)
/-- The names rise, from one on. -/
def rising (last : ByteArray) : List Lab → Bool
  | [] => true
  | x :: l => labB x && sless last x.name && rising x.name l
def lastN (last : ByteArray) (l : List Lab) : ByteArray := l.foldl (fun _ x => x.name) last
theorem rising_append (last : ByteArray) (a b : List Lab) : rising last (a ++ b) = (rising last a && rising (lastN last a) b) := by
  induction a generalizing last with
  | nil => simp [rising, lastN]
  | cons x a ih => simp only [List.cons_append, rising, ih, lastN, List.foldl_cons, Bool.and_assoc]
theorem lastN_snoc (last : ByteArray) (l : List Lab) (x : Lab) : lastN last (l ++ [x]) = x.name := by simp [lastN, List.foldl_append]
/-- May a set be? -/
def checkL (l : List Lab) : Int := if 8 < l.length then 3 else if rising ByteArray.empty l then 0 else 2
theorem rising_step {l : List Lab} {k : Nat} (h : rising ByteArray.empty (l.take k) = true) (hk : k < l.length) (h1 : labB l[k] = true) (h2 : sless (lastN ByteArray.empty (l.take k)) l[k].name = true) :
    rising ByteArray.empty (l.take (k + 1)) = true := by
  rw [List.take_succ_eq_append_getElem hk, rising_append, h]; simp [rising, h1, h2]
theorem rising_bad {l : List Lab} {k : Nat} (hk : k < l.length) (h : labB l[k] = false ∨ sless (lastN ByteArray.empty (l.take k)) l[k].name = false) : rising ByteArray.empty l = false := by
  rw [← List.take_append_drop k l, rising_append, List.drop_eq_getElem_cons hk]
  rcases h with h | h <;> simp [rising, h]
theorem lastN_step {l : List Lab} {k : Nat} (hk : k < l.length) : lastN ByteArray.empty (l.take (k + 1)) = l[k].name := by
  rw [List.take_succ_eq_append_getElem hk, lastN_snoc]
theorem checkL_long {l : List Lab} (h : 8 < l.length) : checkL l = 3 := by simp [checkL, h]
theorem checkL_ok {l : List Lab} (h : ¬ 8 < l.length) (h' : rising ByteArray.empty l = true) : checkL l = 0 := by simp only [checkL, h, h']; rfl
theorem checkL_bad {l : List Lab} (h : ¬ 8 < l.length) (h' : rising ByteArray.empty l = false) : checkL l = 2 := by simp only [checkL, h, h']; rfl
theorem labB_ok {x : Lab} (h : nameB x.name = true) (h1 : 1 ≤ x.text.size) (h2 : x.text.size ≤ 64) : labB x = true := by simp [labB, h, h1, h2]
theorem labB_name {x : Lab} (h : nameB x.name = false) : labB x = false := by simp [labB, h]
theorem labB_text {x : Lab} (h : x.text.size < 1 ∨ 64 < x.text.size) : labB x = false := by
  unfold labB
  rcases h with h | h
  · rw [decide_eq_false (by omega : ¬ 1 ≤ x.text.size)]; simp
  · rw [decide_eq_false (by omega : ¬ x.text.size ≤ 64)]; simp
theorem nameB_size {s : ByteArray} (h : nameB s = true) : 1 ≤ s.size ∧ s.size ≤ 24 := by
  unfold nameB at h
  simp only [Bool.and_eq_true, decide_eq_true_eq] at h
  exact ⟨h.1.1.1, h.1.1.2⟩

/-! ### what a set tells -/
def getL (l : List Lab) (name : ByteArray) : ByteArray := match l.find? fun x => decide (x.name = name) with
  | some x => x.text
  | none => ByteArray.empty
def takesOne (l : List Lab) (m : Mat) : Bool := decide (getL l m.name = m.text) == (m.kind == 1)
def takesAll (m : List Mat) (l : List Lab) : Bool := decide (checkMats m = 0) && decide (checkL l = 0) && m.all (takesOne l)
/-- Is a text among some? -/
def amongB (s : ByteArray) (l : List ByteArray) : Bool := l.any fun t => decide (t = s)
def partL (l : List Lab) (names : List ByteArray) (among : Bool) : List Lab := if checkL l = 0 then l.filter fun x => amongB x.name names == among else []

theorem find_step {l : List Lab} {name : ByteArray} {k : Nat} (h : ∀ x ∈ l.take k, x.name ≠ name) (hk : k < l.length) (hx : l[k].name ≠ name) : ∀ x ∈ l.take (k + 1), x.name ≠ name := by
  intro x hm
  rw [List.take_succ_eq_append_getElem hk] at hm
  rcases List.mem_append.1 hm with h' | h'
  · exact h x h'
  · simp at h'; subst h'; exact hx
theorem getL_at {l : List Lab} {name : ByteArray} {k : Nat} (h : ∀ x ∈ l.take k, x.name ≠ name) (hk : k < l.length) (hx : l[k].name = name) : getL l name = l[k].text := by
  have e : l = l.take k ++ l[k] :: l.drop (k + 1) := by rw [← List.drop_eq_getElem_cons hk, List.take_append_drop]
  have key : ∀ (a : List Lab) (y : Lab) (b : List Lab), (∀ x ∈ a, x.name ≠ name) → y.name = name → (a ++ y :: b).find? (fun x => decide (x.name = name)) = some y := by
    intro a y b h1 h2
    rw [List.find?_append, List.find?_eq_none.2 (by intro x hm; simpa using h1 x hm)]
    simp [h2]
  have := key _ _ (l.drop (k + 1)) h hx
  rw [← e] at this
  unfold getL; rw [this]
theorem getL_none {l : List Lab} {name : ByteArray} (h : ∀ x ∈ l, x.name ≠ name) : getL l name = ByteArray.empty := by
  unfold getL; rw [List.find?_eq_none.2 (by intro x hm; simpa using h x hm)]

end Go.Proofs.YtfmolimnnheaoaaGreat

/- Results and vectors as data: the order of sets of labels, may a vector be, what is found. No program here. -/
namespace Go.Proofs.YtfmolimnnheaoaaGreat
open Go.RowKit
set_option linter.unusedSimpArgs false
set_option linter.unusedVariables false

structure Rs where
  labs : List Lab
  n : Int
  over : Bool
deriving DecidableEq

def cmpW (a b : ByteArray) : Int := if sless a b then -1 else if sless b a then 1 else 0
def cmpLab (a b : Lab) : Int := if cmpW a.name b.name = 0 then cmpW a.text b.text else cmpW a.name b.name
def orderL : List Lab → List Lab → Int
  | [], [] => 0
  | [], _ :: _ => -1
  | _ :: _, [] => 1
  | a :: xs, b :: ys => if cmpLab a b = 0 then orderL xs ys else cmpLab a b
def compareL (a b : List Lab) : Int := if checkL a = 0 ∧ checkL b = 0 then orderL a b else 0
def valB (r : Rs) : Bool := !(r.over && decide (r.n ≠ 0))
def rightR (r : Rs) : Bool := decide (checkL r.labs = 0) && valB r
/-- May the result at this place stand there? -/
def okAt (v : List Rs) (i : Nat) : Bool := match v[i]? with
  | none => false
  | some r => rightR r && (match i with
    | 0 => true
    | j + 1 => match v[j]? with
      | none => false
      | some p => decide (compareL p.labs r.labs < 0))
def checkV (v : List Rs) : Int := if 4096 < v.length then 3 else if upto (okAt v) v.length then 0 else 2

/-! ### the order -/
theorem cmpW_zero {a b : ByteArray} : cmpW a b = 0 ↔ a = b := by
  unfold cmpW
  constructor
  · intro h
    rcases sless_tri a b with h1 | h1 | h1
    · rw [if_pos h1] at h; omega
    · exact h1
    · rw [if_neg (by rw [sless_asymm h1]; simp), if_pos h1] at h; omega
  · rintro rfl
    rw [sless_irrefl]; simp
theorem cmpW_neg {a b : ByteArray} : cmpW a b < 0 ↔ sless a b = true := by
  unfold cmpW
  split
  · rename_i h; simp [h]
  · rename_i h
    split
    · constructor
      · intro h2; omega
      · intro h2; exact absurd h2 h
    · constructor
      · intro h2; omega
      · intro h2; exact absurd h2 h
theorem cmpW_swap (a b : ByteArray) : cmpW b a = - cmpW a b := by
  unfold cmpW
  by_cases h1 : sless a b = true
  · have := sless_asymm h1
    simp [h1, this]
  · by_cases h2 : sless b a = true
    · simp [h1, h2]
    · simp [h1, h2]
theorem cmpW_trans {a b c : ByteArray} (h1 : cmpW a b < 0) (h2 : cmpW b c < 0) : cmpW a c < 0 := cmpW_neg.2 (sless_trans (cmpW_neg.1 h1) (cmpW_neg.1 h2))
theorem cmpLab_zero {a b : Lab} : cmpLab a b = 0 ↔ a = b := by
  unfold cmpLab
  by_cases h : cmpW a.name b.name = 0
  · rw [if_pos h, cmpW_zero]
    have hn := cmpW_zero.1 h
    constructor
    · intro ht; cases a; cases b; simp_all
    · rintro rfl; rfl
  · rw [if_neg h]
    constructor
    · intro h2; exact absurd h2 h
    · rintro rfl; exact absurd (cmpW_zero.2 rfl) h
theorem cmpLab_swap (a b : Lab) : cmpLab b a = - cmpLab a b := by
  unfold cmpLab
  rw [cmpW_swap a.name b.name, cmpW_swap a.text b.text]
  by_cases h : cmpW a.name b.name = 0
  · rw [if_pos h, if_pos (by omega)]
  · rw [if_neg h, if_neg (by omega)]
theorem cmpLab_trans {a b c : Lab} (h1 : cmpLab a b < 0) (h2 : cmpLab b c < 0) : cmpLab a c < 0 := by
  unfold cmpLab at *
  by_cases e1 : cmpW a.name b.name = 0
  · rw [if_pos e1] at h1
    have e1' := cmpW_zero.1 e1
    by_cases e2 : cmpW b.name c.name = 0
    · rw [if_pos e2] at h2
      rw [e1', if_pos e2]
      exact cmpW_trans h1 h2
    · rw [if_neg e2] at h2
      rw [e1', if_neg e2]; exact h2
  · rw [if_neg e1] at h1
    by_cases e2 : cmpW b.name c.name = 0
    · rw [← cmpW_zero.1 e2, if_neg e1]; exact h1
    · rw [if_neg e2] at h2
      have := cmpW_trans h1 h2
      rw [if_neg (by omega)]; exact this
theorem orderL_zero : ∀ {a b : List Lab}, orderL a b = 0 ↔ a = b
  | [], [] => by simp [orderL]
  | [], _ :: _ => by simp [orderL]
  | _ :: _, [] => by simp [orderL]
  | a :: xs, b :: ys => by
    unfold orderL
    by_cases h : cmpLab a b = 0
    · rw [if_pos h, orderL_zero, cmpLab_zero.1 h]; simp
    · rw [if_neg h]
      constructor
      · intro h2; exact absurd h2 h
      · intro h2
        simp only [List.cons.injEq] at h2
        exact absurd (cmpLab_zero.2 h2.1) h
theorem orderL_swap : ∀ (a b : List Lab), orderL b a = - orderL a b
  | [], [] => by simp [orderL]
  | [], _ :: _ => by simp [orderL]
  | _ :: _, [] => by simp [orderL]
  | a :: xs, b :: ys => by
    unfold orderL
    rw [cmpLab_swap a b]
    by_cases h : cmpLab a b = 0
    · rw [if_pos h, if_pos (by omega)]; exact orderL_swap xs ys
    · rw [if_neg h, if_neg (by omega)]
theorem orderL_trans : ∀ {a b c : List Lab}, orderL a b < 0 → orderL b c < 0 → orderL a c < 0
  | [], [], _, h1, h2 => by simp [orderL] at h1
  | [], _ :: _, [], h1, h2 => by simp [orderL] at h2
  | [], _ :: _, _ :: _, h1, h2 => by simp [orderL]
  | _ :: _, [], _, h1, h2 => by simp [orderL] at h1
  | _ :: _, _ :: _, [], h1, h2 => by simp [orderL] at h2
  | a :: xs, b :: ys, c :: zs, h1, h2 => by
    unfold orderL at *
    by_cases e1 : cmpLab a b = 0
    · rw [if_pos e1] at h1
      have e1' := cmpLab_zero.1 e1
      by_cases e2 : cmpLab b c = 0
      · rw [if_pos e2] at h2
        rw [e1', if_pos e2]
        exact orderL_trans h1 h2
      · rw [if_neg e2] at h2
        rw [e1', if_neg e2]; exact h2
    · rw [if_neg e1] at h1
      by_cases e2 : cmpLab b c = 0
      · rw [← cmpLab_zero.1 e2, if_neg e1]; exact h1
      · rw [if_neg e2] at h2
        have := cmpLab_trans h1 h2
        rw [if_neg (by omega)]; exact this
theorem compareL_ok {a b : List Lab} (h1 : checkL a = 0) (h2 : checkL b = 0) : compareL a b = orderL a b := by unfold compareL; rw [if_pos ⟨h1, h2⟩]

/-! ### a vector that may be -/
theorem okAt_right {v : List Rs} {i : Nat} (h : okAt v i = true) {r : Rs} (hr : v[i]? = some r) : rightR r = true := by
  unfold okAt at h
  rw [hr] at h
  simp only [Bool.and_eq_true] at h
  exact h.1
theorem okAt_less {v : List Rs} {i : Nat} (h : okAt v (i + 1) = true) {p r : Rs} (hp : v[i]? = some p) (hr : v[i + 1]? = some r) : compareL p.labs r.labs < 0 := by
  unfold okAt at h
  rw [hr] at h
  simp only [hp, Bool.and_eq_true, decide_eq_true_eq] at h
  exact h.2
theorem checkV_ok {v : List Rs} (h : checkV v = 0) : v.length ≤ 4096 ∧ ∀ i, i < v.length → okAt v i = true := by
  unfold checkV at h
  split at h
  · omega
  · split at h
    · rename_i h1 h2; exact ⟨by omega, fun i hi => upto_iff.1 h2 i hi⟩
    · omega
theorem right_check {r : Rs} (h : rightR r = true) : checkL r.labs = 0 := by unfold rightR at h; simp at h; exact h.1
/-- The labels rise. -/
theorem checkV_rise {v : List Rs} (h : checkV v = 0) : ∀ {j i : Nat} {p r : Rs}, i < j → v[i]? = some p → v[j]? = some r → orderL p.labs r.labs < 0 := by
  have hall := (checkV_ok h).2
  intro j
  induction j with
  | zero => intro i p r hij; omega
  | succ j ih =>
    intro i p r hij hp hr
    have hj : j + 1 < v.length := (List.getElem?_eq_some_iff.1 hr).1
    obtain ⟨q, hq⟩ : ∃ q, v[j]? = some q := ⟨_, List.getElem?_eq_getElem (by omega)⟩
    have h1 := okAt_less (hall (j + 1) hj) hq hr
    rw [compareL_ok (right_check (okAt_right (hall j (by omega)) hq)) (right_check (okAt_right (hall (j + 1) hj) hr))] at h1
    rcases Nat.lt_or_ge i j with h2 | h2
    · exact orderL_trans (ih h2 hp hq) h1
    · have : i = j := by omega
      subst this
      rw [hp] at hq; cases hq; exact h1
theorem checkV_mem {v : List Rs} (h : checkV v = 0) : ∀ r ∈ v, rightR r = true := by
  intro r hr
  obtain ⟨i, hi, rfl⟩ := List.getElem_of_mem hr
  exact okAt_right ((checkV_ok h).2 i hi) (List.getElem?_eq_getElem hi)
def findV (v : List Rs) (l : List Lab) : Option Rs := v.find? fun r => decide (r.labs = l)
theorem findV_at {v : List Rs} (h : checkV v = 0) {i : Nat} {r : Rs} (hr : v[i]? = some r) : findV v r.labs = some r := by
  unfold findV
  cases hf : v.find? (fun x => decide (x.labs = r.labs)) with
  | none =>
    have := List.find?_eq_none.1 hf r (List.mem_of_getElem? hr)
    simp at this
  | some x =>
    have h1 := List.find?_some hf
    obtain ⟨j, hj, hx⟩ := List.getElem_of_mem (List.mem_of_find?_eq_some hf)
    have hxj : v[j]? = some x := by rw [List.getElem?_eq_getElem hj, hx]
    simp only [decide_eq_true_eq] at h1
    rcases Nat.lt_trichotomy j i with h2 | h2 | h2
    · have := checkV_rise h h2 hxj hr
      rw [orderL_zero.2 h1] at this; omega
    · subst h2; rw [hr] at hxj; cases hxj; rfl
    · have := checkV_rise h h2 hr hxj
      rw [orderL_zero.2 h1.symm] at this; omega
theorem findV_some (v : List Rs) (l : List Lab) : (findV v l).isSome = v.any fun r => decide (r.labs = l) := by
  unfold findV
  rw [Bool.eq_iff_iff, List.find?_isSome]
  simp
/-- Where a search in a vector that may be ends. -/
theorem findV_split {v : List Rs} (h : checkV v = 0) {l : List Lab} {k : Nat} (hk : k ≤ v.length) (hs : ∀ j r, v[j]? = some r → (orderL r.labs l < 0 ↔ j < k)) : findV v l = match v[k]? with
    | some r => if orderL r.labs l = 0 then some r else none
    | none => none := by
  unfold findV
  cases hr : v[k]? with
  | none =>
    refine List.find?_eq_none.2 fun x hx => ?_
    obtain ⟨j, hj, rfl⟩ := List.getElem_of_mem hx
    have hkl : v.length ≤ k := List.getElem?_eq_none_iff.1 hr
    have := (hs j v[j] (List.getElem?_eq_getElem hj)).2 (by omega)
    simp only [decide_eq_true_eq]
    intro e
    rw [orderL_zero.2 e] at this; omega
  | some r =>
    by_cases h0 : orderL r.labs l = 0
    · show _ = if orderL r.labs l = 0 then some r else none
      rw [if_pos h0]
      have e := orderL_zero.1 h0
      have := findV_at h hr
      unfold findV at this
      rw [e] at this
      exact this
    · show _ = if orderL r.labs l = 0 then some r else none
      rw [if_neg h0]
      refine List.find?_eq_none.2 fun x hx => ?_
      obtain ⟨j, hj, hx2⟩ := List.getElem_of_mem hx
      have hxj : v[j]? = some x := by rw [List.getElem?_eq_getElem hj, hx2]
      simp only [decide_eq_true_eq]
      intro e
      have hz := orderL_zero.2 e
      have h1 := hs j x hxj
      have h2 : ¬ j < k := fun hlt => by have := h1.2 hlt; omega
      rcases Nat.lt_or_ge k j with h3 | h3
      · have h4 := checkV_rise h h3 hr hxj
        have h5 := hs k r hr
        have h6 : ¬ orderL r.labs l < 0 := fun hlt => by have := h5.1 hlt; omega
        rw [e] at h4
        exact h6 h4
      · have : j = k := by omega
        subst this
        rw [hr] at hxj; cases hxj
        exact h0 hz
end Go.Proofs.YtfmolimnnheaoaaGreat

/- label.Check, Get, takes, Takes: what they compute. -/
namespace Go.Proofs.YtfmolimnnheaoaaGreat
open Go.RowKit
set_option linter.unusedSimpArgs false
set_option linter.unusedVariables false

theorem sle_yes {a b : ByteArray} (h : Op.bytesLess a.toList b.toList = true ∨ a.toList = b.toList) : sless b a = false := sle_true (h.imp id fun h => by simpa using h)
theorem sle_no {a b : ByteArray} (h : Op.bytesLess a.toList b.toList = false ∧ ¬a.toList = b.toList) : sless b a = true := sle_false ⟨h.1, by simpa using h.2⟩
theorem txt_none {s : ByteArray} (h : s.toList.isEmpty = true) : s.size < 1 := by
  rw [ByteArray.toList_eq] at h
  obtain ⟨⟨l⟩⟩ := s
  cases l with
  | nil => decide
  | cons x l => simp at h
theorem txt_some {s : ByteArray} (h : s.toList.isEmpty = false) : 1 ≤ s.size := by
  rw [ByteArray.toList_eq] at h
  obtain ⟨⟨l⟩⟩ := s
  cases l with
  | nil => simp at h
  | cons x l => simp [ByteArray.size]
set_option maxHeartbeats 1000000 in
theorem lCheck (l : List Lab) (v : Value) (n : Nat) (w : World) (hn : n ≤ w.heap.size) (h : IsLabs n w v l) :
    Calls Tryz.prog 84 #[v] w fun e w' => e = .returned (.int .i64 (checkL l)) ∧ Below w.heap.size w w' := by
  obtain ⟨p, cap, rfl, _, _, hl⟩ := h.open
  unfold maxLen at hl
  go_enter Tryz.func84, Tryz.ntmps84; (try simp only [List.append_eq, List.cons_append, List.nil_append])
  by_cases h8 : 8 < l.length
  · go_wp2
    go_ret
    exact ⟨ret_int (checkL_long h8).symm, Below.refl _ _⟩
  · go_wp2
    go_loopw [3, 11] (fun s i wr => ∃ k : Nat, k ≤ l.length ∧ i = .int .i64 k ∧ s = .string (lastN ByteArray.empty (l.take k)) ∧ rising ByteArray.empty (l.take k) = true ∧ Below w.heap.size w wr) (fun _ i _ => l.length - (intOf i).toNat)
    case atStart => exact ⟨0, Nat.zero_le _, rfl, rfl, rfl, Below.refl _ _⟩
    case round =>
      obtain ⟨k, hk, rfl, rfl, hr, hb⟩ := hrel
      have Hr := Lib.hid hr; clear hr
      have Hb := Lib.hid hb; clear hb
      by_cases hlt : k < l.length
      · have hstep := Lib.hid (lastN_step hlt)
        have hgood := fun h1 h2 => rising_step Hr.out hlt h1 h2
        have hbad := fun hx => checkL_bad h8 (rising_bad hlt hx)
        have Hgood := Lib.hid hgood; clear hgood
        have Hbad := Lib.hid hbad; clear hbad
        obtain ⟨last, hlast⟩ : ∃ s, lastN ByteArray.empty (l.take k) = s := ⟨_, rfl⟩
        rw [hlast] at Hgood Hbad ⊢
        clear hlast
        obtain ⟨b, off, rfl, hbn, h1, h2, hs1, hs2⟩ := (h.mono (Hb.out.mono hn) (Nat.le_refl _)).get hlt
        obtain ⟨x, hx⟩ : ∃ x, l[k] = x := ⟨_, rfl⟩
        rw [hx] at Hgood Hbad hstep h1 h2 hs1 hs2
        clear hx
        have Hh := Lib.hid h; clear h
        have Hs1 := Lib.hid hs1; clear hs1
        unfold maxLen at hs2
        go_wp2_with (go_at_call 94; refine (lName _ _ Hs1.out).mono ?_; rintro e w' ⟨rfl, rfl⟩)
        · go_ret
          exact ⟨ret_int (Eq.symm (Hbad.out (.inl (labB_name (by assumption))))), Hb.out.alloc Hb.out.size _⟩
        · go_ret
          exact ⟨ret_int (Eq.symm (Hbad.out (.inr (sle_yes (by assumption))))), Hb.out.alloc Hb.out.size _⟩
        · go_ret
          exact ⟨ret_int (Eq.symm (Hbad.out (.inl (labB_text (.inl (txt_none (by assumption))))))), Hb.out.alloc Hb.out.size _⟩
        · go_ret
          exact ⟨ret_int (Eq.symm (Hbad.out (.inl (labB_text (.inr (by omega)))))), Hb.out.alloc Hb.out.size _⟩
        · exact ⟨⟨k + 1, by omega, by go_num, by rw [hstep.out], Hgood.out (labB_ok (by assumption) (txt_some (by assumption)) (by omega)) (sle_no (by assumption)), Hb.out.alloc Hb.out.size _⟩, by simp [intOf]; omega⟩
      · go_wp2
        go_ret
        rw [List.take_of_length_le (by omega)] at Hr
        exact ⟨ret_int (checkL_ok h8 Hr.out).symm, Hb.out⟩
end Go.Proofs.YtfmolimnnheaoaaGreat

/- Labels sorted by their names, by insertion; and a set of labels made. Plain lists; no program here. -/
namespace Go.Proofs.YtfmolimnnheaoaaGreat
open Go.RowKit
set_option linter.unusedSimpArgs false
set_option linter.unusedVariables false

/-- Not behind. -/
def leN (a b : Lab) : Prop := sless b.name a.name = false
theorem leN_refl (a : Lab) : leN a a := sless_irrefl _
theorem leN_of_lt {a b : Lab} (h : sless a.name b.name = true) : leN a b := sless_asymm h
theorem leN_trans {a b c : Lab} (h : leN a b) (h' : leN b c) : leN a c := by
  unfold leN at *
  cases hc : sless c.name a.name with
  | false => rfl
  | true =>
    rcases sless_tri b.name c.name with h1 | h1 | h1
    · rw [sless_trans h1 hc] at h; cases h
    · rw [h1, hc] at h; cases h
    · rw [h1] at h'; cases h'
/-- One more is put among those that are sorted: behind `a`, ahead of `b`. -/
structure Ins (a : List Lab) (x : Lab) (b : List Lab) : Prop where
  srt : (a ++ b).Pairwise leN
  lt : ∀ y ∈ b, sless x.name y.name = true
theorem Ins.start {a : List Lab} {x : Lab} (h : a.Pairwise leN) : Ins a x [] := ⟨by simpa using h, by simp⟩
theorem Ins.step {a : List Lab} {y x : Lab} {b : List Lab} (h : Ins (a ++ [y]) x b) (hlt : sless x.name y.name = true) : Ins a x (y :: b) :=
  ⟨by have := h.srt; simpa using this, by intro z hz; exact (List.mem_cons.1 hz).elim (fun e => e ▸ hlt) (fun hz => h.lt z hz)⟩
theorem Ins.done_nil {x : Lab} {b : List Lab} (h : Ins [] x b) : ([] ++ x :: b).Pairwise leN := by
  rw [List.nil_append, List.pairwise_cons]
  exact ⟨fun y hy => leN_of_lt (h.lt y hy), by simpa using h.srt⟩
theorem Ins.done {a : List Lab} {y x : Lab} {b : List Lab} (h : Ins (a ++ [y]) x b) (hge : sless x.name y.name = false) : ((a ++ [y]) ++ x :: b).Pairwise leN := by
  have hs := h.srt
  rw [List.pairwise_append] at hs ⊢
  obtain ⟨h1, h2, h3⟩ := hs
  refine ⟨h1, by rw [List.pairwise_cons]; exact ⟨fun z hz => leN_of_lt (h.lt z hz), h2⟩, fun u hu z hz => ?_⟩
  rcases List.mem_cons.1 hz with rfl | hz
  · have hy : leN u y := by
      rcases List.mem_append.1 hu with hu' | hu'
      · rw [List.pairwise_append] at h1
        exact h1.2.2 u hu' y (by simp)
      · simp at hu'; subst hu'; exact leN_refl _
    exact leN_trans hy hge
  · exact h3 u hu z hz

/-- Two neighbours change places. -/
def swapAt (l : List Lab) (i j : Nat) (x y : Lab) : List Lab := (l.set i y).set j x
theorem swap_mid (p : List Lab) (x y : Lab) (q : List Lab) : ((p ++ y :: x :: q).set (p.length + 1) y).set p.length x = p ++ x :: y :: q := by
  induction p with
  | nil => rfl
  | cons z p ih =>
    rw [List.cons_append, List.length_cons, show p.length + 1 + 1 = (p.length + 1) + 1 from rfl, List.set_cons_succ, List.set_cons_succ, ih]; rfl
theorem get_mid (p : List Lab) (x : Lab) (q : List Lab) : (p ++ x :: q)[p.length]? = some x := by simp
theorem get_mid1 (p : List Lab) (y x : Lab) (q : List Lab) : (p ++ y :: x :: q)[p.length + 1]? = some x := by simp

/-- The cells of labels, one behind the other. -/
def flat (l : List Lab) : List Value := (l.map Lab.cells).flatten
theorem flat_nil : flat [] = [] := rfl
theorem flat_cons (x : Lab) (l : List Lab) : flat (x :: l) = .string x.name :: .string x.text :: flat l := rfl
theorem flat_append (a b : List Lab) : flat (a ++ b) = flat a ++ flat b := by simp [flat]
theorem flatL_length (l : List Lab) : (flat l).length = l.length * 2 := by
  induction l with
  | nil => rfl
  | cons x l ih => rw [flat_cons, List.length_cons, List.length_cons, List.length_cons, ih]; omega
theorem flat_one (l : List Lab) : ∀ u ∈ flat l, u.oneCell' = true := by
  induction l with
  | nil => simp [flat]
  | cons x l ih => intro u hu; rw [flat_cons] at hu; rcases List.mem_cons.1 hu with rfl | hu; rfl; rcases List.mem_cons.1 hu with rfl | hu; rfl; exact ih u hu
theorem flat_at0 (l : List Lab) (k : Nat) (x : Lab) (h : l[k]? = some x) : (flat l)[k * 2]? = some (.string x.name) := by
  induction l generalizing k with
  | nil => simp at h
  | cons y l ih =>
    cases k with
    | zero => simp at h; subst h; rfl
    | succ k => rw [flat_cons, show (k + 1) * 2 = k * 2 + 1 + 1 by omega]; simp only [List.getElem?_cons_succ] at h ⊢; exact ih k h
theorem flat_at1 (l : List Lab) (k : Nat) (x : Lab) (h : l[k]? = some x) : (flat l)[k * 2 + 1]? = some (.string x.text) := by
  induction l generalizing k with
  | nil => simp at h
  | cons y l ih =>
    cases k with
    | zero => simp at h; subst h; rfl
    | succ k => rw [flat_cons, show (k + 1) * 2 + 1 = k * 2 + 1 + 1 + 1 by omega]; simp only [List.getElem?_cons_succ] at h ⊢; exact ih k h
theorem flat_setL (l : List Lab) (k : Nat) (x : Lab) : ((flat l).set (k * 2) (.string x.name)).set (k * 2 + 1) (.string x.text) = flat (l.set k x) := by
  induction l generalizing k with
  | nil => simp [flat]
  | cons y l ih =>
    cases k with
    | zero => rfl
    | succ k =>
      rw [show (k + 1) * 2 = k * 2 + 1 + 1 by omega, flat_cons, List.set_cons_succ, List.set_cons_succ, List.set_cons_succ, List.set_cons_succ, ih, List.set_cons_succ, flat_cons]

/-! ### a set of labels -/
/-- Do two have the same name? -/
def dupN (l : List Lab) : Bool := !decide ((l.map (·.name)).Nodup)
def full (x : Lab) : Bool := decide (1 ≤ x.text.size)
/-- The strict order. -/
def ltN (a b : Lab) : Prop := sless a.name b.name = true
theorem sorted_dup {l : List Lab} (h : l.Pairwise leN) : (l.map (·.name)).Nodup ↔ l.Pairwise ltN := by
  unfold List.Nodup
  rw [List.pairwise_map]
  constructor
  · intro h2
    refine (h.and h2).imp ?_
    rintro a b ⟨h1, h2⟩
    rcases sless_tri a.name b.name with h3 | h3 | h3
    · exact h3
    · exact (h2 h3).elim
    · unfold leN at h1; rw [h3] at h1; cases h1
  · intro h2
    refine h2.imp ?_
    intro a b h1 h3
    unfold ltN at h1; rw [h3, sless_irrefl] at h1; cases h1
/-- A list in strict order is told by what is in it. -/
theorem sorted_unique {a b : List Lab} (hp : a.Perm b) (ha : a.Pairwise ltN) (hb : b.Pairwise ltN) : a = b := by
  refine List.Perm.eq_of_pairwise (le := ltN) ?_ ha hb hp
  intro x y _ _ h1 h2
  have := sless_trans h1 h2
  rw [sless_irrefl] at this; cases this

/-- Put among those that are sorted. -/
def insN (x : Lab) : List Lab → List Lab
  | [] => [x]
  | y :: l => if sless y.name x.name then y :: insN x l else x :: y :: l
theorem insN_perm (x : Lab) (l : List Lab) : (insN x l).Perm (x :: l) := by
  induction l with
  | nil => exact List.Perm.refl _
  | cons y l ih =>
    unfold insN
    split
    · exact (ih.cons y).trans (List.Perm.swap x y l)
    · exact List.Perm.refl _
theorem insN_sorted {x : Lab} {l : List Lab} (h : l.Pairwise leN) : (insN x l).Pairwise leN := by
  induction l with
  | nil => simp [insN]
  | cons y l ih =>
    rw [List.pairwise_cons] at h
    unfold insN
    split
    · rename_i hlt
      rw [List.pairwise_cons]
      refine ⟨fun z hz => ?_, ih h.2⟩
      rcases List.mem_cons.1 ((insN_perm x l).mem_iff.1 hz) with rfl | hz
      · exact leN_of_lt hlt
      · exact h.1 z hz
    · rename_i hlt
      have hxy : leN x y := by simpa [leN] using hlt
      rw [List.pairwise_cons]
      refine ⟨fun z hz => ?_, List.pairwise_cons.2 h⟩
      rcases List.mem_cons.1 hz with rfl | hz
      · exact hxy
      · exact leN_trans hxy (h.1 z hz)
/-- Those that have a text, sorted. -/
def sortR (l : List Lab) : List Lab := l.foldl (fun o x => if full x then insN x o else o) []
theorem sortR_snoc (l : List Lab) (x : Lab) : sortR (l ++ [x]) = if full x then insN x (sortR l) else sortR l := by simp [sortR, List.foldl_append]
theorem sortR_aux : ∀ (l o : List Lab), (l.foldl (fun o x => if full x then insN x o else o) o).Perm (l.filter full ++ o)
  | [], o => List.Perm.refl _
  | x :: l, o => by
    rw [List.foldl_cons]
    refine (sortR_aux l _).trans ?_
    cases hx : full x with
    | true =>
      rw [if_pos rfl, List.filter_cons_of_pos hx]
      exact ((insN_perm x o).append_left _).trans List.perm_middle
    | false => rw [if_neg (by simp), List.filter_cons_of_neg (by simp [hx])]
theorem sortR_perm (l : List Lab) : (sortR l).Perm (l.filter full) := by have := sortR_aux l []; rwa [List.append_nil] at this
theorem sortR_saux : ∀ (l o : List Lab), o.Pairwise leN → (l.foldl (fun o x => if full x then insN x o else o) o).Pairwise leN
  | [], o, h => h
  | x :: l, o, h => by
    rw [List.foldl_cons]
    refine sortR_saux l _ ?_
    split
    · exact insN_sorted h
    · exact h
theorem sortR_sorted (l : List Lab) : (sortR l).Pairwise leN := sortR_saux l [] .nil
/-- A set of labels, and what is wrong with it. -/
def ofL (l : List Lab) : List Lab × Int := if dupN l then ([], 2) else if checkL (sortR l) = 0 then (sortR l, 0) else ([], checkL (sortR l))
theorem nodup_filter {l : List Lab} (h : (l.map (·.name)).Nodup) : ((l.filter full).map (·.name)).Nodup := by
  unfold List.Nodup at *
  rw [List.pairwise_map] at *
  exact h.filter _
/-- Whoever sorts has the same. -/
theorem sorted_is {l s : List Lab} (hp : s.Perm l) (hs : s.Pairwise leN) (hd : dupN l = false) : s.filter full = sortR l := by
  have hn : (l.map (·.name)).Nodup := by simpa [dupN] using hd
  have h1 : ((s.filter full).map (·.name)).Nodup := nodup_filter ((hp.map _).nodup_iff.2 hn)
  have hq : (s.filter full).Perm (sortR l) := (hp.filter _).trans (sortR_perm l).symm
  have h2 : ((sortR l).map (·.name)).Nodup := (hq.map _).nodup_iff.1 h1
  exact sorted_unique hq ((sorted_dup (hs.filter _)).1 h1) ((sorted_dup (sortR_sorted l)).1 h2)
/-- Neighbours of the same name. -/
theorem dup_adj {l s : List Lab} (hp : s.Perm l) {k : Nat} (hk : k + 1 < s.length) (h : s[k + 1].name = s[k].name) : dupN l = true := by
  cases hd : dupN l with
  | true => rfl
  | false =>
    have hn : (l.map (·.name)).Nodup := by simpa [dupN] using hd
    have h1 : (s.map (·.name)).Nodup := (hp.map _).nodup_iff.2 hn
    have := (List.nodup_iff_pairwise_ne.1 h1)
    rw [List.pairwise_iff_getElem] at this
    have h3 := this k (k + 1) (by simp; omega) (by simp; omega) (by omega)
    simp at h3
    exact (h3 h.symm).elim
theorem nodup_adj {l s : List Lab} (hp : s.Perm l) (hs : s.Pairwise leN) (h : ∀ k, (hk : k + 1 < s.length) → s[k + 1].name ≠ s[k].name) : dupN l = false := by
  have key : ∀ (s : List Lab), s.Pairwise leN → (∀ k, (hk : k + 1 < s.length) → s[k + 1].name ≠ s[k].name) → s.Pairwise ltN := by
    intro s
    induction s with
    | nil => intro _ _; exact .nil
    | cons x s ih =>
      intro hs h
      rw [List.pairwise_cons] at hs
      have ih' := ih hs.2 (fun k hk => by have := h (k + 1) (by simp; omega); simpa using this)
      rw [List.pairwise_cons]
      refine ⟨fun y hy => ?_, ih'⟩
      cases s with
      | nil => cases hy
      | cons z s =>
        have h0 := h 0 (by simp)
        have hxz : ltN x z := by
          have h1 := hs.1 z (by simp)
          rcases sless_tri x.name z.name with h3 | h3 | h3
          · exact h3
          · simp at h0; exact (h0 h3.symm).elim
          · unfold leN at h1; rw [h3] at h1; cases h1
        rcases List.mem_cons.1 hy with rfl | hy
        · exact hxz
        · rw [List.pairwise_cons] at ih'
          exact sless_trans hxz (ih'.1 y hy)
  have hn := (sorted_dup hs).2 (key s hs h)
  have : (l.map (·.name)).Nodup := (hp.map _).nodup_iff.1 hn
  simp [dupN, this]
end Go.Proofs.YtfmolimnnheaoaaGreat
