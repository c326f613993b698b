/- An expression's text, as plain functions on bytes. No program here. -/
import Derived.Test.YtobelmipjanibaaDoorK12
import Derived.Test.YtobelmipjanibaaDoorK0
import Derived.Lib.ItoaNum
import Derived.Lib.ItoaLen
import Derived.Lib.Join
namespace Go.Proofs.YtobelmipjanibaaDoor
open Go.RowKit
set_option linter.unusedSimpArgs false
set_option linter.unusedVariables false

/-- The sign of an operator or a comparison. -/
def signL (op : Int) : List UInt8 :=
  if op = 1 then [43] else if op = 2 then [45] else if op = 3 then [42] else if op = 4 then [60] else if op = 5 then [60, 61] else if op = 6 then [62] else if op = 7 then [62, 61] else if op = 8 then [61, 61] else if op = 9 then [33, 61] else []
/-- The word of a function. -/
def wordL (k f : Int) : List UInt8 :=
  if k = 1 then
    (if f = 1 then [115, 117, 109] else if f = 2 then [99, 111, 117, 110, 116] else if f = 3 then [109, 105, 110] else if f = 4 then [109, 97, 120] else if f = 5 then [108, 97, 115, 116] else if f = 6 then [105, 110, 99, 114, 101, 97, 115, 101] else [])
  else if k = 2 then
    (if f = 1 then [116, 111, 116, 97, 108] else if f = 2 then [109, 97, 110, 121] else if f = 3 then [108, 101, 97, 115, 116] else if f = 4 then [109, 111, 115, 116] else [])
  else []
/-- How strong a kind of expression holds together. -/
def strI (k op : Int) : Int := if k = 3 ∨ k = 4 then (if op = 3 then 2 else 1) else if k = 5 then 0 else 3
/-- Names, commas between. -/
def namesL (l : List ByteArray) : List UInt8 := Lib.join (l.map (·.data.toList)) [44, 32]
def eqL (k : Int) : List UInt8 := if k = 1 then [61] else if k = 2 then [33, 61] else []
def matL (first : Bool) (m : Mat) : List UInt8 := (if first then [123] else [44, 32]) ++ m.name.data.toList ++ eqL m.kind ++ quoteL m.text.data.toList
def matsTail (l : List Mat) : List UInt8 := l.flatMap (matL false)
/-- The first k matchers. -/
def matsUp : List Mat → List UInt8
  | [] => []
  | m :: r => matL true m ++ matsTail r
def matsL (l : List Mat) : List UInt8 := if l = [] then [] else matsUp l ++ [125]
def windowL (k fn : Int) (metric : ByteArray) (mats : List Mat) (span : Int) : List UInt8 :=
  wordL k fn ++ [40] ++ metric.data.toList ++ matsL mats ++ ([91] ++ Lib.itoa span ++ [93, 41])
/-- A kid's text, in brackets where it is weaker. -/
def kidT (least : Int) (x : Int × List UInt8) : List UInt8 := if least ≤ x.1 then x.2 else [40] ++ x.2 ++ [41]
def onL (names : List ByteArray) : List UInt8 := if names = [] then [] else [111, 110, 32, 40] ++ namesL names ++ [41, 32]
def nodeT (kind fn op num : Int) (metric : ByteArray) (mats : List Mat) (span : Int) (names : List ByteArray) (ks : List (Int × List UInt8)) : List UInt8 :=
  if kind = 1 then windowL kind fn metric mats span
  else if kind = 2 then wordL kind fn ++ [32, 98, 121, 32, 40] ++ namesL names ++ [41, 32, 40] ++ (ks.getD 0 (0, [])).2 ++ [41]
  else if kind = 3 then kidT (strI kind op) (ks.getD 0 (0, [])) ++ ([32] ++ signL op ++ [32]) ++ onL names ++ kidT (strI kind op + 1) (ks.getD 1 (0, []))
  else if kind = 4 then kidT (strI kind op) (ks.getD 0 (0, [])) ++ ([32] ++ signL op ++ [32] ++ Lib.itoa num)
  else if kind = 5 then kidT 1 (ks.getD 0 (0, [])) ++ ([32] ++ signL op ++ [32] ++ Lib.itoa num)
  else []
mutual
/-- An expression's text. -/
def exT : Ex → List UInt8
  | .mk kind fn op num metric mats span names kids => nodeT kind fn op num metric mats span names (exTs kids)
def exTs : List Ex → List (Int × List UInt8)
  | [] => []
  | e :: r => (strI e.kind e.op, exT e) :: exTs r
end
theorem exT_eq (e : Ex) : exT e = nodeT e.kind e.fn e.op e.num e.metric e.mats e.span e.names (exTs e.kids) := by cases e; simp [exT, Ex.kind, Ex.fn, Ex.op, Ex.num, Ex.metric, Ex.mats, Ex.span, Ex.names, Ex.kids]
theorem exTs_getD : ∀ (l : List Ex) (k : Nat) (h : k < l.length), (exTs l).getD k (0, []) = (strI l[k].kind l[k].op, exT l[k])
  | [], k, h => by simp at h
  | e :: r, 0, h => by simp [exTs]
  | e :: r, k + 1, h => by
    have := exTs_getD r k (by simpa using h)
    simp only [exTs, List.getD_cons_succ, List.getElem_cons_succ]; exact this
/-- A query's text. -/
def queryT (every : Int) (e : Ex) : List UInt8 := [101, 118, 101, 114, 121, 32] ++ Lib.itoa every ++ [58, 32] ++ exT e

/-! ### matchers, one after the other -/
theorem matsUp_step (l : List Mat) (k : Nat) (h : k < l.length) : matsUp (l.take (k + 1)) = matsUp (l.take k) ++ matL (decide (k = 0)) l[k] := by
  cases l with
  | nil => simp at h
  | cons m r =>
    cases k with
    | zero => simp [matsUp, matsTail]
    | succ k =>
      have hk : k < r.length := by simpa using h
      simp only [List.take_succ_cons, matsUp, List.getElem_cons_succ, matsTail]
      rw [List.take_succ_eq_append_getElem hk, List.flatMap_append]
      simp

/-! ### how long a text is -/
theorem signL_length (op : Int) : (signL op).length ≤ 2 := by unfold signL; (repeat' split) <;> simp
theorem wordL_length (k f : Int) : (wordL k f).length ≤ 8 := by unfold wordL; (repeat' split) <;> simp
theorem eqL_length (k : Int) : (eqL k).length ≤ 2 := by unfold eqL; (repeat' split) <;> simp
theorem join_length (sep : List UInt8) (b : Nat) : ∀ l : List (List UInt8), (∀ x ∈ l, x.length ≤ b) → (Lib.join l sep).length ≤ l.length * (b + sep.length)
  | [], _ => by simp [Lib.join_nil]
  | [x], h => by have := h x (by simp); rw [Lib.join_one]; simp; omega
  | x :: y :: r, h => by
    have ih := join_length sep b (y :: r) (fun z hz => h z (by simp [hz]))
    have h1 := h x (by simp)
    have e : (Lib.join (x :: y :: r) sep).length = x.length + sep.length + (Lib.join (y :: r) sep).length := by
      rw [Lib.join_cons, Lib.join_cons]; simp [Lib.joinTail]; omega
    rw [e, List.length_cons (a := x), Nat.succ_mul]; omega
theorem names_length {l : List ByteArray} (h : namesB l = true) : (namesL l).length ≤ 208 := by
  unfold namesB at h
  simp only [Bool.and_eq_true, decide_eq_true_eq] at h
  have h1 : ∀ x ∈ l.map (fun s : ByteArray => s.data.toList), x.length ≤ 24 := by
    intro x hx
    obtain ⟨s, hs, rfl⟩ := List.mem_map.1 hx
    obtain ⟨i, hi, rfl⟩ := List.getElem_of_mem hs
    have := upto_iff.1 h.1 i hi
    simp only [nameAt, Bool.and_eq_true] at this
    have h2 := this.1
    have e : l.getD i ByteArray.empty = l[i] := by simp [List.getD, hi]
    rw [e] at h2
    simp only [nameB, Bool.and_eq_true, decide_eq_true_eq] at h2
    have : l[i].data.toList.length = l[i].size := by simp
    omega
  have := join_length [44, 32] 24 _ h1
  unfold namesL
  simp only [List.length_map, List.length_cons, List.length_nil] at this
  have h3 : l.length * (24 + (0 + 1 + 1)) ≤ 8 * (24 + (0 + 1 + 1)) := Nat.mul_le_mul_right _ h.2
  omega
theorem name_length {s : ByteArray} (h : nameB s = true) : s.data.toList.length ≤ 24 := by
  simp only [nameB, Bool.and_eq_true, decide_eq_true_eq] at h
  have : s.data.toList.length = s.size := by simp
  omega
theorem matL_length (b : Bool) {m : Mat} (h : matB m = true) : (matL b m).length ≤ 300 := by
  simp only [matB, Bool.and_eq_true, decide_eq_true_eq] at h
  have h1 := name_length h.1.2
  have h2 := eqL_length m.kind
  have h3 := quoteL_length m.text.data.toList
  have h4 : m.text.data.toList.length = m.text.size := by simp
  unfold matL
  cases b <;> simp only [List.length_append, List.length_cons, List.length_nil, if_true, Bool.false_eq_true, if_false] <;> omega
theorem matsTail_length : ∀ l : List Mat, l.all matB = true → (matsTail l).length ≤ 300 * l.length
  | [], _ => by simp [matsTail]
  | m :: r, h => by
    simp only [List.all_cons, Bool.and_eq_true] at h
    have h1 := matL_length false h.1
    have h2 := matsTail_length r h.2
    simp only [matsTail, List.flatMap_cons, List.length_append, List.length_cons] at h2 ⊢
    omega
theorem matsUp_length (l : List Mat) (h : l.all matB = true) : (matsUp l).length ≤ 300 * l.length := by
  cases l with
  | nil => simp [matsUp]
  | cons m r =>
    simp only [List.all_cons, Bool.and_eq_true] at h
    have h1 := matL_length true h.1
    have h2 := matsTail_length r h.2
    simp only [matsUp, List.length_append, List.length_cons]; omega
theorem matsL_length {l : List Mat} (h : checkMats l = 0) : (matsL l).length ≤ 2401 := by
  have h8 : ¬ 8 < l.length := fun h' => by rw [checkMats_long h'] at h; cases h
  have ha : l.all matB = true := by
    cases e : l.all matB with
    | true => rfl
    | false => simp [checkMats, h8, e] at h
  have := matsUp_length l ha
  unfold matsL
  split
  · simp
  · simp; omega
theorem onL_length {l : List ByteArray} (h : namesB l = true) : (onL l).length ≤ 214 := by
  have := names_length h
  unfold onL; split <;> simp; omega
theorem itoa_len (n : Int) (h : -9223372036854775808 ≤ n ∧ n ≤ 9223372036854775807) : (Lib.itoa n).length ≤ 21 := Lib.itoa_length_le n h.1 h.2

end Go.Proofs.YtobelmipjanibaaDoor
