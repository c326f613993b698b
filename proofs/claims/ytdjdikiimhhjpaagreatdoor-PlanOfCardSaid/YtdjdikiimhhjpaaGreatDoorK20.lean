/- An expression's text, as plain functions on bytes. No program here. -/
import Derived.Test.YtdjdikiimhhjpaaGreatDoorK9
import Derived.Test.YtdjdikiimhhjpaaGreatDoorK0
import Derived.Lib.ItoaNum
import Derived.Lib.ItoaLen
import Derived.Lib.Join
import Derived.Test.YtdjdikiimhhjpaaGreatDoorK1
set_option maxRecDepth 100000
set_option maxHeartbeats 16000000
namespace Go.Proofs.YtdjdikiimhhjpaaGreatDoor
open Go.RowKit
set_option linter.unusedSimpArgs false
set_option linter.unusedVariables false
def signL (op : Int) : List UInt8 :=
  if op = 1 then [43] else if op = 2 then [45] else if op = 3 then [42] else if op = 4 then [60] else if op = 5 then [60, 61] else if op = 6 then [62] else if op = 7 then [62, 61] else if op = 8 then [61, 61] else if op = 9 then [33, 61] else []
def wordL (k f : Int) : List UInt8 :=
  if k = 1 then
    (if f = 1 then [115, 117, 109] else if f = 2 then [99, 111, 117, 110, 116] else if f = 3 then [109, 105, 110] else if f = 4 then [109, 97, 120] else if f = 5 then [108, 97, 115, 116] else if f = 6 then [105, 110, 99, 114, 101, 97, 115, 101] else [])
  else if k = 2 then
    (if f = 1 then [116, 111, 116, 97, 108] else if f = 2 then [109, 97, 110, 121] else if f = 3 then [108, 101, 97, 115, 116] else if f = 4 then [109, 111, 115, 116] else [])
  else []
def strI (k op : Int) : Int := if k = 3 ∨ k = 4 then (if op = 3 then 2 else 1) else if k = 5 then 0 else 3
def namesL (l : List ByteArray) : List UInt8 := Lib.join (l.map (·.data.toList)) [44, 32]
def eqL (k : Int) : List UInt8 := if k = 1 then [61] else if k = 2 then [33, 61] else []
def matL (first : Bool) (m : Mat) : List UInt8 := (if first then [123] else [44, 32]) ++ m.name.data.toList ++ eqL m.kind ++ quoteL m.text.data.toList
def matsTail (l : List Mat) : List UInt8 := l.flatMap (matL false)
def matsUp : List Mat → List UInt8
  | [] => []
  | m :: r => matL true m ++ matsTail r
def matsL (l : List Mat) : List UInt8 := if l = [] then [] else matsUp l ++ [125]
def windowL (k fn : Int) (metric : ByteArray) (mats : List Mat) (span : Int) : List UInt8 :=
  wordL k fn ++ [40] ++ metric.data.toList ++ matsL mats ++ ([91] ++ Lib.itoa span ++ [93, 41])
def kidT (least : Int) (x : Int × List UInt8) : List UInt8 := if least ≤ x.1 then x.2 else [40] ++ x.2 ++ [41]
def onL (names : List ByteArray) : List UInt8 := if names = [] then [] else [111, 110, 32, 40] ++ namesL names ++ [41, 32]
def nodeT (kind fn op num : Int) (metric : ByteArray) (mats : List Mat) (span : Int) (names : List ByteArray) (ks : List (Int × List UInt8)) : List UInt8 :=
  if kind = 1 then windowL kind fn metric mats span
  else if kind = 2 then wordL kind fn ++ [32, 98, 121, 32, 40] ++ namesL names ++ [41, 32, 40] ++ (ks.getD 0 (0, [])).2 ++ [41]
  else if kind = 3 then kidT (strI kind op) (ks.getD 0 (0, [])) ++ ([32] ++ signL op ++ [32]) ++ onL names ++ kidT (strI kind op + 1) (ks.getD 1 (0, []))
  else if kind = 4 then kidT (strI kind op) (ks.getD 0 (0, [])) ++ ([32] ++ signL op ++ [32] ++ Lib.itoa num)
  else if kind = 5 then kidT 1 (ks.getD 0 (0, [])) ++ ([32] ++ signL op ++ [32] ++ Lib.itoa num)
  else []
mutual
def exT : Ex → List UInt8
  | .mk kind fn op num metric mats span names kids => nodeT kind fn op num metric mats span names (exTs kids)
def exTs : List Ex → List (Int × List UInt8)
  | [] => []
  | e :: r => (strI e.kind e.op, exT e) :: exTs r
end
theorem exT_eq (e : Ex) : exT e = nodeT e.kind e.fn e.op e.num e.metric e.mats e.span e.names (exTs e.kids) := by cases e; simp [exT, Ex.kind, Ex.fn, Ex.op, Ex.num, Ex.metric, Ex.mats, Ex.span, Ex.names, Ex.kids]
theorem exTs_getD : ∀ (l : List Ex) (k : Nat) (h : k < l.length), (exTs l).getD k (0, []) = (strI l[k].kind l[k].op, exT l[k])
  | [], k, h => by simp at h
  | e :: r, 0, h => by simp [exTs]
  | e :: r, k + 1, h => by
    have := exTs_getD r k (by simpa using h); simp only [exTs, List.getD_cons_succ, List.getElem_cons_succ]; exact this
def queryT (every : Int) (e : Ex) : List UInt8 := [101, 118, 101, 114, 121, 32] ++ Lib.itoa every ++ [58, 32] ++ exT e
/-! ### matchers, one after the other -/
theorem matsUp_step (l : List Mat) (k : Nat) (h : k < l.length) : matsUp (l.take (k + 1)) = matsUp (l.take k) ++ matL (decide (k = 0)) l[k] := by
  cases l with
  | nil => simp at h
  | cons m r =>
    cases k with
    | zero => simp [matsUp, matsTail]
    | succ k =>
      have hk : k < r.length := by simpa using h
      simp only [List.take_succ_cons, matsUp, List.getElem_cons_succ, matsTail]; rw [List.take_succ_eq_append_getElem hk, List.flatMap_append]
      simp
/-! ### how long a text is -/
theorem signL_length (op : Int) : (signL op).length ≤ 2 := by unfold signL; (repeat' split) <;> simp
theorem wordL_length (k f : Int) : (wordL k f).length ≤ 8 := by unfold wordL; (repeat' split) <;> simp
theorem eqL_length (k : Int) : (eqL k).length ≤ 2 := by unfold eqL; (repeat' split) <;> simp
theorem join_length (sep : List UInt8) (b : Nat) : ∀ l : List (List UInt8), (∀ x ∈ l, x.length ≤ b) → (Lib.join l sep).length ≤ l.length * (b + sep.length)
  | [], _ => by simp [Lib.join_nil]
  | [x], h => by have := h x (by simp); rw [Lib.join_one]; simp; omega
  | x :: y :: r, h => by
    have ih := join_length sep b (y :: r) (fun z hz => h z (by simp [hz])); have h1 := h x (by simp); have e : (Lib.join (x :: y :: r) sep).length = x.length + sep.length + (Lib.join (y :: r) sep).length := by
      rw [Lib.join_cons, Lib.join_cons]; simp [Lib.joinTail]; omega
    rw [e, List.length_cons (a := x), Nat.succ_mul]; omega
theorem names_length {l : List ByteArray} (h : namesB l = true) : (namesL l).length ≤ 208 := by
  unfold namesB at h
  simp only [Bool.and_eq_true, decide_eq_true_eq] at h
  have h1 : ∀ x ∈ l.map (fun s : ByteArray => s.data.toList), x.length ≤ 24 := by
    intro x hx; obtain ⟨s, hs, rfl⟩ := List.mem_map.1 hx; obtain ⟨i, hi, rfl⟩ := List.getElem_of_mem hs; have := upto_iff.1 h.1 i hi; simp only [nameAt, Bool.and_eq_true] at this; have h2 := this.1; have e : l.getD i ByteArray.empty = l[i] := by simp [List.getD, hi]
    rw [e] at h2; simp only [nameB, Bool.and_eq_true, decide_eq_true_eq] at h2; have : l[i].data.toList.length = l[i].size := by simp
    omega
  have := join_length [44, 32] 24 _ h1
  unfold namesL
  simp only [List.length_map, List.length_cons, List.length_nil] at this
  have h3 : l.length * (24 + (0 + 1 + 1)) ≤ 8 * (24 + (0 + 1 + 1)) := Nat.mul_le_mul_right _ h.2
  omega
theorem name_length {s : ByteArray} (h : nameB s = true) : s.data.toList.length ≤ 24 := by
  simp only [nameB, Bool.and_eq_true, decide_eq_true_eq] at h
  have : s.data.toList.length = s.size := by simp
  omega
theorem matL_length (b : Bool) {m : Mat} (h : matB m = true) : (matL b m).length ≤ 300 := by
  simp only [matB, Bool.and_eq_true, decide_eq_true_eq] at h
  have h1 := name_length h.1.2
  have h2 := eqL_length m.kind
  have h3 := quoteL_length m.text.data.toList
  have h4 : m.text.data.toList.length = m.text.size := by simp
  unfold matL
  cases b <;> simp only [List.length_append, List.length_cons, List.length_nil, if_true, Bool.false_eq_true, if_false] <;> omega
theorem matsTail_length : ∀ l : List Mat, l.all matB = true → (matsTail l).length ≤ 300 * l.length
  | [], _ => by simp [matsTail]
  | m :: r, h => by
    simp only [List.all_cons, Bool.and_eq_true] at h; have h1 := matL_length false h.1; have h2 := matsTail_length r h.2; simp only [matsTail, List.flatMap_cons, List.length_append, List.length_cons] at h2 ⊢; omega
theorem matsUp_length (l : List Mat) (h : l.all matB = true) : (matsUp l).length ≤ 300 * l.length := by
  cases l with
  | nil => simp [matsUp]
  | cons m r =>
    simp only [List.all_cons, Bool.and_eq_true] at h; have h1 := matL_length true h.1; have h2 := matsTail_length r h.2; simp only [matsUp, List.length_append, List.length_cons]; omega
theorem matsL_length {l : List Mat} (h : checkMats l = 0) : (matsL l).length ≤ 2401 := by
  have h8 : ¬ 8 < l.length := fun h' => by rw [checkMats_long h'] at h; cases h
  have ha : l.all matB = true := by
    cases e : l.all matB with
    | true => rfl
    | false => simp [checkMats, h8, e] at h
  have := matsUp_length l ha
  unfold matsL
  split
  · simp
  · simp; omega
theorem kidT_length (a : Int) (x : Int × List UInt8) : (kidT a x).length ≤ x.2.length + 2 := by unfold kidT; split <;> simp <;> omega
theorem onL_length {l : List ByteArray} (h : namesB l = true) : (onL l).length ≤ 214 := by
  have := names_length h
  unfold onL; split <;> simp; omega
theorem itoa_len (n : Int) (h : -9223372036854775808 ≤ n ∧ n ≤ 9223372036854775807) : (Lib.itoa n).length ≤ 21 := Lib.itoa_length_le n h.1 h.2
end Go.Proofs.YtdjdikiimhhjpaaGreatDoor
namespace Go.Proofs.YtdjdikiimhhjpaaGreatDoor
open Go.RowKit
set_option linter.unusedSimpArgs false
set_option linter.unusedVariables false
structure PS where
  i : Nat
  err : Int
  at' : Int
  opn : Int
deriving DecidableEq
section
variable (L : List Tok)
def PS.tok (p : PS) : Tok := L.getD p.i ⟨5, [], 0, 0⟩
def PS.fail (p : PS) (e a : Int) : PS := if p.err = 0 then { p with err := e, at' := a } else p
def PS.isT (p : PS) (s : List UInt8) : Bool := p.err == 0 && ((p.tok L).kind == 4 || (p.tok L).kind == 1) && (p.tok L).text == s
def PS.take (p : PS) (s : List UInt8) : Bool × PS :=
  if p.isT L s then
    if s = [40] then (if p.opn = 64 then (false, p.fail 3 (p.tok L).pos) else (true, { p with i := p.i + 1, opn := p.opn + 1 }))
    else if s = [41] then (true, { p with i := p.i + 1, opn := p.opn - 1 })
    else (true, { p with i := p.i + 1 })
  else (false, p)
def PS.need (p : PS) (s : List UInt8) : PS := if (p.take L s).1 then (p.take L s).2 else (p.take L s).2.fail 14 ((p.take L s).2.tok L).pos
def PS.token (p : PS) (k : Int) : Tok × PS := if p.err = 0 ∧ (p.tok L).kind = k then (p.tok L, { p with i := p.i + 1 }) else (⟨0, [], 0, 0⟩, p.fail 14 (p.tok L).pos)
def putName : List (List UInt8) → List UInt8 → List (List UInt8)
  | [], w => [w]
  | x :: r, w => if Op.bytesLess x w then x :: putName r w else if x = w then x :: r else w :: x :: r
def namesF : Nat → PS → List (List UInt8) → Option (List (List UInt8) × PS)
  | 0, _, _ => none
  | f + 1, p, out =>
    if p.err = 0 then
      let t := p.token L 1
      let c := t.2.take L [44]
      if c.1 then namesF f c.2 (putName out t.1.text) else some (putName out t.1.text, c.2)
    else some (out, p)
def pNames (f : Nat) (p : PS) : Option (List (List UInt8) × PS) :=
  let q := p.need L [40]
  let c := q.take L [41]
  if c.1 then some ([], c.2) else (namesF L f c.2 []).map fun x => (x.1, x.2.need L [41])
def pOne (p : PS) : Mat × PS :=
  let n := p.token L 1
  let c := n.2.take L [33, 61]
  let q := if c.1 then c.2 else c.2.need L [61]
  let t := q.token L 3
  (⟨if c.1 then 2 else 1, ⟨n.1.text.toArray⟩, ⟨t.1.text.toArray⟩⟩, t.2)
def matsF : Nat → PS → List Mat → Option (List Mat × PS)
  | 0, _, _ => none
  | f + 1, p, out =>
    if p.err = 0 then
      let m := pOne L p
      let c := m.2.take L [44]
      if c.1 then matsF f c.2 (out ++ [m.1]) else some (out ++ [m.1], c.2)
    else some (out, p)
def pMatch (f : Nat) (p : PS) : Option (List Mat × PS) :=
  let a := p.take L [123]
  if a.1 then
    let b := a.2.take L [125]
    if b.1 then some ([], b.2) else (matsF L f b.2 []).map fun x => (x.1, x.2.need L [125])
  else some ([], a.2)
def funcOf (s : List UInt8) : Option (Int × Int) :=
  if s = wordL 1 1 then some (1, 1) else if s = wordL 1 2 then some (1, 2) else if s = wordL 1 3 then some (1, 3) else if s = wordL 1 4 then some (1, 4) else if s = wordL 1 5 then some (1, 5) else if s = wordL 1 6 then some (1, 6)
  else if s = wordL 2 1 then some (2, 1) else if s = wordL 2 2 then some (2, 2) else if s = wordL 2 3 then some (2, 3) else if s = wordL 2 4 then some (2, 4) else none
def noEx : Ex := .mk 0 0 0 0 ⟨#[]⟩ [] 0 [] []
def baOf (x : List UInt8) : ByteArray := ⟨x.toArray⟩
def cmpSigns : List (List UInt8) := [signL 4, signL 5, signL 6, signL 7, signL 8, signL 9]
def pCmp : List (List UInt8) → Int → PS → Option Int × PS
  | [], _, p => (none, p)
  | s :: r, k, p => if (p.take L s).1 then (some k, (p.take L s).2) else pCmp r (k + 1) (p.take L s).2
def pWindow (f : Nat) (fn : Int) (p : PS) : Option (Ex × PS) :=
  let a := p.need L [40]
  let m := a.token L 1
  (pMatch L f m.2).map fun x =>
    let b := x.2.need L [91]
    let s := b.token L 2
    (.mk 1 fn 0 0 ⟨m.1.text.toArray⟩ x.1 s.1.num [] [], (s.2.need L [93]).need L [41])
def atomRest (f : Nat) (p : PS) (ex : PS → Option (Ex × PS)) : Option (Ex × PS) :=
  match (if (p.tok L).kind = 1 then funcOf (p.tok L).text else none) with
  | none => some (noEx, p.fail 14 (p.tok L).pos)
  | some (k, fn) =>
    if k = 1 then pWindow L f fn { p with i := p.i + 1 }
    else
      match pNames L f (PS.need L { p with i := p.i + 1 } [98, 121]) with
      | none => none
      | some (ns, q) => (ex (q.need L [40])).map fun x => (.mk 2 fn 0 0 ⟨#[]⟩ [] 0 (ns.map baOf) [x.1], x.2.need L [41])
mutual
def pAtom : Nat → PS → Option (Ex × PS)
  | 0, _ => none
  | f + 1, p => if (p.take L [40]).1 then (pExpr f (p.take L [40]).2).map fun x => (x.1, x.2.need L [41]) else atomRest L f (p.take L [40]).2 (fun q => pExpr f q)
def pStep : Nat → Int → Ex → Bool → PS → Option (Ex × PS)
  | 0, _, _, _, _ => none
  | f + 1, op, x, deep, p =>
    if p.err = 0 ∧ (p.tok L).kind = 2 then some (.mk 4 0 op (p.tok L).num ⟨#[]⟩ [] 0 [] [x], { p with i := p.i + 1 })
    else
      let c := p.take L [111, 110]
      match (if c.1 then pNames L f c.2 else some ([], c.2)) with
      | none => none
      | some (ns, q) => (if deep then pTerm f q else pAtom f q).map fun y => (.mk 3 0 op 0 ⟨#[]⟩ [] 0 (ns.map baOf) [x, y.1], y.2)
def pTerm : Nat → PS → Option (Ex × PS)
  | 0, _ => none
  | f + 1, p =>
    match pAtom f p with
    | none => none
    | some (x, q) => pTerms f x q
def pTerms : Nat → Ex → PS → Option (Ex × PS)
  | 0, _, _ => none
  | f + 1, x, p =>
    let c := p.take L [42]
    if c.1 then
      match pStep f 3 x false c.2 with
      | none => none
      | some (y, q) => pTerms f y q
    else some (x, c.2)
def pSum : Nat → PS → Option (Ex × PS)
  | 0, _ => none
  | f + 1, p =>
    match pTerm f p with
    | none => none
    | some (x, q) => pSums f x q
def pSums : Nat → Ex → PS → Option (Ex × PS)
  | 0, _, _ => none
  | f + 1, x, p =>
    let c := p.take L [43]
    if c.1 then
      match pStep f 1 x true c.2 with
      | none => none
      | some (y, q) => pSums f y q
    else
      let d := c.2.take L [45]
      if d.1 then
        match pStep f 2 x true d.2 with
        | none => none
        | some (y, q) => pSums f y q
      else some (x, d.2)
def pExpr : Nat → PS → Option (Ex × PS)
  | 0, _ => none
  | f + 1, p =>
    match pSum f p with
    | none => none
    | some (x, q) =>
      match pCmp L cmpSigns 4 q with
      | (none, q) => some (x, q)
      | (some op, q) => let n := q.token L 2; some (.mk 5 0 op n.1.num ⟨#[]⟩ [] 0 [] [x], n.2)
end
end
/-! ### the tokens of a shown query (kinds and texts; places left out) -/
def wT (s : List UInt8) : Tok := ⟨1, s, 0, 0⟩
def sT (s : List UInt8) : Tok := ⟨4, s, 0, 0⟩
def nT (n : Int) : Tok := ⟨2, Lib.itoa n, n, 0⟩
def xT (s : List UInt8) : Tok := ⟨3, s, 0, 0⟩
def commas : List (List Tok) → List Tok
  | [] => []
  | [x] => x
  | x :: y :: r => x ++ [sT [44]] ++ commas (y :: r)
def namesT (l : List ByteArray) : List Tok := [sT [40]] ++ commas (l.map fun n => [wT n.data.toList]) ++ [sT [41]]
def matT (m : Mat) : List Tok := [wT m.name.data.toList, sT (eqL m.kind), xT m.text.data.toList]
def matsT (l : List Mat) : List Tok := if l = [] then [] else [sT [123]] ++ commas (l.map matT) ++ [sT [125]]
def kidTs (least : Int) (x : Int × List Tok) : List Tok := if least ≤ x.1 then x.2 else [sT [40]] ++ x.2 ++ [sT [41]]
def onTs (names : List ByteArray) : List Tok := if names = [] then [] else [wT [111, 110]] ++ namesT names
def nodeTs (kind fn op num : Int) (metric : ByteArray) (mats : List Mat) (span : Int) (names : List ByteArray) (ks : List (Int × List Tok)) : List Tok :=
  if kind = 1 then [wT (wordL 1 fn), sT [40], wT metric.data.toList] ++ matsT mats ++ [sT [91], nT span, sT [93], sT [41]]
  else if kind = 2 then [wT (wordL 2 fn), wT [98, 121]] ++ namesT names ++ [sT [40]] ++ (ks.getD 0 (0, [])).2 ++ [sT [41]]
  else if kind = 3 then kidTs (strI kind op) (ks.getD 0 (0, [])) ++ [sT (signL op)] ++ onTs names ++ kidTs (strI kind op + 1) (ks.getD 1 (0, []))
  else if kind = 4 then kidTs (strI kind op) (ks.getD 0 (0, [])) ++ [sT (signL op), nT num]
  else if kind = 5 then kidTs 1 (ks.getD 0 (0, [])) ++ [sT (signL op), nT num]
  else []
mutual
def exTT : Ex → List Tok
  | .mk kind fn op num metric mats span names kids => nodeTs kind fn op num metric mats span names (exTTs kids)
def exTTs : List Ex → List (Int × List Tok)
  | [] => []
  | e :: r => (strI e.kind e.op, exTT e) :: exTTs r
end
def queryTT (every : Int) (e : Ex) : List Tok := [wT [101, 118, 101, 114, 121], nT every, sT [58]] ++ exTT e
end Go.Proofs.YtdjdikiimhhjpaaGreatDoor
namespace Go.Proofs.YtdjdikiimhhjpaaGreatDoor
open Go.RowKit
set_option linter.unusedSimpArgs false
set_option linter.unusedVariables false
def Tok.z (t : Tok) : Tok := { t with pos := 0 }
def At (L : List Tok) (p : PS) (ts : List Tok) : Prop := p.err = 0 ∧ (L.drop p.i).map Tok.z = ts
theorem At.tok {L : List Tok} {p : PS} {t : Tok} {r : List Tok} (h : At L p (t :: r)) : (p.tok L).z = t ∧ (L.drop (p.i + 1)).map Tok.z = r := by
  obtain ⟨_, h⟩ := h
  cases hd : L.drop p.i with
  | nil => rw [hd] at h; cases h
  | cons x y =>
    rw [hd] at h; simp only [List.map_cons, List.cons.injEq] at h; have hi : p.i < L.length := by
      rcases Nat.lt_or_ge p.i L.length with h' | h'
      · exact h'
      · rw [List.drop_of_length_le h'] at hd; cases hd
    rw [List.drop_eq_getElem_cons hi] at hd; simp only [List.cons.injEq] at hd; refine ⟨?_, by rw [hd.2]; exact h.2⟩; unfold PS.tok; rw [List.getD_eq_getElem?_getD, List.getElem?_eq_getElem hi]
    show (L[p.i]).z = t
    rw [hd.1]; exact h.1
theorem At.kind {L : List Tok} {p : PS} {t : Tok} {r : List Tok} (h : At L p (t :: r)) : (p.tok L).kind = t.kind ∧ (p.tok L).text = t.text ∧ (p.tok L).num = t.num := by
  have h := h.tok.1
  subst h
  exact ⟨rfl, rfl, rfl⟩
theorem At.isT {L : List Tok} {p : PS} {t : Tok} {r : List Tok} (h : At L p (t :: r)) (s : List UInt8) : p.isT L s = ((t.kind == 4 || t.kind == 1) && t.text == s) := by
  obtain ⟨h1, h2, _⟩ := h.kind
  unfold PS.isT
  rw [h1, h2, h.1]
  simp
theorem At.take_no {L : List Tok} {p : PS} {t : Tok} {r : List Tok} (h : At L p (t :: r)) {s : List UInt8} (hs : ((t.kind == 4 || t.kind == 1) && t.text == s) = false) : p.take L s = (false, p) := by
  unfold PS.take
  rw [h.isT, hs]; rfl
theorem At.take_sign {L : List Tok} {p : PS} {t : Tok} {r : List Tok} (h : At L p (t :: r)) {s : List UInt8} (hs : ((t.kind == 4 || t.kind == 1) && t.text == s) = true) (h1 : s ≠ [40]) (h2 : s ≠ [41]) :
    p.take L s = (true, { p with i := p.i + 1 }) ∧ At L { p with i := p.i + 1 } r := by
  refine ⟨?_, h.1, h.tok.2⟩
  unfold PS.take
  rw [h.isT, hs]; simp [h1, h2]
theorem At.take_open {L : List Tok} {p : PS} {r : List Tok} (h : At L p (sT [40] :: r)) (ho : p.opn < 64) :
    p.take L [40] = (true, { p with i := p.i + 1, opn := p.opn + 1 }) ∧ At L { p with i := p.i + 1, opn := p.opn + 1 } r := by
  refine ⟨?_, h.1, h.tok.2⟩
  unfold PS.take
  rw [h.isT]
  simp [sT, show ¬ p.opn = 64 by omega]
theorem At.take_shut {L : List Tok} {p : PS} {r : List Tok} (h : At L p (sT [41] :: r)) :
    p.take L [41] = (true, { p with i := p.i + 1, opn := p.opn - 1 }) ∧ At L { p with i := p.i + 1, opn := p.opn - 1 } r := by
  refine ⟨?_, h.1, h.tok.2⟩
  unfold PS.take
  rw [h.isT]
  simp [sT]
theorem At.need_sign {L : List Tok} {p : PS} {t : Tok} {r : List Tok} (h : At L p (t :: r)) {s : List UInt8} (hs : ((t.kind == 4 || t.kind == 1) && t.text == s) = true) (h1 : s ≠ [40]) (h2 : s ≠ [41]) :
    p.need L s = { p with i := p.i + 1 } ∧ At L { p with i := p.i + 1 } r := by
  obtain ⟨e, h⟩ := h.take_sign hs h1 h2
  exact ⟨by unfold PS.need; rw [e]; rfl, h⟩
theorem At.need_open {L : List Tok} {p : PS} {r : List Tok} (h : At L p (sT [40] :: r)) (ho : p.opn < 64) :
    p.need L [40] = { p with i := p.i + 1, opn := p.opn + 1 } ∧ At L { p with i := p.i + 1, opn := p.opn + 1 } r := by
  obtain ⟨e, h⟩ := h.take_open ho
  exact ⟨by unfold PS.need; rw [e]; rfl, h⟩
theorem At.need_shut {L : List Tok} {p : PS} {r : List Tok} (h : At L p (sT [41] :: r)) :
    p.need L [41] = { p with i := p.i + 1, opn := p.opn - 1 } ∧ At L { p with i := p.i + 1, opn := p.opn - 1 } r := by
  obtain ⟨e, h⟩ := h.take_shut
  exact ⟨by unfold PS.need; rw [e]; rfl, h⟩
theorem At.token {L : List Tok} {p : PS} {t : Tok} {r : List Tok} (h : At L p (t :: r)) {k : Int} (hk : t.kind = k) :
    (p.token L k).1.z = t ∧ (p.token L k).2 = { p with i := p.i + 1 } ∧ At L { p with i := p.i + 1 } r := by
  unfold PS.token
  rw [if_pos ⟨h.1, h.kind.1.trans hk⟩]
  exact ⟨h.tok.1, rfl, h.1, h.tok.2⟩
end Go.Proofs.YtdjdikiimhhjpaaGreatDoor
namespace Go.Proofs.YtdjdikiimhhjpaaGreatDoor
open Go.RowKit
set_option linter.unusedSimpArgs false
set_option linter.unusedVariables false
/-! ### numerals -/
theorem decP_push (l : List UInt8) (c : UInt8) : decV (l ++ [c]) = decV l * 10 + (c.toNat - 48) := by simp [decV]
theorem decP_digit {k : Nat} (h : k < 10) : dgC (UInt8.ofNat (48 + k)) = true ∧ (UInt8.ofNat (48 + k)).toNat = 48 + k := by
  have e : (UInt8.ofNat (48 + k)).toNat = 48 + k := by rw [UInt8.toNat_ofNat']; omega
  refine ⟨?_, e⟩
  simp only [dgC, Bool.and_eq_true, decide_eq_true_eq, UInt8.le_iff_toNat_le, e]
  constructor
  · show 48 ≤ _; omega
  · show _ ≤ 57; omega
theorem decP_ne (n : Nat) : Lib.decDigits n ≠ [] := by
  rw [Lib.decDigits]; split <;> simp
theorem decP_all (n : Nat) : (Lib.decDigits n).all dgC = true := by
  induction n using Nat.strongRecOn with
  | ind n ih =>
    rw [Lib.decDigits]
    split
    · rename_i h; simp only [List.all_cons, List.all_nil, Bool.and_true, (decP_digit h).1]
    · rename_i h
      rw [List.all_append, ih (n / 10) (by omega)]; simp only [List.all_cons, List.all_nil, Bool.and_true, Bool.true_and, (decP_digit (Nat.mod_lt n (by omega : 10 > 0))).1]
theorem decP_val (n : Nat) : decV (Lib.decDigits n) = n := by
  induction n using Nat.strongRecOn with
  | ind n ih =>
    rw [Lib.decDigits]
    split
    · rename_i h
      rw [show [UInt8.ofNat (48 + n)] = [] ++ [UInt8.ofNat (48 + n)] from rfl, decP_push, (decP_digit h).2, show decV [] = 0 from rfl]; omega
    · rename_i h
      rw [decP_push, ih (n / 10) (by omega), (decP_digit (Nat.mod_lt n (by omega : 10 > 0))).2]; omega
theorem decP_head (n : Nat) (h0 : 0 < n) : headIs (· == 48) (Lib.decDigits n) = false := by
  induction n using Nat.strongRecOn with
  | ind n ih =>
    rw [Lib.decDigits]
    split
    · rename_i h
      simp only [headIs, beq_eq_false_iff_ne]; intro e; have := congrArg UInt8.toNat e; rw [(decP_digit h).2] at this; have e48 : (48 : UInt8).toNat = 48 := rfl; omega
    · rename_i h
      have := ih (n / 10) (by omega) (by omega)
      revert this
      cases hd : Lib.decDigits (n / 10) with
      | nil => exact absurd hd (decP_ne _)
      | cons a b => exact id
theorem decP_zero : Lib.decDigits 0 = [48] := by rw [Lib.decDigits]; rfl
/-! ### runs -/
theorem runN_stopP {p : UInt8 → Bool} : ∀ (l rest : List UInt8), l.all p = true → headIs p rest = false → runN p (l ++ rest) = l.length
  | [], [], _, _ => rfl
  | [], x :: t, _, h => by simp only [headIs] at h; simp [runN, h]
  | c :: r, rest, ha, h => by
    simp only [List.all_cons, Bool.and_eq_true] at ha; simp only [List.cons_append, runN, ha.1, if_true, List.length_cons]; rw [runN_stopP r rest ha.2 h]
theorem headIs_mono {p q : UInt8 → Bool} (h : ∀ c, p c = true → q c = true) {l : List UInt8} (hl : headIs q l = false) : headIs p l = false := by
  cases l with
  | nil => rfl
  | cons c r =>
    simp only [headIs] at hl ⊢; cases hp : p c with
    | false => rfl
    | true => rw [h c hp] at hl; cases hl
theorem dg_word {c : UInt8} (h : dgC c = true) : wordC c = true := by simp [wordC, h]
theorem let_word {c : UInt8} (h : letC c = true) : wordC c = true := by simp [wordC, h]
theorem let_facts {c : UInt8} (h : letC c = true) : blankC c = false ∧ c ≠ 35 := by
  simp only [letC, Bool.or_eq_true, Bool.and_eq_true, decide_eq_true_eq, beq_iff_eq, UInt8.le_iff_toNat_le] at h
  have e : (97 : UInt8).toNat = 97 := rfl
  have e2 : ((95 : UInt8)).toNat = 95 := rfl
  have hc : 90 < c.toNat := by
    rcases h with h | h
    · omega
    · rw [h]; omega
  constructor
  · simp only [blankC, Bool.or_eq_false_iff, beq_eq_false_iff_ne]
    refine ⟨⟨⟨?_, ?_⟩, ?_⟩, ?_⟩ <;> (rintro rfl; revert hc; decide)
  · rintro rfl; revert hc; decide
theorem dg_facts {c : UInt8} (h : dgC c = true) : blankC c = false ∧ c ≠ 35 ∧ letC c = false ∧ c ≠ 34 ∧ c ≠ 45 := by
  simp only [dgC, Bool.and_eq_true, decide_eq_true_eq, UInt8.le_iff_toNat_le] at h
  have e : (48 : UInt8).toNat = 48 := rfl
  have e2 : ((57 : UInt8)).toNat = 57 := rfl
  have h1 : 48 ≤ c.toNat := by omega
  have h2 : c.toNat ≤ 57 := by omega
  refine ⟨?_, ?_, ?_, ?_, ?_⟩
  · simp only [blankC, Bool.or_eq_false_iff, beq_eq_false_iff_ne]
    refine ⟨⟨⟨?_, ?_⟩, ?_⟩, ?_⟩ <;> (rintro rfl; revert h1; decide)
  · rintro rfl; revert h1; decide
  · rw [Bool.eq_false_iff]
    intro hl; simp only [letC, Bool.or_eq_true, Bool.and_eq_true, decide_eq_true_eq, beq_iff_eq, UInt8.le_iff_toNat_le] at hl; have e : (97 : UInt8).toNat = 97 := rfl; rcases hl with hl | hl
    · omega
    · subst hl; revert h2; decide
  · rintro rfl; revert h1; decide
  · rintro rfl; revert h1; decide
/-! ### tokens -/
def wordLike (l : List UInt8) : Bool := headIs letC l && l.all wordC && decide (l.length ≤ 24)
theorem tok_word (free : Bool) (l rest : List UInt8) (h : wordLike l = true) (hr : headIs wordC rest = false) : tokAt free (l ++ rest) = some (wT l, l.length) := by
  simp only [wordLike, Bool.and_eq_true, decide_eq_true_eq] at h
  obtain ⟨⟨h1, h2⟩, h3⟩ := h
  match l, h1, h2, h3 with
  | c :: d, h1, h2, h3 =>
    simp only [headIs] at h1; simp only [List.all_cons, Bool.and_eq_true] at h2; simp only [List.length_cons] at h3; simp only [List.cons_append, tokAt, h1, if_true, runN_stopP d rest h2.2 hr]; rw [if_pos h3]
    simp [wT]
theorem tok_num (free : Bool) (c : UInt8) (d rest : List UInt8) (n : Int) (h1 : letC c = false) (h2 : c ≠ 34) (h3 : dgC c = true ∨ (c = 45 ∧ free = true ∧ d ≠ [])) (hd : d.all dgC = true) (hw : wholeOk (c :: d) = true) (hv : wholeV (c :: d) = n) (hr : headIs wordC rest = false) :
    tokAt free (c :: d ++ rest) = some (⟨2, c :: d, n, 0⟩, (c :: d).length) := by
  have hb : (c == 34) = false := by simp [h2]
  have hc : (dgC c || (c == 45 && free && headIs dgC (d ++ rest))) = true := by
    rcases h3 with h3 | ⟨rfl, rfl, h3⟩
    · simp [h3]
    · match d, h3, hd with
      | x :: y, _, hd =>
        simp only [List.all_cons, Bool.and_eq_true] at hd
        simp [headIs, hd.1]
  have hrd : headIs dgC rest = false := headIs_mono (fun c h => dg_word h) hr
  have hrl : headIs letC rest = false := headIs_mono (fun c h => let_word h) hr
  have e1 : runN dgC (d ++ rest) = d.length := runN_stopP d rest hd hrd
  have e2 : (c :: (d ++ rest)).take (d.length + 1) = c :: d := by simp
  have e3 : (d ++ rest).drop d.length = rest := by simp
  simp only [List.cons_append, tokAt, h1, hb, hc, e1, e2, e3, hw, hrl, hv]
  simp
theorem tok_itoa (free : Bool) (n : Int) (rest : List UInt8) (hf : 0 ≤ n ∨ free = true) (hn : -9223372036854775808 ≤ n ∧ n ≤ 9223372036854775807) (hr : headIs wordC rest = false) :
    tokAt free (Lib.itoa n ++ rest) = some (nT n, (Lib.itoa n).length) := by
  unfold nT
  by_cases h0 : n < 0
  · have e : Lib.itoa n = 45 :: Lib.decDigits n.natAbs := by unfold Lib.itoa; rw [if_pos h0]
    rw [e]; refine tok_num free 45 _ rest n (by decide) (by decide) (.inr ⟨rfl, hf.resolve_left (by omega), decP_ne _⟩) (decP_all _) ?_ ?_ hr
    · unfold wholeOk
      simp only [beq_self_eq_true, if_true, decP_val, decP_head _ (show 0 < n.natAbs by omega)]
      simp [decP_ne]; omega
    · unfold wholeV
      simp only [beq_self_eq_true, if_true, decP_val]; omega
  · have e : Lib.itoa n = Lib.decDigits n.toNat := by unfold Lib.itoa; rw [if_neg h0]
    rw [e]; have ha := decP_all n.toNat; have hv := decP_val n.toNat; have hh := decP_head n.toNat; have hz : n.toNat = 0 → Lib.decDigits n.toNat = [48] := fun h => by rw [h]; exact decP_zero
    cases hd : Lib.decDigits n.toNat with
    | nil => exact absurd hd (decP_ne _)
    | cons c d =>
      rw [hd] at ha hv hh hz; simp only [List.all_cons, Bool.and_eq_true] at ha; obtain ⟨-, -, f3, f4, f5⟩ := dg_facts ha.1; have hb : (c == 45) = false := by simp [f5]
      refine tok_num free c d rest n f3 f4 (.inl ha.1) ha.2 ?_ ?_ hr
      · unfold wholeOk
        simp only [hb, Bool.false_eq_true, if_false, hv, Bool.and_eq_true, decide_eq_true_eq, Bool.or_eq_true, Bool.not_eq_true', beq_eq_false_iff_ne, beq_iff_eq]; refine ⟨?_, by omega⟩; rcases Nat.eq_zero_or_pos n.toNat with h | h
        · right; have := hz h; simp at this; exact this.2
        · left; have := hh h; simpa [headIs] using this
      · unfold wholeV
        simp only [hb, Bool.false_eq_true, if_false, hv]; omega
theorem hexP_fin : ∀ n : Fin 16, hexC (hexAt n.val) = true ∧ hexV (hexAt n.val) = n.val := by decide +kernel
theorem txt_qc (c : UInt8) (r : List UInt8) : textAt (qc c ++ r) = (textAt r).map fun x => (c :: x.1, x.2 + (qc c).length) := by
  by_cases h1 : c.toNat = 92 ∨ c.toNat = 34
  · rw [qc_two h1]
    show textAt (92 :: c :: r) = _
    rw [textAt_esc r (h1.imp (fun h => UInt8.toNat_inj.1 h) (fun h => UInt8.toNat_inj.1 h))]; rfl
  by_cases h2 : c.toNat < 32 ∨ 126 < c.toNat
  · rw [qc_four h1 h2]
    have hlt := c.toNat_lt; obtain ⟨a1, a2⟩ := hexP_fin ⟨c.toNat / 16, by omega⟩; obtain ⟨b1, b2⟩ := hexP_fin ⟨c.toNat % 16, by omega⟩; simp only at a1 a2 b1 b2
    show textAt (92 :: 120 :: hexAt (c.toNat / 16) :: hexAt (c.toNat % 16) :: r) = _
    rw [textAt_hex r a1 b1, a2, b2, show 16 * (c.toNat / 16) + c.toNat % 16 = c.toNat by omega, UInt8.ofNat_toNat]; rfl
  · rw [qc_one h1 h2]
    show textAt (c :: r) = _
    rw [textAt_plain r (fun e => h1 (.inr (by rw [e]; rfl))) (by rw [UInt8.le_iff_toNat_le]; show 32 ≤ _; omega) (by rw [UInt8.le_iff_toNat_le]; show _ ≤ 126; omega) (fun e => h1 (.inl (by rw [e]; rfl)))]; rfl
theorem txt_qs : ∀ (l r : List UInt8), textAt (qs l ++ 34 :: r) = some (l, (qs l).length + 1)
  | [], r => textAt_quote r
  | c :: l, r => by
    rw [show qs (c :: l) = qc c ++ qs l from rfl, List.append_assoc, txt_qc, txt_qs l r]
    simp; omega
theorem tok_text (free : Bool) (x rest : List UInt8) (hx : x.length ≤ 64) : tokAt free (quoteL x ++ rest) = some (xT x, (quoteL x).length) := by
  have e : quoteL x ++ rest = 34 :: (qs x ++ 34 :: rest) := by simp [quoteL]
  rw [e]
  simp only [tokAt, txt_qs]
  simp [letC, hx, quoteL, xT]
theorem tok_sign (free : Bool) (c : UInt8) (rest : List UInt8) (h : (!letC c && !(c == 34) && !dgC c && !(c == 45) && !pairC c && signC c) = true) : tokAt free (c :: rest) = some (sT [c], 1) := by
  simp only [Bool.and_eq_true, Bool.not_eq_true'] at h
  obtain ⟨⟨⟨⟨⟨h1, h2⟩, h3⟩, h4⟩, h5⟩, h6⟩ := h
  simp only [tokAt, h1, h2, h3, h4, signAt, h5, h6]
  simp [sT]
theorem tok_op (free : Bool) (op : Int) (rest : List UInt8) (h : 1 ≤ op ∧ op ≤ 9) : tokAt free (signL op ++ 32 :: rest) = some (sT (signL op), (signL op).length) ∧ (sT (signL op)).free = true ∧ ∃ c r, signL op = c :: r ∧ blankC c = false ∧ c ≠ 35 := by
  have : op = 1 ∨ op = 2 ∨ op = 3 ∨ op = 4 ∨ op = 5 ∨ op = 6 ∨ op = 7 ∨ op = 8 ∨ op = 9 := by omega
  rcases this with rfl | rfl | rfl | rfl | rfl | rfl | rfl | rfl | rfl <;> exact ⟨by simp [signL, tokAt, letC, dgC, signAt, pairC, signC, headIs, sT], by decide, _, _, rfl, by decide, by decide⟩
end Go.Proofs.YtdjdikiimhhjpaaGreatDoor
namespace Go.Proofs.YtdjdikiimhhjpaaGreatDoor
open Go.RowKit
set_option linter.unusedSimpArgs false
set_option linter.unusedVariables false
theorem putName_end : ∀ (out : List (List UInt8)) (w : List UInt8), (∀ x ∈ out, Op.bytesLess x w = true) → putName out w = out ++ [w]
  | [], w, _ => rfl
  | x :: r, w, h => by
    unfold putName; rw [if_pos (h x (by simp)), putName_end r w (fun y hy => h y (by simp [hy]))]; rfl
def Rise : List (List UInt8) → Prop
  | [] => True
  | x :: r => (∀ y ∈ r, Op.bytesLess x y = true) ∧ Rise r
theorem PS.same {p : PS} : ({ p with i := p.i } : PS) = p := rfl
theorem namesF_ok (L : List Tok) : ∀ (l : List (List UInt8)) (w : List UInt8) (p : PS) (out : List (List UInt8)) (r : List Tok),
    At L p (commas ((w :: l).map fun n => [wT n]) ++ sT [41] :: r) → (∀ x ∈ out, ∀ y ∈ w :: l, Op.bytesLess x y = true) → Rise (w :: l) →
    ∀ f, l.length + 1 ≤ f → ∃ i, namesF L f p out = some (out ++ w :: l, { p with i := i }) ∧ At L { p with i := i } (sT [41] :: r)
  | [], w, p, out, r, h, ho, _, f + 1, _ => by
    have h' : At L p (wT w :: sT [41] :: r) := h; obtain ⟨e1, e2, h2⟩ := h'.token (k := 1) rfl; have e3 := h2.take_no (s := [44]) (by simp [sT]); have e4 : (p.token L 1).1.text = w := congrArg Tok.text e1; refine ⟨p.i + 1, ?_, h2⟩; unfold namesF; rw [if_pos h.1]; simp only [e2, e3, e4]; rw [putName_end out w (fun x hx => ho x hx w (by simp))]
    rfl
  | v :: l, w, p, out, r, h, ho, hr, f + 1, hf => by
    have h' : At L p (wT w :: sT [44] :: (commas ((v :: l).map fun n => [wT n]) ++ sT [41] :: r)) := by
      simpa [commas] using h
    obtain ⟨e1, e2, h2⟩ := h'.token (k := 1) rfl; obtain ⟨e3, h3⟩ := h2.take_sign (s := [44]) (by simp [sT]) (by simp) (by simp); have e4 : (p.token L 1).1.text = w := congrArg Tok.text e1; have hp := putName_end out w (fun x hx => ho x hx w (by simp)); obtain ⟨i, e5, h5⟩ := namesF_ok L l v { p with i := p.i + 1 + 1 } (out ++ [w]) r h3 (fun x hx y hy => by
      rcases List.mem_append.1 hx with hx | hx
      · exact ho x hx y (by simp at hy ⊢; exact .inr hy)
      · obtain rfl : x = w := by simpa using hx
        exact hr.1 y hy) hr.2 f (by simpa using hf)
    refine ⟨i, ?_, h5⟩; unfold namesF; rw [if_pos h.1]; simp only [e2, e3, e4, hp]; rw [if_pos trivial]
    simpa using e5
theorem pNames_ok (L : List Tok) (l : List (List UInt8)) (w : List UInt8) (hw : w ≠ [41]) (hr : Rise (w :: l)) (p : PS) (r : List Tok) (h : At L p ([sT [40]] ++ commas ((w :: l).map fun n => [wT n]) ++ [sT [41]] ++ r)) (ho : p.opn < 64) (f : Nat) (hf : l.length + 1 ≤ f) :
    ∃ i, pNames L f p = some (w :: l, { p with i := i }) ∧ At L { p with i := i } r := by
  have h' : At L p (sT [40] :: (commas ((w :: l).map fun n => [wT n]) ++ sT [41] :: r)) := by simpa using h
  obtain ⟨e1, h1⟩ := h'.need_open ho
  have e2 : ∀ q : PS, At L q (commas ((w :: l).map fun n => [wT n]) ++ sT [41] :: r) → q.take L [41] = (false, q) := fun q hq => by
    have hq' : ∃ r', commas ((w :: l).map fun n => [wT n]) ++ sT [41] :: r = wT w :: r' := by
      cases l with
      | nil => exact ⟨_, rfl⟩
      | cons v l => exact ⟨_, rfl⟩
    obtain ⟨r', e⟩ := hq'; rw [e] at hq; exact hq.take_no (by simp [wT, hw])
  obtain ⟨i, e3, h3⟩ := namesF_ok L l w _ [] r h1 (by simp) hr f hf
  obtain ⟨e4, h4⟩ := h3.need_shut
  refine ⟨i + 1, ?_, ?_⟩
  · unfold pNames
    simp only [e1, e2 _ h1]; rw [if_neg (by simp), e3]; simp only [Option.map_some, e4]
    simp
  · simpa using h4
end Go.Proofs.YtdjdikiimhhjpaaGreatDoor
namespace Go.Proofs.YtdjdikiimhhjpaaGreatDoor
open Go.RowKit
set_option linter.unusedSimpArgs false
set_option linter.unusedVariables false
theorem ba_same (s : ByteArray) : (⟨s.data.toList.toArray⟩ : ByteArray) = s := by cases s; simp
theorem pOne_ok (L : List Tok) (m : Mat) (hk : m.kind = 1 ∨ m.kind = 2) (p : PS) (r : List Tok) (h : At L p (matT m ++ r)) : ∃ i, pOne L p = (m, { p with i := i }) ∧ At L { p with i := i } r := by
  have h' : At L p (wT m.name.data.toList :: sT (eqL m.kind) :: xT m.text.data.toList :: r) := h
  obtain ⟨e1, e2, h2⟩ := h'.token (k := 1) rfl
  have e3 : (p.token L 1).1.text = m.name.data.toList := congrArg Tok.text e1
  rcases hk with hk | hk
  · have h2' : At L { p with i := p.i + 1 } (sT [61] :: xT m.text.data.toList :: r) := by rw [hk] at h2; exact h2
    have e4 := h2'.take_no (s := [33, 61]) (by simp [sT]); obtain ⟨e5, h5⟩ := h2'.need_sign (s := [61]) (by simp [sT]) (by simp) (by simp); obtain ⟨e6, e7, h7⟩ := h5.token (k := 3) rfl; have e8 := congrArg Tok.text e6; refine ⟨p.i + 1 + 1 + 1, ?_, h7⟩; unfold pOne; simp only [e2, e3, e4]; rw [if_neg (by simp), e5, if_neg (by simp), e7]; have e9 : (PS.token L { p with i := p.i + 1 + 1 } 3).1.text = m.text.data.toList := e8; simp only [e9, ba_same]; cases m; simp only at hk; subst hk; rfl
  · have h2' : At L { p with i := p.i + 1 } (sT [33, 61] :: xT m.text.data.toList :: r) := by rw [hk] at h2; exact h2
    obtain ⟨e5, h5⟩ := h2'.take_sign (s := [33, 61]) (by simp [sT]) (by simp) (by simp); obtain ⟨e6, e7, h7⟩ := h5.token (k := 3) rfl; have e8 := congrArg Tok.text e6; refine ⟨p.i + 1 + 1 + 1, ?_, h7⟩; unfold pOne; simp only [e2, e3, e5]; rw [if_pos trivial, if_pos trivial, e7]; have e9 : (PS.token L { p with i := p.i + 1 + 1 } 3).1.text = m.text.data.toList := e8; simp only [e9, ba_same]; cases m; simp only at hk; subst hk; rfl
theorem matsF_ok (L : List Tok) : ∀ (l : List Mat) (m : Mat) (p : PS) (out : List Mat) (r : List Tok),
    At L p (commas ((m :: l).map matT) ++ sT [125] :: r) → (∀ x ∈ m :: l, x.kind = 1 ∨ x.kind = 2) →
    ∀ f, l.length + 1 ≤ f → ∃ i, matsF L f p out = some (out ++ m :: l, { p with i := i }) ∧ At L { p with i := i } (sT [125] :: r)
  | [], m, p, out, r, h, hk, f + 1, _ => by
    obtain ⟨i, e1, h1⟩ := pOne_ok L m (hk m (by simp)) p (sT [125] :: r) h; have e3 := h1.take_no (s := [44]) (by simp [sT]); refine ⟨i, ?_, h1⟩; unfold matsF; rw [if_pos h.1]; simp only [e1, e3]
    rfl
  | n :: l, m, p, out, r, h, hk, f + 1, hf => by
    have h' : At L p (matT m ++ sT [44] :: (commas ((n :: l).map matT) ++ sT [125] :: r)) := by
      simpa [commas] using h
    obtain ⟨i, e1, h1⟩ := pOne_ok L m (hk m (by simp)) p _ h'; obtain ⟨e3, h3⟩ := h1.take_sign (s := [44]) (by simp [sT]) (by simp) (by simp); obtain ⟨j, e5, h5⟩ := matsF_ok L l n { p with i := i + 1 } (out ++ [m]) r h3 (fun x hx => hk x (by simp at hx ⊢; exact .inr hx)) f (by simpa using hf); refine ⟨j, ?_, h5⟩; unfold matsF; rw [if_pos h.1]; simp only [e1, e3]; rw [if_pos trivial]
    simpa using e5
theorem pMatch_ok (L : List Tok) (l : List Mat) (hk : ∀ x ∈ l, (x.kind = 1 ∨ x.kind = 2) ∧ x.name.data.toList ≠ [125]) (p : PS) (t : Tok) (r : List Tok) (ht : ((t.kind == 4 || t.kind == 1) && t.text == [123]) = false) (h : At L p (matsT l ++ t :: r)) (f : Nat) (hf : l.length ≤ f) :
    ∃ i, pMatch L f p = some (l, { p with i := i }) ∧ At L { p with i := i } (t :: r) := by
  cases l with
  | nil =>
    have h' : At L p (t :: r) := h; have e := h'.take_no ht; refine ⟨p.i, ?_, h'⟩; unfold pMatch; simp only [e]
    rfl
  | cons m l =>
    have h' : At L p (sT [123] :: (commas ((m :: l).map matT) ++ sT [125] :: t :: r)) := by simpa [matsT] using h
    obtain ⟨e1, h1⟩ := h'.take_sign (s := [123]) (by simp [sT]) (by simp) (by simp); have e2 : ∀ q : PS, At L q (commas ((m :: l).map matT) ++ sT [125] :: t :: r) → q.take L [125] = (false, q) := fun q hq => by
      have hq' : ∃ r', commas ((m :: l).map matT) ++ sT [125] :: t :: r = wT m.name.data.toList :: r' := by
        cases l with
        | nil => exact ⟨_, rfl⟩
        | cons v l => exact ⟨_, rfl⟩
      obtain ⟨r', e⟩ := hq'; rw [e] at hq; exact hq.take_no (by simp [wT, (hk m (by simp)).2])
    obtain ⟨i, e3, h3⟩ := matsF_ok L l m _ [] _ h1 (fun x hx => (hk x hx).1) f hf; obtain ⟨e4, h4⟩ := h3.need_sign (s := [125]) (by simp [sT]) (by simp) (by simp); refine ⟨i + 1, ?_, h4⟩; unfold pMatch; simp only [e1, e2 _ h1]; rw [if_pos trivial, if_neg (by simp), e3]; simp only [Option.map_some, e4]
    simp
end Go.Proofs.YtdjdikiimhhjpaaGreatDoor
namespace Go.Proofs.YtdjdikiimhhjpaaGreatDoor
open Go.RowKit
set_option linter.unusedSimpArgs false
set_option linter.unusedVariables false
theorem pWindow_ok (L : List Tok) (fn : Int) (metric : ByteArray) (l : List Mat) (span : Int) (hk : ∀ x ∈ l, (x.kind = 1 ∨ x.kind = 2) ∧ x.name.data.toList ≠ [125]) (p : PS) (r : List Tok) (ho : p.opn < 64)
    (h : At L p ([sT [40], wT metric.data.toList] ++ matsT l ++ [sT [91], nT span, sT [93], sT [41]] ++ r)) (f : Nat) (hf : l.length ≤ f) :
    ∃ i, pWindow L f fn p = some (.mk 1 fn 0 0 metric l span [] [], { p with i := i }) ∧ At L { p with i := i } r := by
  have h' : At L p (sT [40] :: wT metric.data.toList :: (matsT l ++ sT [91] :: nT span :: sT [93] :: sT [41] :: r)) := by simpa using h
  obtain ⟨e1, h1⟩ := h'.need_open ho
  obtain ⟨e2, e3, h3⟩ := h1.token (k := 1) rfl
  have e2' := congrArg Tok.text e2
  obtain ⟨i, e4, h4⟩ := pMatch_ok L l hk _ (sT [91]) _ (by simp [sT]) h3 f hf
  obtain ⟨e5, h5⟩ := h4.need_sign (s := [91]) (by simp [sT]) (by simp) (by simp)
  obtain ⟨e6, e7, h7⟩ := h5.token (k := 2) rfl
  have e6' := congrArg Tok.num e6
  obtain ⟨e8, h8⟩ := h7.need_sign (s := [93]) (by simp [sT]) (by simp) (by simp)
  obtain ⟨e9, h9⟩ := h8.need_shut
  refine ⟨i + 1 + 1 + 1 + 1, ?_, by simpa using h9⟩
  have e2'' : (PS.token L (p.need L [40]) 1).1.text = metric.data.toList := by rw [e1]; exact e2'
  unfold pWindow
  simp only [e2'']
  simp only [e1, e3, e4, Option.map_some, e5, e7, e8, e9, ba_same]
  have e10 : (PS.token L { p with i := i + 1, opn := p.opn + 1 } 2).1.num = span := e6'
  simp [e10]
theorem funcOf_win {k : Int} (h : 1 ≤ k ∧ k ≤ 6) : funcOf (wordL 1 k) = some (1, k) := by
  have : k = 1 ∨ k = 2 ∨ k = 3 ∨ k = 4 ∨ k = 5 ∨ k = 6 := by omega
  rcases this with rfl | rfl | rfl | rfl | rfl | rfl <;> decide
theorem funcOf_grp {k : Int} (h : 1 ≤ k ∧ k ≤ 4) : funcOf (wordL 2 k) = some (2, k) := by
  have : k = 1 ∨ k = 2 ∨ k = 3 ∨ k = 4 := by omega
  rcases this with rfl | rfl | rfl | rfl <;> decide
theorem pCmp_ok (L : List Tok) {op : Int} (ho : 4 ≤ op ∧ op ≤ 9) (p : PS) (r : List Tok) (h : At L p (sT (signL op) :: r)) : pCmp L cmpSigns 4 p = (some op, { p with i := p.i + 1 }) ∧ At L { p with i := p.i + 1 } r := by
  have key : ∀ s : List UInt8, s ≠ signL op → p.take L s = (false, p) := fun s hs => h.take_no (by simp [sT, Ne.symm hs])
  obtain ⟨e, h1⟩ := h.take_sign (s := signL op) (by simp [sT]) (by unfold signL; (repeat' split) <;> simp) (by unfold signL; (repeat' split) <;> simp)
  refine ⟨?_, h1⟩
  have : op = 4 ∨ op = 5 ∨ op = 6 ∨ op = 7 ∨ op = 8 ∨ op = 9 := by omega
  rcases this with rfl | rfl | rfl | rfl | rfl | rfl
  · unfold cmpSigns pCmp; simp [e]
  · unfold cmpSigns; simp only [pCmp, e, key (signL 4) (by decide)]; simp
  · unfold cmpSigns; simp only [pCmp, e, key (signL 4) (by decide), key (signL 5) (by decide)]; simp
  · unfold cmpSigns; simp only [pCmp, e, key (signL 4) (by decide), key (signL 5) (by decide), key (signL 6) (by decide)]; simp
  · unfold cmpSigns; simp only [pCmp, e, key (signL 4) (by decide), key (signL 5) (by decide), key (signL 6) (by decide), key (signL 7) (by decide)]; simp
  · unfold cmpSigns; simp only [pCmp, e, key (signL 4) (by decide), key (signL 5) (by decide), key (signL 6) (by decide), key (signL 7) (by decide), key (signL 8) (by decide)]; simp
theorem pCmp_no (L : List Tok) (p : PS) (t : Tok) (r : List Tok) (h : At L p (t :: r)) (hs : ∀ s ∈ cmpSigns, ((t.kind == 4 || t.kind == 1) && t.text == s) = false) : pCmp L cmpSigns 4 p = (none, p) := by
  have key : ∀ s ∈ cmpSigns, p.take L s = (false, p) := fun s hm => h.take_no (hs s hm)
  generalize cmpSigns = l at key
  have : ∀ (l : List (List UInt8)) (k : Int), (∀ s ∈ l, p.take L s = (false, p)) → pCmp L l k p = (none, p) := by
    intro l
    induction l with
    | nil => intro k _; rfl
    | cons s r ih => intro k hk; simp only [pCmp, hk s (by simp)]; rw [if_neg (by simp)]; exact ih (k + 1) (fun x hx => hk x (by simp [hx]))
  exact this l 4 key
end Go.Proofs.YtdjdikiimhhjpaaGreatDoor
namespace Go.Proofs.YtdjdikiimhhjpaaGreatDoor
open Go.RowKit
set_option linter.unusedSimpArgs false
set_option linter.unusedVariables false
theorem pNames_nil (L : List Tok) (p : PS) (r : List Tok) (h : At L p (namesT [] ++ r)) (ho : p.opn < 64) (f : Nat) : ∃ i, pNames L f p = some ([], { p with i := i }) ∧ At L { p with i := i } r := by
  have h' : At L p (sT [40] :: sT [41] :: r) := h
  obtain ⟨e1, h1⟩ := h'.need_open ho
  obtain ⟨e2, h2⟩ := h1.take_shut
  refine ⟨p.i + 1 + 1, ?_, by simpa using h2⟩
  unfold pNames
  simp only [e1, e2]
  simp
def NamesOk (l : List ByteArray) : Prop := Rise (l.map fun n => n.data.toList) ∧ ∀ x ∈ l, x.data.toList ≠ [41]
theorem pNames_all (L : List Tok) (l : List ByteArray) (hl : NamesOk l) (p : PS) (r : List Tok) (h : At L p (namesT l ++ r)) (ho : p.opn < 64) (f : Nat) (hf : l.length ≤ f) :
    ∃ i, pNames L f p = some (l.map fun n => n.data.toList, { p with i := i }) ∧ At L { p with i := i } r := by
  cases l with
  | nil => exact pNames_nil L p r h ho f
  | cons w l =>
    have hr : Rise (w.data.toList :: l.map fun n : ByteArray => n.data.toList) := hl.1; refine pNames_ok L (l.map fun n : ByteArray => n.data.toList) w.data.toList (hl.2 w (by simp)) hr p r ?_ ho f (by simpa using hf); have e : (w :: l).map (fun n : ByteArray => [wT n.data.toList]) = (w.data.toList :: l.map fun n : ByteArray => n.data.toList).map fun n => [wT n] := by simp
    unfold namesT at h; rw [e] at h; exact h
inductive Good : Nat → Ex → Prop
  | win (n : Nat) (fn span : Int) (metric : ByteArray) (mats : List Mat) : 1 ≤ fn ∧ fn ≤ 6 → nameB metric = true → checkMats mats = 0 → 1 ≤ span ∧ span ≤ 1073741824 → Good n (.mk 1 fn 0 0 metric mats span [] [])
  | grp (n : Nat) (fn : Int) (names : List ByteArray) (a : Ex) : 1 ≤ fn ∧ fn ≤ 4 → namesB names = true → Good n a → Good (n + 1) (.mk 2 fn 0 0 ⟨#[]⟩ [] 0 names [a])
  | join (n : Nat) (op : Int) (names : List ByteArray) (a b : Ex) : 1 ≤ op ∧ op ≤ 3 → namesB names = true → Good n a → Good n b → Good (n + 1) (.mk 3 0 op 0 ⟨#[]⟩ [] 0 names [a, b])
  | scale (n : Nat) (op num : Int) (a : Ex) : 1 ≤ op ∧ op ≤ 3 → -9223372036854775808 ≤ num ∧ num ≤ 9223372036854775807 → Good n a → Good (n + 1) (.mk 4 0 op num ⟨#[]⟩ [] 0 [] [a])
  | filt (n : Nat) (op num : Int) (a : Ex) : 4 ≤ op ∧ op ≤ 9 → -9223372036854775808 ≤ num ∧ num ≤ 9223372036854775807 → Good n a → Good (n + 1) (.mk 5 0 op num ⟨#[]⟩ [] 0 [] [a])
theorem Good.mono : ∀ {n : Nat} {e : Ex}, Good n e → ∀ {m : Nat}, n ≤ m → Good m e := by
  intro n e h
  induction h with
  | win n fn span metric mats h1 h2 h3 h4 => intro m _; exact .win m fn span metric mats h1 h2 h3 h4
  | grp n fn names a h1 h2 _ ih => intro m hm; obtain ⟨k, rfl⟩ : ∃ k, m = k + 1 := ⟨m - 1, by omega⟩; exact .grp k fn names a h1 h2 (ih (by omega))
  | join n op names a b h1 h2 _ _ ih ih' => intro m hm; obtain ⟨k, rfl⟩ : ∃ k, m = k + 1 := ⟨m - 1, by omega⟩; exact .join k op names a b h1 h2 (ih (by omega)) (ih' (by omega))
  | scale n op num a h1 h2 _ ih => intro m hm; obtain ⟨k, rfl⟩ : ∃ k, m = k + 1 := ⟨m - 1, by omega⟩; exact .scale k op num a h1 h2 (ih (by omega))
  | filt n op num a h1 h2 _ ih => intro m hm; obtain ⟨k, rfl⟩ : ∃ k, m = k + 1 := ⟨m - 1, by omega⟩; exact .filt k op num a h1 h2 (ih (by omega))
theorem name_ne {s : ByteArray} (h : nameB s = true) {c : UInt8} (hc : okC c = false) : s.data.toList ≠ [c] := by
  intro e
  simp only [nameB, Bool.and_eq_true] at h
  have := h.2
  rw [e] at this
  simp [hc] at this
theorem mats_all {l : List Mat} (h : checkMats l = 0) : l.all matB = true ∧ l.length ≤ 8 := by
  have h8 : ¬ 8 < l.length := fun h' => by rw [checkMats_long h'] at h; cases h
  refine ⟨?_, by omega⟩
  cases e : l.all matB with
  | true => rfl
  | false => simp [checkMats, h8, e] at h
theorem mats_ok {l : List Mat} (h : checkMats l = 0) : ∀ x ∈ l, (x.kind = 1 ∨ x.kind = 2) ∧ x.name.data.toList ≠ [125] := by
  intro x hx
  have := List.all_eq_true.1 (mats_all h).1 x hx
  simp only [matB, Bool.and_eq_true, Bool.or_eq_true, beq_iff_eq] at this
  exact ⟨this.1.1, name_ne this.1.2 (by decide)⟩
theorem names_each {l : List ByteArray} (h : namesB l = true) : (∀ x ∈ l, nameB x = true) ∧ ∀ i (hi : i + 1 < l.length), sless (l[i]'(by omega)) l[i + 1] = true := by
  unfold namesB at h
  simp only [Bool.and_eq_true, decide_eq_true_eq] at h
  have h1 := upto_iff.1 h.1
  constructor
  · intro x hx
    obtain ⟨i, hi, rfl⟩ := List.getElem_of_mem hx; have := h1 i hi; rw [nameAt_eq hi, Bool.and_eq_true] at this; exact this.1
  · intro i hi
    have := h1 (i + 1) hi; rw [nameAt_eq hi, Bool.and_eq_true, lastOf_succ (by omega)] at this; exact this.2
theorem rise_of : ∀ l : List ByteArray, (∀ i (hi : i + 1 < l.length), sless (l[i]'(by omega)) l[i + 1] = true) → Rise (l.map fun n => n.data.toList)
  | [], _ => trivial
  | x :: r, h => by
    have ih := rise_of r (fun i hi => h (i + 1) (by simpa using hi)); refine ⟨?_, ih⟩; cases r with
    | nil => simp
    | cons y r =>
      have h0 : sless x y = true := h 0 (by simp); have h0' : Op.bytesLess x.data.toList y.data.toList = true := by
        unfold sless at h0; rwa [ByteArray.toList_eq, ByteArray.toList_eq] at h0
      intro z hz; simp only [List.map_cons, List.mem_cons] at hz; rcases hz with rfl | hz
      · exact h0'
      · exact bl_trans _ _ _ h0' (ih.1 z hz)
theorem names_ok {l : List ByteArray} (h : namesB l = true) : NamesOk l :=
  ⟨rise_of l (names_each h).2, fun x hx => name_ne ((names_each h).1 x hx) (by decide)⟩
theorem empty_of {s : ByteArray} (h : s.toList.isEmpty = true) : s = ⟨#[]⟩ := (empty_iff s).1 h
theorem good_of : ∀ e : Ex, e.flat.all rightB = true → e.num64 → Good e.deep e := by
  refine Ex.ind fun e ih => ?_
  intro hr h64
  have hself : rightB e = true := List.all_eq_true.1 hr e (by rw [Ex.flat_eq]; simp)
  have hkid : ∀ k ∈ e.kids, Good (deeps e.kids) k := by
    intro k hk; refine (ih k hk ?_ (h64.kid hk)).mono ?_
    · rw [List.all_eq_true]; intro x hx
      exact List.all_eq_true.1 hr x (by rw [Ex.flat_eq]; exact List.mem_cons_of_mem _ (flats_iff.2 ⟨k, hk, hx⟩))
    · have : ∀ l : List Ex, k ∈ l → k.deep ≤ deeps l := by
        intro l
        induction l with
        | nil => intro h; cases h
        | cons x l ih => intro h; simp only [deeps]; rcases List.mem_cons.1 h with rfl | h
                         · omega
                         · have := ih h; omega
      exact this _ hk
  have hnum := h64.self
  rw [Ex.deep_eq]
  unfold rightB at hself
  rw [Bool.and_eq_true] at hself
  obtain ⟨hk, hh⟩ := hself
  obtain ⟨kind, fn, op, num, metric, mats, span, names, kids⟩ := e
  simp only [Ex.kind, Ex.fn, Ex.op, Ex.num, Ex.metric, Ex.mats, Ex.span, Ex.names, Ex.kids] at *
  simp only [kindOk, decide_eq_true_eq] at hk
  have : kind = 1 ∨ kind = 2 ∨ kind = 3 ∨ kind = 4 ∨ kind = 5 := by omega
  rcases this with rfl | rfl | rfl | rfl | rfl
  · rw [rightH_1] at hh
    obtain ⟨h1, h2, rfl, rfl, h5, ⟨h6, h7⟩, h8⟩ := hh; obtain rfl := List.eq_nil_of_length_eq_zero h1; obtain rfl := List.eq_nil_of_length_eq_zero h5; exact .win _ fn span metric mats h2 h6 h7 h8
  · rw [rightH_2] at hh
    obtain ⟨h1, h2, rfl, rfl, h5, ⟨h6, h7⟩, rfl⟩ := hh; obtain ⟨a, rfl⟩ := List.length_eq_one_iff.1 h1; obtain rfl := List.eq_nil_of_length_eq_zero h7; obtain rfl := empty_of h6; exact .grp _ fn names a h2 h5 (hkid a (by simp))
  · rw [rightH_3] at hh
    obtain ⟨h1, rfl, h2, rfl, h5, ⟨h6, h7⟩, rfl⟩ := hh; obtain ⟨a, b, rfl⟩ : ∃ a b, kids = [a, b] := by
      match kids, h1 with
      | [a, b], _ => exact ⟨a, b, rfl⟩
    obtain rfl := List.eq_nil_of_length_eq_zero h7; obtain rfl := empty_of h6; exact .join _ op names a b h2 h5 (hkid a (by simp)) (hkid b (by simp))
  · rw [rightH_4] at hh
    obtain ⟨h1, rfl, h2, h5, ⟨h6, h7⟩, rfl⟩ := hh; obtain ⟨a, rfl⟩ := List.length_eq_one_iff.1 h1; obtain rfl := List.eq_nil_of_length_eq_zero h7; obtain rfl := List.eq_nil_of_length_eq_zero h5; obtain rfl := empty_of h6; exact .scale _ op num a h2 hnum (hkid a (by simp))
  · rw [rightH_5] at hh
    obtain ⟨h1, rfl, h2, h5, ⟨h6, h7⟩, rfl⟩ := hh; obtain ⟨a, rfl⟩ := List.length_eq_one_iff.1 h1; obtain rfl := List.eq_nil_of_length_eq_zero h7; obtain rfl := List.eq_nil_of_length_eq_zero h5; obtain rfl := empty_of h6; exact .filt _ op num a h2 hnum (hkid a (by simp))
theorem pStep_num (L : List Tok) (f : Nat) (op : Int) (x : Ex) (deep : Bool) (n : Int) (p : PS) (r : List Tok) (h : At L p (nT n :: r)) :
    pStep L (f + 1) op x deep p = some (.mk 4 0 op n ⟨#[]⟩ [] 0 [] [x], { p with i := p.i + 1 }) ∧ At L { p with i := p.i + 1 } r := by
  refine ⟨?_, h.1, h.tok.2⟩
  unfold pStep
  rw [if_pos ⟨h.1, h.kind.1⟩, h.kind.2.2]; rfl
theorem baOf_same (l : List ByteArray) : (l.map fun n => n.data.toList).map baOf = l := by
  rw [List.map_map]
  conv => rhs; rw [← List.map_id l]
  exact List.map_congr_left fun x _ => ba_same x
end Go.Proofs.YtdjdikiimhhjpaaGreatDoor
namespace Go.Proofs.YtdjdikiimhhjpaaGreatDoor
open Go.RowKit
set_option linter.unusedSimpArgs false
set_option linter.unusedVariables false
theorem step_tok {free : Bool} {at' : Nat} {w rest : List UInt8} {t : Tok} {c : UInt8} {r : List UInt8} (hw : w = c :: r) (hb : blankC c = false) (h35 : c ≠ 35) (h : tokAt free (w ++ rest) = some (t, w.length)) :
    lexL free at' (w ++ rest) = (lexL t.free (at' + w.length) rest).map ({ t with pos := at' } :: ·) := by
  subst hw
  have := lexL_tok at' hb h35 h
  simpa using this
def LxG (pre : Bool → Prop) (b : Bool) (txt : List UInt8) (toks : List Tok) (post : Bool → Prop) : Prop := ∀ (free : Bool) (at' : Nat) (rest : List UInt8), pre free → (b = true → headIs wordC rest = false) →
  ∃ (l : List Tok) (free' : Bool), post free' ∧ l.map Tok.z = toks ∧ lexL free at' (txt ++ rest) = (lexL free' (at' + txt.length) rest).map (l ++ ·)
def anyF (_ : Bool) : Prop := True
def freeF (f : Bool) : Prop := f = true
theorem LxG.any {pre post : Bool → Prop} {b : Bool} {txt : List UInt8} {toks : List Tok} (h : LxG pre b txt toks post) : LxG pre b txt toks anyF := fun free at' rest hp hs => by
  obtain ⟨l, f, _, h1, h2⟩ := h free at' rest hp hs
  exact ⟨l, f, trivial, h1, h2⟩
theorem LxG.weak {pre post : Bool → Prop} {b : Bool} {txt : List UInt8} {toks : List Tok} (h : LxG pre b txt toks post) : LxG pre true txt toks post := fun free at' rest hp hs => h free at' rest hp (fun _ => hs rfl)
theorem LxG.app {p q r q' : Bool → Prop} {b1 b2 : Bool} {a c : List UInt8} {ta tc : List Tok} (h1 : LxG p b1 a ta q) (h2 : LxG q' b2 c tc r) (hq : ∀ f, q f → q' f) (hc : b1 = false ∨ ∃ x c', c = x :: c' ∧ wordC x = false) : LxG p b2 (a ++ c) (ta ++ tc) r := fun free at' rest hp hs => by
  obtain ⟨l1, f1, g1, m1, e1⟩ := h1 free at' (c ++ rest) hp (fun hb => by
    rcases hc with hc | ⟨x, c', rfl, hx⟩
    · rw [hc] at hb; cases hb
    · simpa [headIs] using hx)
  obtain ⟨l2, f2, g2, m2, e2⟩ := h2 f1 (at' + a.length) rest (hq _ g1) hs
  refine ⟨l1 ++ l2, f2, g2, by simp [m1, m2], ?_⟩
  rw [List.append_assoc, e1, e2, List.length_append, Nat.add_assoc]
  cases lexL f2 (at' + (a.length + c.length)) rest with
  | ok x => simp [Except.map]
  | error x => simp [Except.map]
theorem LxG.and {p r : Bool → Prop} {b1 b2 : Bool} {a c : List UInt8} {ta tc : List Tok} (h1 : LxG p b1 a ta anyF) (h2 : LxG anyF b2 c tc r) (hc : b1 = false ∨ ∃ x c', c = x :: c' ∧ wordC x = false) : LxG p b2 (a ++ c) (ta ++ tc) r := h1.app h2 (fun _ h => h) hc
theorem LxG.nil (p : Bool → Prop) : LxG p false [] [] p := fun free at' rest hp _ => ⟨[], free, hp, rfl, by
  simp only [List.nil_append, List.length_nil, Nat.add_zero]
  cases lexL free at' rest <;> rfl⟩
theorem LxG.blank (p : Bool → Prop) : LxG p false [32] [] p := fun free at' rest hp _ => ⟨[], free, hp, rfl, by
  show lexL free at' (32 :: rest) = _
  rw [lexL_blank _ _ _ (by decide)]
  show lexL free (at' + 1) rest = (lexL free (at' + 1) rest).map _
  cases lexL free (at' + 1) rest <;> rfl⟩
theorem LxG.tok {pre : Bool → Prop} {b : Bool} {w : List UInt8} {t : Tok} {c : UInt8} {r : List UInt8} (hw : w = c :: r) (hb : blankC c = false) (h35 : c ≠ 35) (hz : t.z = t)
    (h : ∀ (free : Bool) (rest : List UInt8), pre free → (b = true → headIs wordC rest = false) → tokAt free (w ++ rest) = some (t, w.length)) : LxG pre b w [t] (· = t.free) := fun free at' rest hp hs =>
  ⟨[{ t with pos := at' }], t.free, rfl, by rw [List.map_cons, List.map_nil]; exact congrArg (· :: []) hz, step_tok hw hb h35 (h free rest hp hs)⟩
theorem lx_word {l : List UInt8} (h : wordLike l = true) : LxG anyF true l [wT l] anyF := by
  have h' := h
  simp only [wordLike, Bool.and_eq_true] at h'
  cases hl : l with
  | nil => rw [hl] at h'; simp [headIs] at h'
  | cons c r =>
    rw [hl] at h'; have hc : letC c = true := h'.1.1; rw [← hl]; exact (LxG.tok (c := c) (r := r) hl (let_facts hc).1 (let_facts hc).2 rfl (fun free rest _ hs => tok_word free l rest h (hs rfl))).any
theorem lx_num {n : Int} (hn : -9223372036854775808 ≤ n ∧ n ≤ 9223372036854775807) : LxG (fun f => 0 ≤ n ∨ f = true) true (Lib.itoa n) [nT n] anyF := by
  have hc : ∃ c r, Lib.itoa n = c :: r ∧ blankC c = false ∧ c ≠ 35 := by
    unfold Lib.itoa
    split
    · exact ⟨45, _, rfl, by decide, by decide⟩
    · have ha := decP_all n.toNat
      cases hd : Lib.decDigits n.toNat with
      | nil => exact absurd hd (decP_ne _)
      | cons c d =>
        rw [hd] at ha; simp only [List.all_cons, Bool.and_eq_true] at ha; exact ⟨c, d, rfl, (dg_facts ha.1).1, (dg_facts ha.1).2.1⟩
  obtain ⟨c, r, e, h1, h2⟩ := hc
  exact (LxG.tok e h1 h2 rfl (fun free rest hp hs => tok_itoa free n rest hp hn (hs rfl))).any
theorem lx_text {x : List UInt8} (h : x.length ≤ 64) : LxG anyF false (quoteL x) [xT x] anyF :=
  (LxG.tok (w := quoteL x) (c := 34) (r := qs x ++ [34]) (by simp [quoteL]) (by decide) (by decide) rfl (fun free rest _ _ => tok_text free x rest h)).any
theorem lx_sign (c : UInt8) (h : (!letC c && !(c == 34) && !dgC c && !(c == 45) && !pairC c && signC c) = true) (hb : blankC c = false) (h35 : c ≠ 35) : LxG anyF false [c] [sT [c]] (· = (sT [c]).free) :=
  LxG.tok (c := c) (r := []) rfl hb h35 rfl (fun free rest _ _ => tok_sign free c rest h)
theorem lx_op {op : Int} (h : 1 ≤ op ∧ op ≤ 9) : LxG anyF false ([32] ++ signL op ++ [32]) [sT (signL op)] freeF := by
  have h2 : LxG anyF false (signL op ++ [32]) [sT (signL op)] freeF := fun free at' rest _ _ => by
    obtain ⟨e1, e2, c, r, e3, e4, e5⟩ := tok_op free op rest h; refine ⟨[{ sT (signL op) with pos := at' }], true, rfl, rfl, ?_⟩; rw [List.append_assoc]
    show lexL free at' (signL op ++ 32 :: rest) = _
    rw [step_tok e3 e4 e5 e1, e2, lexL_blank _ _ _ (by decide), List.length_append]
    rfl
  have := (LxG.blank anyF).and h2 (.inl rfl)
  rw [List.append_assoc]; exact this
theorem lx_op_num {op n : Int} (h : 1 ≤ op ∧ op ≤ 9) (hn : -9223372036854775808 ≤ n ∧ n ≤ 9223372036854775807) : LxG anyF true ([32] ++ signL op ++ [32] ++ Lib.itoa n) [sT (signL op), nT n] anyF :=
  (lx_op h).app (lx_num hn) (fun f hf => .inr hf) (.inl rfl)
theorem name_word {s : ByteArray} (h : nameB s = true) : wordLike s.data.toList = true := by
  simp only [nameB, Bool.and_eq_true, decide_eq_true_eq, Bool.not_eq_true'] at h
  obtain ⟨⟨⟨h1, h2⟩, h3⟩, h4⟩ := h
  have hw : ∀ c, okC c = true → wordC c = true := fun c hc => by
    simp only [okC, wordC, letC, dgC, Bool.or_eq_true, Bool.and_eq_true] at hc ⊢; rcases hc with (hc | hc) | hc
    · exact .inl (.inl hc)
    · exact .inr hc
    · exact .inl (.inr hc)
  have hlen : s.data.toList.length = s.size := by simp
  simp only [wordLike, Bool.and_eq_true, decide_eq_true_eq]
  refine ⟨⟨?_, ?_⟩, by omega⟩
  · cases hl : s.data.toList with
    | nil => rw [hl] at hlen; simp at hlen; omega
    | cons c r =>
      rw [hl] at h3 h4; simp only [List.getD_cons_zero] at h3; simp only [List.all_cons, Bool.and_eq_true] at h4; have hd : dgC c = false := h3; have hc := hw c h4.1; simp only [wordC, hd, Bool.or_false] at hc
      simpa [headIs] using hc
  · rw [List.all_eq_true] at h4 ⊢
    exact fun c hc => hw c (h4 c hc)
theorem word1_word {k : Int} (h : 1 ≤ k ∧ k ≤ 6) : wordLike (wordL 1 k) = true := by
  have : k = 1 ∨ k = 2 ∨ k = 3 ∨ k = 4 ∨ k = 5 ∨ k = 6 := by omega
  rcases this with rfl | rfl | rfl | rfl | rfl | rfl <;> decide
theorem word2_word {k : Int} (h : 1 ≤ k ∧ k ≤ 4) : wordLike (wordL 2 k) = true := by
  have : k = 1 ∨ k = 2 ∨ k = 3 ∨ k = 4 := by omega
  rcases this with rfl | rfl | rfl | rfl <;> decide
/-! ### matchers and names -/
def mat1 (m : Mat) : List UInt8 := m.name.data.toList ++ (eqL m.kind ++ quoteL m.text.data.toList)
theorem lx_eq {k : Int} (h : k = 1 ∨ k = 2) (x : List UInt8) (hx : x.length ≤ 64) : LxG anyF false (eqL k ++ quoteL x) [sT (eqL k), xT x] anyF := fun free at' rest _ _ => by
  obtain ⟨l, f, g1, g2, g3⟩ := lx_text hx (sT (eqL k)).free (at' + (eqL k).length) rest trivial (fun h => by cases h)
  have ht : tokAt free (eqL k ++ (quoteL x ++ rest)) = some (sT (eqL k), (eqL k).length) := by
    rcases h with rfl | rfl <;> simp [eqL, quoteL, tokAt, letC, dgC, signAt, pairC, signC, headIs, sT]
  have hs : ∃ c r, eqL k = c :: r ∧ blankC c = false ∧ c ≠ 35 := by
    rcases h with rfl | rfl <;> exact ⟨_, _, rfl, by decide, by decide⟩
  obtain ⟨c, r, e1, e2, e3⟩ := hs
  refine ⟨{ sT (eqL k) with pos := at' } :: l, f, trivial, by rw [List.map_cons, g2]; rfl, ?_⟩
  rw [List.append_assoc, step_tok e1 e2 e3 ht, g3, List.length_append, Nat.add_assoc]
  cases lexL f (at' + ((eqL k).length + (quoteL x).length)) rest <;> rfl
theorem lx_mat {m : Mat} (h : matB m = true) : LxG anyF false (mat1 m) (matT m) anyF := by
  simp only [matB, Bool.and_eq_true, Bool.or_eq_true, beq_iff_eq, decide_eq_true_eq] at h
  obtain ⟨⟨h1, h2⟩, h3⟩ := h
  have hs : m.text.data.toList.length = m.text.size := by simp
  refine (lx_word (name_word h2)).and (lx_eq h1 m.text.data.toList (by omega)) (.inr ?_)
  rcases h1 with h1 | h1
  · exact ⟨61, quoteL m.text.data.toList, by rw [h1]; rfl, by decide⟩
  · exact ⟨33, 61 :: quoteL m.text.data.toList, by rw [h1]; rfl, by decide⟩
theorem lx_comma : LxG anyF false [44, 32] [sT [44]] anyF := (lx_sign 44 (by decide) (by decide) (by decide)).any.and (LxG.blank anyF) (.inl rfl)
theorem matL_eq (b : Bool) (m : Mat) : matL b m = (if b then [123] else [44, 32]) ++ mat1 m := by unfold matL mat1; simp
theorem lx_tail : ∀ (l : List Mat) (m : Mat), matB m = true → l.all matB = true → LxG anyF false (mat1 m ++ matsTail l) (commas ((m :: l).map matT)) anyF
  | [], m, hm, _ => by simpa [matsTail, commas] using lx_mat hm
  | n :: l, m, hm, hl => by
    simp only [List.all_cons, Bool.and_eq_true] at hl; have ih := lx_tail l n hl.1 hl.2; have := ((lx_mat hm).and lx_comma (.inl rfl)).and ih (.inl rfl); have e1 : mat1 m ++ matsTail (n :: l) = mat1 m ++ [44, 32] ++ (mat1 n ++ matsTail l) := by
      simp [matsTail, matL_eq]
    rw [e1]
    simpa [commas] using this
theorem lx_mats {l : List Mat} (h : checkMats l = 0) : LxG anyF false (matsL l) (matsT l) anyF := by
  cases l with
  | nil => simpa [matsL, matsT] using LxG.nil anyF
  | cons m l =>
    have ha := (mats_all h).1; simp only [List.all_cons, Bool.and_eq_true] at ha; have h1 := ((lx_sign 123 (by decide) (by decide) (by decide)).any.and (lx_tail l m ha.1 ha.2) (.inl rfl)).and (lx_sign 125 (by decide) (by decide) (by decide)).any (.inl rfl); have e1 : matsL (m :: l) = [123] ++ (mat1 m ++ matsTail l) ++ [125] := by
      simp [matsL, matsUp, matL_eq]
    have e2 : matsT (m :: l) = [sT [123]] ++ commas ((m :: l).map matT) ++ [sT [125]] := by simp [matsT]
    rw [e1, e2]; exact h1
theorem lx_names : ∀ (l : List ByteArray) (w : ByteArray), (∀ x ∈ w :: l, nameB x = true) → LxG anyF true (namesL (w :: l)) (commas ((w :: l).map fun n => [wT n.data.toList])) anyF
  | [], w, h => by
    have := lx_word (name_word (h w (by simp)))
    simpa [namesL, Lib.join_one, commas] using this
  | v :: l, w, h => by
    have ih := lx_names l v (fun x hx => h x (by simp at hx ⊢; exact .inr hx)); have h1 := ((lx_word (name_word (h w (by simp)))).and lx_comma (.inr ⟨44, [32], rfl, by decide⟩)).and ih (.inl rfl); have e1 : namesL (w :: v :: l) = w.data.toList ++ [44, 32] ++ namesL (v :: l) := by
      unfold namesL; simp only [List.map_cons]; rw [Lib.join_cons, Lib.join_cons]; simp [Lib.joinTail]
    rw [e1]
    simpa [commas] using h1
theorem lx_namesAll {l : List ByteArray} (h : namesB l = true) : LxG anyF true (namesL l) (commas (l.map fun n => [wT n.data.toList])) anyF := by
  cases l with
  | nil => exact (LxG.nil anyF).weak
  | cons w l => exact lx_names l w (names_each h).1
theorem lx_s (c : UInt8) (h : (!letC c && !(c == 34) && !dgC c && !(c == 45) && !pairC c && signC c && !blankC c && !(c == 35)) = true) : LxG anyF false [c] [sT [c]] anyF := by
  have h' := h
  simp only [Bool.and_eq_true, Bool.not_eq_true', beq_eq_false_iff_ne] at h'
  refine (lx_sign c ?_ h'.1.2 h'.2).any
  simp only [Bool.and_eq_true, Bool.not_eq_true', beq_eq_false_iff_ne]
  exact h'.1.1
theorem lx_on {l : List ByteArray} (h : namesB l = true) : LxG anyF false (onL l) (onTs l) anyF := by
  by_cases hn : l = []
  · subst hn; exact LxG.nil anyF
  · have h0 : LxG anyF true [111, 110] [wT [111, 110]] anyF := lx_word (by decide)
    have h1 := ((((h0.and (LxG.blank anyF) (.inr ⟨32, [], rfl, by decide⟩)).and (lx_s 40 (by decide)) (.inl rfl)).and (lx_namesAll h) (.inl rfl)).and (lx_s 41 (by decide)) (.inr ⟨41, [], rfl, by decide⟩)).and (LxG.blank anyF) (.inl rfl); have e1 : onL l = [111, 110] ++ [32] ++ [40] ++ namesL l ++ [41] ++ [32] := by simp [onL, hn]
    have e2 : onTs l = [wT [111, 110]] ++ [] ++ [sT [40]] ++ commas (l.map fun n => [wT n.data.toList]) ++ [sT [41]] ++ [] := by simp [onTs, hn, namesT]
    rw [e1, e2]; exact h1
theorem lx_kid {ts : List UInt8} {tk : List Tok} (l s : Int) (h : LxG anyF true ts tk anyF) : LxG anyF true (kidT l (s, ts)) (kidTs l (s, tk)) anyF := by
  unfold kidT kidTs
  split
  · exact h
  · exact (((lx_s 40 (by decide)).and h (.inl rfl)).and (lx_s 41 (by decide)) (.inr ⟨41, [], rfl, by decide⟩)).weak
theorem tx_win (fn span : Int) (metric : ByteArray) (mats : List Mat) : exT (.mk 1 fn 0 0 metric mats span [] []) = wordL 1 fn ++ [40] ++ metric.data.toList ++ matsL mats ++ ([91] ++ Lib.itoa span ++ [93, 41]) := by
  rw [exT, nodeT, if_pos rfl, windowL]
theorem tx_grp (fn : Int) (names : List ByteArray) (a : Ex) : exT (.mk 2 fn 0 0 ⟨#[]⟩ [] 0 names [a]) = wordL 2 fn ++ [32, 98, 121, 32, 40] ++ namesL names ++ [41, 32, 40] ++ exT a ++ [41] := by
  rw [exT, nodeT, if_neg (by decide), if_pos rfl]; simp [exTs]
theorem tx_join (op : Int) (names : List ByteArray) (a b : Ex) : exT (.mk 3 0 op 0 ⟨#[]⟩ [] 0 names [a, b]) = kidT (strI 3 op) (strI a.kind a.op, exT a) ++ ([32] ++ signL op ++ [32]) ++ onL names ++ kidT (strI 3 op + 1) (strI b.kind b.op, exT b) := by
  rw [exT, nodeT, if_neg (by decide), if_neg (by decide), if_pos rfl]; simp [exTs]
theorem tx_scale (op num : Int) (a : Ex) : exT (.mk 4 0 op num ⟨#[]⟩ [] 0 [] [a]) = kidT (strI 4 op) (strI a.kind a.op, exT a) ++ ([32] ++ signL op ++ [32] ++ Lib.itoa num) := by
  rw [exT, nodeT, if_neg (by decide), if_neg (by decide), if_neg (by decide), if_pos rfl]; simp [exTs]
theorem tx_filt (op num : Int) (a : Ex) : exT (.mk 5 0 op num ⟨#[]⟩ [] 0 [] [a]) = kidT 1 (strI a.kind a.op, exT a) ++ ([32] ++ signL op ++ [32] ++ Lib.itoa num) := by
  rw [exT, nodeT, if_neg (by decide), if_neg (by decide), if_neg (by decide), if_neg (by decide), if_pos rfl]; simp [exTs]
theorem lx_by : LxG anyF false [32, 98, 121, 32, 40] [wT [98, 121], sT [40]] anyF :=
  (((LxG.blank anyF).and (lx_word (l := [98, 121]) (by decide)) (.inl rfl)).and (LxG.blank anyF) (.inr ⟨32, [], rfl, by decide⟩)).and (lx_s 40 (by decide)) (.inl rfl)
theorem lx_mid : LxG anyF false [41, 32, 40] [sT [41], sT [40]] anyF :=
  ((lx_s 41 (by decide)).and (LxG.blank anyF) (.inl rfl)).and (lx_s 40 (by decide)) (.inl rfl)
theorem lx_ends : LxG anyF false [93, 41] [sT [93], sT [41]] anyF := (lx_s 93 (by decide)).and (lx_s 41 (by decide)) (.inl rfl)
end Go.Proofs.YtdjdikiimhhjpaaGreatDoor
namespace Go.Proofs.YtdjdikiimhhjpaaGreatDoor
open Go.RowKit
set_option linter.unusedSimpArgs false
set_option linter.unusedVariables false
def RTa (L : List Tok) (e : Ex) (p : PS) (t : Tok) (r : List Tok) : Prop := ∃ (F i : Nat), At L { p with i := i } (t :: r) ∧ ∀ f, F ≤ f → pAtom L f p = some (e, { p with i := i })
def RTt (L : List Tok) (e : Ex) (p : PS) (t : Tok) (r : List Tok) : Prop := ∃ (d F i : Nat), At L { p with i := i } (t :: r) ∧ ∀ f, F ≤ f → pTerm L (f + d) p = pTerms L f e { p with i := i }
def RTs (L : List Tok) (e : Ex) (p : PS) (t : Tok) (r : List Tok) : Prop := ∃ (d F i : Nat), At L { p with i := i } (t :: r) ∧ ∀ f, F ≤ f → pSum L (f + d) p = pSums L f e { p with i := i }
theorem RTa.term {L : List Tok} {e : Ex} {p : PS} {t : Tok} {r : List Tok} (h : RTa L e p t r) : RTt L e p t r := by
  obtain ⟨F, i, h1, h2⟩ := h
  refine ⟨1, F, i, h1, fun f hf => ?_⟩
  show pTerm L (f + 1) p = _
  rw [pTerm, h2 f hf]
theorem RTt.sum {L : List Tok} {e : Ex} {p : PS} {t : Tok} {r : List Tok} (h : RTt L e p t r) (ht : ((t.kind == 4 || t.kind == 1) && t.text == [42]) = false) : RTs L e p t r := by
  obtain ⟨d, F, i, h1, h2⟩ := h
  refine ⟨1, F + 1 + d, i, h1, fun f hf => ?_⟩
  obtain ⟨g, rfl⟩ : ∃ g, f = g + 1 + d := ⟨f - 1 - d, by omega⟩
  have e1 : pTerm L (g + 1 + d) p = some (e, { p with i := i }) := by
    rw [h2 (g + 1) (by omega), pTerms]; simp only [h1.take_no ht]
    simp
  show pSum L ((g + 1 + d) + 1) p = _
  rw [pSum, e1]
theorem RTs.expr {L : List Tok} {e : Ex} {p : PS} {t : Tok} {r : List Tok} (h : RTs L e p t r) (h1 : ((t.kind == 4 || t.kind == 1) && t.text == [43]) = false) (h2 : ((t.kind == 4 || t.kind == 1) && t.text == [45]) = false)
    (h3 : ∀ s ∈ cmpSigns, ((t.kind == 4 || t.kind == 1) && t.text == s) = false) : ∃ (F i : Nat), At L { p with i := i } (t :: r) ∧ ∀ f, F ≤ f → pExpr L f p = some (e, { p with i := i }) := by
  obtain ⟨d, F, i, g1, g2⟩ := h
  refine ⟨F + 2 + d, i, g1, fun f hf => ?_⟩
  obtain ⟨g, rfl⟩ : ∃ g, f = (g + 1 + d) + 1 := ⟨f - 2 - d, by omega⟩
  have e1 : pSum L (g + 1 + d) p = some (e, { p with i := i }) := by
    rw [g2 (g + 1) (by omega), pSums]; simp only [g1.take_no h1, g1.take_no h2]
    simp
  rw [pExpr, e1]
  simp only [pCmp_no L _ t r g1 h3]
end Go.Proofs.YtdjdikiimhhjpaaGreatDoor
namespace Go.Proofs.YtdjdikiimhhjpaaGreatDoor
open Go.RowKit
set_option linter.unusedSimpArgs false
set_option linter.unusedVariables false
def noSt (t : Tok) (s : List UInt8) : Prop := ((t.kind == 4 || t.kind == 1) && t.text == s) = false
instance (t : Tok) (s : List UInt8) : Decidable (noSt t s) := by unfold noSt; infer_instance
def RTe (L : List Tok) (e : Ex) (p : PS) (t : Tok) (r : List Tok) : Prop := ∃ (F i : Nat), At L { p with i := i } (t :: r) ∧ ∀ f, F ≤ f → pExpr L f p = some (e, { p with i := i })
def stopT (t : Tok) : Prop := noSt t [42] ∧ noSt t [43] ∧ noSt t [45] ∧ ∀ s ∈ cmpSigns, noSt t s
theorem RTs.ex {L : List Tok} {e : Ex} {p : PS} {t : Tok} {r : List Tok} (h : RTs L e p t r) (ht : stopT t) : RTe L e p t r := h.expr ht.2.1 ht.2.2.1 ht.2.2.2
theorem stop_shut : stopT (sT [41]) := by
  refine ⟨by decide, by decide, by decide, ?_⟩
  intro s hs
  simp only [cmpSigns, List.mem_cons, List.not_mem_nil, or_false] at hs
  rcases hs with rfl | rfl | rfl | rfl | rfl | rfl <;> decide
theorem stop_end (t : Tok) (h : t.kind = 5) : stopT t := by
  refine ⟨by simp [noSt, h], by simp [noSt, h], by simp [noSt, h], fun s _ => by simp [noSt, h]⟩
theorem At.inj {L : List Tok} {p : PS} {i j : Nat} {t : Tok} {r : List Tok} (h : At L { p with i := i } (t :: r)) (h' : At L { p with i := j } (t :: r)) : i = j := by
  have l1 := congrArg List.length h.2
  have l2 := congrArg List.length h'.2
  simp only [List.length_map, List.length_drop, List.length_cons] at l1 l2
  omega
theorem pAtom_no (L : List Tok) (f : Nat) (p : PS) (h1 : p.take L [40] = (false, p)) : pAtom L (f + 1) p = atomRest L f p (fun q => pExpr L f q) := by
  rw [pAtom, h1]; rfl
theorem pAtom_win (L : List Tok) (f : Nat) (fn : Int) (p : PS) (h1 : p.take L [40] = (false, p)) (hk : (p.tok L).kind = 1) (hfn : funcOf (p.tok L).text = some (1, fn)) : pAtom L (f + 1) p = pWindow L f fn { p with i := p.i + 1 } := by
  rw [pAtom_no L f p h1]
  unfold atomRest
  rw [if_pos hk, hfn]
  rfl
theorem pAtom_grp (L : List Tok) (f : Nat) (fn : Int) (p q q' : PS) (ns : List (List UInt8)) (x : Ex) (h1 : p.take L [40] = (false, p)) (hk : (p.tok L).kind = 1) (hfn : funcOf (p.tok L).text = some (2, fn))
    (hn : pNames L f (PS.need L { p with i := p.i + 1 } [98, 121]) = some (ns, q)) (hx : pExpr L f (q.need L [40]) = some (x, q')) : pAtom L (f + 1) p = some (.mk 2 fn 0 0 ⟨#[]⟩ [] 0 (ns.map baOf) [x], q'.need L [41]) := by
  rw [pAtom_no L f p h1]
  unfold atomRest
  rw [if_pos hk, hfn]
  simp only
  rw [if_neg (by decide), hn]
  simp only [hx, Option.map_some]
theorem pAtom_br (L : List Tok) (f : Nat) (p p' q : PS) (x : Ex) (h1 : p.take L [40] = (true, p')) (hx : pExpr L f p' = some (x, q)) : pAtom L (f + 1) p = some (x, q.need L [41]) := by
  rw [pAtom, h1]
  simp only [if_true, hx, Option.map_some]
theorem word1_ne {k : Int} (h : 1 ≤ k ∧ k ≤ 6) : wordL 1 k ≠ [40] ∧ wordL 1 k ≠ [111, 110] := by
  have : k = 1 ∨ k = 2 ∨ k = 3 ∨ k = 4 ∨ k = 5 ∨ k = 6 := by omega
  rcases this with rfl | rfl | rfl | rfl | rfl | rfl <;> decide
theorem word2_ne {k : Int} (h : 1 ≤ k ∧ k ≤ 4) : wordL 2 k ≠ [40] ∧ wordL 2 k ≠ [111, 110] := by
  have : k = 1 ∨ k = 2 ∨ k = 3 ∨ k = 4 := by omega
  rcases this with rfl | rfl | rfl | rfl <;> decide
theorem rt_win (L : List Tok) (fn span : Int) (metric : ByteArray) (mats : List Mat) (hf : 1 ≤ fn ∧ fn ≤ 6) (hk : ∀ x ∈ mats, (x.kind = 1 ∨ x.kind = 2) ∧ x.name.data.toList ≠ [125]) (p : PS) (t : Tok) (r : List Tok) (ho : p.opn < 64)
    (h : At L p (wT (wordL 1 fn) :: ([sT [40], wT metric.data.toList] ++ matsT mats ++ [sT [91], nT span, sT [93], sT [41]] ++ (t :: r)))) : RTa L (.mk 1 fn 0 0 metric mats span [] []) p t r := by
  have e1 := h.take_no (s := [40]) (by simp [wT, (word1_ne hf).1])
  have h1 : At L { p with i := p.i + 1 } ([sT [40], wT metric.data.toList] ++ matsT mats ++ [sT [91], nT span, sT [93], sT [41]] ++ (t :: r)) := ⟨h.1, h.tok.2⟩
  have hkk := h.kind.1
  have hkt := h.kind.2.1
  have hfn : funcOf (p.tok L).text = some (1, fn) := by rw [hkt]; exact funcOf_win hf
  obtain ⟨i, e2, h2⟩ := pWindow_ok L fn metric mats span hk { p with i := p.i + 1 } (t :: r) ho h1 mats.length (Nat.le_refl _)
  refine ⟨mats.length + 1, i, h2, fun f hf' => ?_⟩
  obtain ⟨g, rfl⟩ : ∃ g, f = g + 1 := ⟨f - 1, by omega⟩
  obtain ⟨j, e3, h3⟩ := pWindow_ok L fn metric mats span hk { p with i := p.i + 1 } (t :: r) ho h1 g (by omega)
  obtain rfl := At.inj (p := p) h2 h3
  rw [pAtom_win L g fn p e1 hkk hfn]
  exact e3
theorem rt_br (L : List Tok) (e : Ex) (p : PS) (ts : List Tok) (t : Tok) (r : List Tok) (ho : p.opn < 64) (h : At L p (sT [40] :: (ts ++ sT [41] :: t :: r)))
    (ih : ∀ q : PS, q.opn = p.opn + 1 → At L q (ts ++ sT [41] :: t :: r) → RTe L e q (sT [41]) (t :: r)) : RTa L e p t r := by
  obtain ⟨e1, h1⟩ := h.take_open ho
  obtain ⟨F, i, h2, h3⟩ := ih _ rfl h1
  obtain ⟨e4, h4⟩ := h2.need_shut
  refine ⟨F + 1, i + 1, ⟨h4.1, h4.2⟩, fun f hf => ?_⟩
  obtain ⟨g, rfl⟩ : ∃ g, f = g + 1 := ⟨f - 1, by omega⟩
  rw [pAtom_br L g p _ _ e e1 (h3 g (by omega)), e4]
  simp
theorem rt_grp (L : List Tok) (fn : Int) (names : List ByteArray) (a : Ex) (hf : 1 ≤ fn ∧ fn ≤ 4) (hn : NamesOk names) (p : PS) (ts : List Tok) (t : Tok) (r : List Tok) (ho : p.opn < 64)
    (h : At L p (wT (wordL 2 fn) :: wT [98, 121] :: (namesT names ++ sT [40] :: (ts ++ sT [41] :: t :: r))))
    (ih : ∀ q : PS, q.opn = p.opn + 1 → At L q (ts ++ sT [41] :: t :: r) → RTe L a q (sT [41]) (t :: r)) : RTa L (.mk 2 fn 0 0 ⟨#[]⟩ [] 0 names [a]) p t r := by
  have e1 := h.take_no (s := [40]) (by simp [wT, (word2_ne hf).1])
  have h1 : At L { p with i := p.i + 1 } (wT [98, 121] :: (namesT names ++ sT [40] :: (ts ++ sT [41] :: t :: r))) := ⟨h.1, h.tok.2⟩
  have hkk := h.kind.1
  have hfn : funcOf (p.tok L).text = some (2, fn) := by rw [h.kind.2.1]; exact funcOf_grp hf
  obtain ⟨e2, h2⟩ := h1.need_sign (s := [98, 121]) (by simp [wT]) (by simp) (by simp)
  obtain ⟨i, e3, h3⟩ := pNames_all L names hn { p with i := p.i + 1 + 1 } (sT [40] :: (ts ++ sT [41] :: t :: r)) h2 ho names.length (Nat.le_refl _)
  obtain ⟨e4, h4⟩ := At.need_open h3 ho
  obtain ⟨F, j, h5, h6⟩ := ih _ rfl h4
  obtain ⟨e7, h7⟩ := h5.need_shut
  refine ⟨F + names.length + 1, j + 1, ⟨h7.1, h7.2⟩, fun f hf' => ?_⟩
  obtain ⟨g, rfl⟩ : ∃ g, f = g + 1 := ⟨f - 1, by omega⟩
  obtain ⟨i', e3', h3'⟩ := pNames_all L names hn { p with i := p.i + 1 + 1 } (sT [40] :: (ts ++ sT [41] :: t :: r)) h2 ho g (by omega)
  obtain rfl := At.inj (p := p) h3 h3'
  rw [pAtom_grp L g fn p _ _ _ a e1 hkk hfn (by rw [e2]; exact e3') (by rw [e4]; exact h6 g (by omega)), e7, baOf_same]
  simp
/-! ### behind a sign -/
theorem on_ok (L : List Tok) (names : List ByteArray) (hn : NamesOk names) (p : PS) (t0 : Tok) (r0 : List Tok) (h0 : noSt t0 [111, 110]) (h : At L p (onTs names ++ t0 :: r0)) (ho : p.opn < 64) :
    ∃ j, At L { p with i := j } (t0 :: r0) ∧ ∀ f, names.length ≤ f → (if (p.take L [111, 110]).1 then pNames L f (p.take L [111, 110]).2 else some ([], (p.take L [111, 110]).2)) = some (names.map fun n => n.data.toList, { p with i := j }) := by
  by_cases hn0 : names = []
  · subst hn0
    have h' : At L p (t0 :: r0) := by simpa [onTs] using h
    have e := h'.take_no h0; exact ⟨p.i, h', fun f _ => by rw [e]; simp⟩
  · have h' : At L p (wT [111, 110] :: (namesT names ++ t0 :: r0)) := by simpa [onTs, hn0] using h
    obtain ⟨e, h1⟩ := h'.take_sign (s := [111, 110]) (by simp [wT]) (by simp) (by simp); obtain ⟨i, e3, h3⟩ := pNames_all L names hn { p with i := p.i + 1 } (t0 :: r0) h1 ho names.length (Nat.le_refl _); refine ⟨i, h3, fun f hf => ?_⟩; obtain ⟨i', e3', h3'⟩ := pNames_all L names hn { p with i := p.i + 1 } (t0 :: r0) h1 ho f hf; obtain rfl := At.inj (p := p) h3 h3'; rw [e]
    simpa using e3'
theorem pStep_join (L : List Tok) (f : Nat) (op : Int) (x : Ex) (deep : Bool) (p q : PS) (ns : List (List UInt8)) (hk : ¬ (p.tok L).kind = 2)
    (h : (if (p.take L [111, 110]).1 then pNames L f (p.take L [111, 110]).2 else some ([], (p.take L [111, 110]).2)) = some (ns, q)) :
    pStep L (f + 1) op x deep p = (if deep then pTerm L f q else pAtom L f q).map fun y => (.mk 3 0 op 0 ⟨#[]⟩ [] 0 (ns.map baOf) [x, y.1], y.2) := by
  rw [pStep]
  rw [if_neg (by rintro ⟨_, h⟩; exact hk h)]
  simp only [h]
theorem on_kind (names : List ByteArray) (t0 : Tok) (r0 : List Tok) (h0 : t0.kind ≠ 2) {L : List Tok} {p : PS} (h : At L p (onTs names ++ t0 :: r0)) : ¬ (p.tok L).kind = 2 := by
  by_cases hn0 : names = []
  · subst hn0
    have h' : At L p (t0 :: r0) := by simpa [onTs] using h
    rw [h'.kind.1]; exact h0
  · have h' : At L p (wT [111, 110] :: (namesT names ++ t0 :: r0)) := by simpa [onTs, hn0] using h
    rw [h'.kind.1]; simp [wT]
def frontT (t : Tok) : Prop := t.kind ≠ 2 ∧ noSt t [111, 110]
theorem front_open : frontT (sT [40]) := ⟨by decide, by simp [noSt, sT]⟩
theorem rt_mul_num (L : List Tok) (a : Ex) (n : Int) (p : PS) (t : Tok) (r : List Tok) (h : RTt L a p (sT [42]) (nT n :: t :: r)) : RTt L (.mk 4 0 3 n ⟨#[]⟩ [] 0 [] [a]) p t r := by
  obtain ⟨d, F, i, h1, h2⟩ := h
  obtain ⟨e3, h3⟩ := h1.take_sign (s := [42]) (by simp [sT]) (by simp) (by simp)
  refine ⟨1 + d, F + 1, i + 1 + 1, ?_, fun f hf => ?_⟩
  · exact (pStep_num L 0 3 a false n { p with i := i + 1 } (t :: r) h3).2
  · obtain ⟨g, rfl⟩ : ∃ g, f = g + 1 := ⟨f - 1, by omega⟩
    have e4 := (pStep_num L g 3 a false n { p with i := i + 1 } (t :: r) h3).1; rw [← Nat.add_assoc, h2 (g + 1 + 1) (by omega), pTerms]; simp only [e3]; simp only [if_true]; rw [e4]
theorem rt_mul_join (L : List Tok) (a b : Ex) (names : List ByteArray) (hn : NamesOk names) (p : PS) (t0 : Tok) (r0 : List Tok) (t : Tok) (r : List Tok) (ho : p.opn < 64) (h0 : frontT t0) (h : RTt L a p (sT [42]) (onTs names ++ t0 :: r0))
    (hb : ∀ q : PS, q.opn = p.opn → At L q (t0 :: r0) → RTa L b q t r) : RTt L (.mk 3 0 3 0 ⟨#[]⟩ [] 0 names [a, b]) p t r := by
  obtain ⟨d, F, i, h1, h2⟩ := h
  obtain ⟨e3, h3⟩ := h1.take_sign (s := [42]) (by simp [sT]) (by simp) (by simp)
  have hk := on_kind names t0 r0 h0.1 h3
  obtain ⟨j, h4, h5⟩ := on_ok L names hn { p with i := i + 1 } t0 r0 h0.2 h3 ho
  obtain ⟨F', i', h6, h7⟩ := hb { p with i := j } rfl h4
  refine ⟨1 + d, F + F' + names.length + 1, i', h6, fun f hf => ?_⟩
  obtain ⟨g, rfl⟩ : ∃ g, f = g + 1 := ⟨f - 1, by omega⟩
  have e4 := pStep_join L g 3 a false { p with i := i + 1 } _ _ hk (h5 g (by omega))
  rw [← Nat.add_assoc, h2 (g + 1 + 1) (by omega), pTerms]
  simp only [e3]
  simp only [if_true]
  rw [e4, baOf_same]
  simp only [Bool.false_eq_true, if_false, h7 g (by omega)]
  simp
theorem pSums_plus (L : List Tok) (f : Nat) (x y : Ex) (p p' q : PS) (h : p.take L [43] = (true, p')) (hs : pStep L f 1 x true p' = some (y, q)) : pSums L (f + 1) x p = pSums L f y q := by
  rw [pSums]; simp [h, hs]
theorem pSums_minus (L : List Tok) (f : Nat) (x y : Ex) (p p' q : PS) (h0 : p.take L [43] = (false, p)) (h : p.take L [45] = (true, p')) (hs : pStep L f 2 x true p' = some (y, q)) : pSums L (f + 1) x p = pSums L f y q := by
  rw [pSums]; simp [h0, h, hs]
theorem pSums_op (L : List Tok) (f : Nat) (op : Int) (hop : op = 1 ∨ op = 2) (x y : Ex) (p q : PS) (r : List Tok) (h : At L p (sT (signL op) :: r)) (hs : pStep L f op x true { p with i := p.i + 1 } = some (y, q)) : pSums L (f + 1) x p = pSums L f y q := by
  rcases hop with rfl | rfl
  · exact pSums_plus L f x y p _ q (h.take_sign (s := [43]) (by simp [sT, signL]) (by simp) (by simp)).1 hs
  · exact pSums_minus L f x y p _ q (h.take_no (s := [43]) (by simp [sT, signL])) (h.take_sign (s := [45]) (by simp [sT, signL]) (by simp) (by simp)).1 hs
theorem rt_add_num (L : List Tok) (op : Int) (hop : op = 1 ∨ op = 2) (a : Ex) (n : Int) (p : PS) (t : Tok) (r : List Tok) (h : RTs L a p (sT (signL op)) (nT n :: t :: r)) : RTs L (.mk 4 0 op n ⟨#[]⟩ [] 0 [] [a]) p t r := by
  obtain ⟨d, F, i, h1, h2⟩ := h
  have h3 : At L { p with i := i + 1 } (nT n :: t :: r) := ⟨h1.1, h1.tok.2⟩
  refine ⟨1 + d, F + 1, i + 1 + 1, (pStep_num L 0 op a true n { p with i := i + 1 } (t :: r) h3).2, fun f hf => ?_⟩
  obtain ⟨g, rfl⟩ : ∃ g, f = g + 1 := ⟨f - 1, by omega⟩
  have e4 := (pStep_num L g op a true n { p with i := i + 1 } (t :: r) h3).1
  rw [← Nat.add_assoc, h2 (g + 1 + 1) (by omega), pSums_op L (g + 1) op hop a _ _ _ _ h1 e4]
theorem rt_add_join (L : List Tok) (op : Int) (hop : op = 1 ∨ op = 2) (a b : Ex) (names : List ByteArray) (hn : NamesOk names) (p : PS) (t0 : Tok) (r0 : List Tok) (t : Tok) (r : List Tok) (ho : p.opn < 64) (h0 : frontT t0)
    (h : RTs L a p (sT (signL op)) (onTs names ++ t0 :: r0)) (ht : noSt t [42])
    (hb : ∀ q : PS, q.opn = p.opn → At L q (t0 :: r0) → RTt L b q t r) : RTs L (.mk 3 0 op 0 ⟨#[]⟩ [] 0 names [a, b]) p t r := by
  obtain ⟨d, F, i, h1, h2⟩ := h
  have h3 : At L { p with i := i + 1 } (onTs names ++ t0 :: r0) := ⟨h1.1, h1.tok.2⟩
  have hk := on_kind names t0 r0 h0.1 h3
  obtain ⟨j, h4, h5⟩ := on_ok L names hn { p with i := i + 1 } t0 r0 h0.2 h3 ho
  obtain ⟨d', F', i', h6, h7⟩ := hb { p with i := j } rfl h4
  refine ⟨1 + d, F + F' + names.length + 2 + d', i', h6, fun f hf => ?_⟩
  obtain ⟨g, rfl⟩ : ∃ g, f = (g + 1 + d') + 1 := ⟨f - 2 - d', by omega⟩
  have e5 : pTerm L (g + 1 + d') { p with i := j } = some (b, { p with i := i' }) := by
    rw [h7 (g + 1) (by omega), pTerms]; have := h6.take_no ht; simp only [this]
    simp
  have e4 := pStep_join L (g + 1 + d') op a true { p with i := i + 1 } _ _ hk (h5 (g + 1 + d') (by omega))
  simp only [if_true, e5, Option.map_some, baOf_same] at e4
  rw [← Nat.add_assoc, h2 (g + 1 + d' + 1 + 1) (by omega), pSums_op L (g + 1 + d' + 1) op hop a _ _ _ _ h1 e4]
theorem rt_filt (L : List Tok) (op : Int) (hop : 4 ≤ op ∧ op ≤ 9) (a : Ex) (n : Int) (p : PS) (t : Tok) (r : List Tok) (h : RTs L a p (sT (signL op)) (nT n :: t :: r)) : RTe L (.mk 5 0 op n ⟨#[]⟩ [] 0 [] [a]) p t r := by
  obtain ⟨d, F, i, h1, h2⟩ := h
  have hs : signL op ≠ [43] ∧ signL op ≠ [45] := by
    have : op = 4 ∨ op = 5 ∨ op = 6 ∨ op = 7 ∨ op = 8 ∨ op = 9 := by omega
    rcases this with rfl | rfl | rfl | rfl | rfl | rfl <;> decide
  obtain ⟨e3, h3⟩ := pCmp_ok L hop { p with i := i } _ h1
  obtain ⟨e4, e5, h5⟩ := h3.token (k := 2) rfl
  have e6 := congrArg Tok.num e4
  refine ⟨F + 2 + d, i + 1 + 1, h5, fun f hf => ?_⟩
  obtain ⟨g, rfl⟩ : ∃ g, f = (g + 1 + d) + 1 := ⟨f - 2 - d, by omega⟩
  have e1 : pSum L (g + 1 + d) p = some (a, { p with i := i }) := by
    rw [h2 (g + 1) (by omega), pSums]; simp only [h1.take_no (s := [43]) (by simp [sT, hs.1]), h1.take_no (s := [45]) (by simp [sT, hs.2])]
    simp
  rw [pExpr, e1]
  simp only [e3, e5]
  have e7 : (PS.token L { p with i := i + 1 } 2).1.num = n := e6
  simp [e7]
end Go.Proofs.YtdjdikiimhhjpaaGreatDoor
namespace Go.Proofs.YtdjdikiimhhjpaaGreatDoor
open Go.RowKit
set_option linter.unusedSimpArgs false
set_option linter.unusedVariables false
def RTall (L : List Tok) (n : Nat) (e : Ex) : Prop := ∀ (p : PS) (t : Tok) (r : List Tok), p.opn + n < 64 → At L p (exTT e ++ t :: r) →
  (3 ≤ strI e.kind e.op → RTa L e p t r) ∧ (2 ≤ strI e.kind e.op → RTt L e p t r) ∧ (1 ≤ strI e.kind e.op → noSt t [42] → RTs L e p t r) ∧ (stopT t → RTe L e p t r)
theorem kid_in {L : List Tok} {n : Nat} {e : Ex} (h : RTall L n e) (p : PS) (t : Tok) (r : List Tok) (ho : p.opn + n + 1 < 64) (hat : At L p ([sT [40]] ++ exTT e ++ [sT [41]] ++ t :: r)) : RTa L e p t r := by
  refine rt_br L e p (exTT e) t r (by omega) (by simpa using hat) ?_
  intro q hq hq2
  exact (h q (sT [41]) (t :: r) (by omega) hq2).2.2.2 stop_shut
theorem kid_a {L : List Tok} {n : Nat} {e : Ex} (h : RTall L n e) (p : PS) (t : Tok) (r : List Tok) (ho : p.opn + n + 1 < 64) (hat : At L p (kidTs 3 (strI e.kind e.op, exTT e) ++ t :: r)) : RTa L e p t r := by
  by_cases hs : 3 ≤ strI e.kind e.op
  · rw [kidTs, if_pos hs] at hat
    exact (h p t r (by omega) hat).1 hs
  · rw [kidTs, if_neg hs] at hat
    exact kid_in h p t r ho hat
theorem kid_t {L : List Tok} {n : Nat} {e : Ex} (h : RTall L n e) (p : PS) (t : Tok) (r : List Tok) (ho : p.opn + n + 1 < 64) (hat : At L p (kidTs 2 (strI e.kind e.op, exTT e) ++ t :: r)) : RTt L e p t r := by
  by_cases hs : 2 ≤ strI e.kind e.op
  · rw [kidTs, if_pos hs] at hat
    exact (h p t r (by omega) hat).2.1 hs
  · rw [kidTs, if_neg hs] at hat
    exact (kid_in h p t r ho hat).term
theorem kid_s {L : List Tok} {n : Nat} {e : Ex} (h : RTall L n e) (p : PS) (t : Tok) (r : List Tok) (ho : p.opn + n + 1 < 64) (ht : noSt t [42]) (hat : At L p (kidTs 1 (strI e.kind e.op, exTT e) ++ t :: r)) : RTs L e p t r := by
  by_cases hs : 1 ≤ strI e.kind e.op
  · rw [kidTs, if_pos hs] at hat
    exact (h p t r (by omega) hat).2.2.1 hs ht
  · rw [kidTs, if_neg hs] at hat
    exact (kid_in h p t r ho hat).term.sum ht
theorem front_kid (l : Int) (s : Int) {ts : List Tok} (h : ∃ t0 r0, ts = t0 :: r0 ∧ frontT t0) : ∃ t0 r0, kidTs l (s, ts) = t0 :: r0 ∧ frontT t0 := by
  unfold kidTs
  split
  · exact h
  · exact ⟨_, _, rfl, front_open⟩
theorem tt_win (fn span : Int) (metric : ByteArray) (mats : List Mat) : exTT (.mk 1 fn 0 0 metric mats span [] []) = wT (wordL 1 fn) :: ([sT [40], wT metric.data.toList] ++ matsT mats ++ [sT [91], nT span, sT [93], sT [41]]) := by
  rw [exTT, nodeTs, if_pos rfl]; simp
theorem tt_grp (fn : Int) (names : List ByteArray) (a : Ex) : exTT (.mk 2 fn 0 0 ⟨#[]⟩ [] 0 names [a]) = wT (wordL 2 fn) :: wT [98, 121] :: (namesT names ++ sT [40] :: (exTT a ++ [sT [41]])) := by
  rw [exTT, nodeTs, if_neg (by decide), if_pos rfl]; simp [exTTs]
theorem tt_join (op : Int) (names : List ByteArray) (a b : Ex) : exTT (.mk 3 0 op 0 ⟨#[]⟩ [] 0 names [a, b]) = kidTs (strI 3 op) (strI a.kind a.op, exTT a) ++ sT (signL op) :: (onTs names ++ kidTs (strI 3 op + 1) (strI b.kind b.op, exTT b)) := by
  rw [exTT, nodeTs, if_neg (by decide), if_neg (by decide), if_pos rfl]; simp [exTTs]
theorem tt_scale (op num : Int) (a : Ex) : exTT (.mk 4 0 op num ⟨#[]⟩ [] 0 [] [a]) = kidTs (strI 4 op) (strI a.kind a.op, exTT a) ++ [sT (signL op), nT num] := by
  rw [exTT, nodeTs, if_neg (by decide), if_neg (by decide), if_neg (by decide), if_pos rfl]; simp [exTTs]
theorem tt_filt (op num : Int) (a : Ex) : exTT (.mk 5 0 op num ⟨#[]⟩ [] 0 [] [a]) = kidTs 1 (strI a.kind a.op, exTT a) ++ [sT (signL op), nT num] := by
  rw [exTT, nodeTs, if_neg (by decide), if_neg (by decide), if_neg (by decide), if_neg (by decide), if_pos rfl]; simp [exTTs]
theorem str_op {k op : Int} (hk : k = 3 ∨ k = 4) (h : 1 ≤ op ∧ op ≤ 3) : (op = 3 ∧ strI k op = 2) ∨ ((op = 1 ∨ op = 2) ∧ strI k op = 1) := by
  have : op = 3 ∨ (op = 1 ∨ op = 2) := by omega
  rcases this with h3 | h3
  · left; refine ⟨h3, ?_⟩; unfold strI; rw [if_pos hk, if_pos h3]
  · right; refine ⟨h3, ?_⟩; unfold strI; rw [if_pos hk, if_neg (by omega)]
theorem front_of : ∀ {n : Nat} {e : Ex}, Good n e → ∃ t0 r0, exTT e = t0 :: r0 ∧ frontT t0 := by
  intro n e h
  have app : ∀ (ts u : List Tok), (∃ t0 r0, ts = t0 :: r0 ∧ frontT t0) → ∃ t0 r0, ts ++ u = t0 :: r0 ∧ frontT t0 := by
    rintro ts u ⟨t0, r0, rfl, h⟩; exact ⟨t0, r0 ++ u, rfl, h⟩
  induction h with
  | win n fn span metric mats h1 h2 h3 h4 => rw [tt_win]; exact ⟨_, _, rfl, by simp [wT], by simp [noSt, wT, (word1_ne h1).2]⟩
  | grp n fn names a h1 h2 _ ih => rw [tt_grp]; exact ⟨_, _, rfl, by simp [wT], by simp [noSt, wT, (word2_ne h1).2]⟩
  | join n op names a b h1 h2 _ _ ih ih' => rw [tt_join]; exact app _ _ (front_kid _ _ ih)
  | scale n op num a h1 h2 _ ih => rw [tt_scale]; exact app _ _ (front_kid _ _ ih)
  | filt n op num a h1 h2 _ ih => rw [tt_filt]; exact app _ _ (front_kid _ _ ih)
theorem all_of_a {L : List Tok} {e : Ex} {p : PS} {t : Tok} {r : List Tok} (ra : RTa L e p t r) : (3 ≤ strI e.kind e.op → RTa L e p t r) ∧ (2 ≤ strI e.kind e.op → RTt L e p t r) ∧ (1 ≤ strI e.kind e.op → noSt t [42] → RTs L e p t r) ∧ (stopT t → RTe L e p t r) :=
  ⟨fun _ => ra, fun _ => ra.term, fun _ ht => ra.term.sum ht, fun hs => (ra.term.sum hs.1).ex hs⟩
theorem all_of_t {L : List Tok} {e : Ex} {p : PS} {t : Tok} {r : List Tok} (h3 : strI e.kind e.op < 3) (rt : RTt L e p t r) : (3 ≤ strI e.kind e.op → RTa L e p t r) ∧ (2 ≤ strI e.kind e.op → RTt L e p t r) ∧ (1 ≤ strI e.kind e.op → noSt t [42] → RTs L e p t r) ∧ (stopT t → RTe L e p t r) :=
  ⟨fun h => by omega, fun _ => rt, fun _ ht => rt.sum ht, fun hs => (rt.sum hs.1).ex hs⟩
theorem all_of_s {L : List Tok} {e : Ex} {p : PS} {t : Tok} {r : List Tok} (h2 : strI e.kind e.op < 2) (rs : noSt t [42] → RTs L e p t r) : (3 ≤ strI e.kind e.op → RTa L e p t r) ∧ (2 ≤ strI e.kind e.op → RTt L e p t r) ∧ (1 ≤ strI e.kind e.op → noSt t [42] → RTs L e p t r) ∧ (stopT t → RTe L e p t r) :=
  ⟨fun h => by omega, fun h => by omega, fun _ ht => rs ht, fun hs => (rs hs.1).ex hs⟩
theorem rt_all (L : List Tok) : ∀ {n : Nat} {e : Ex}, Good n e → RTall L n e := by
  intro n e h
  induction h with
  | win n fn span metric mats h1 h2 h3 h4 =>
    intro p t r ho hat; rw [tt_win] at hat; exact all_of_a (rt_win L fn span metric mats h1 (mats_ok h3) p t r (by omega) (by simpa using hat))
  | grp n fn names a h1 h2 _ ih =>
    intro p t r ho hat; rw [tt_grp] at hat; refine all_of_a (rt_grp L fn names a h1 (names_ok h2) p (exTT a) t r (by omega) (by simpa using hat) ?_); intro q hq hq2; exact (ih q (sT [41]) (t :: r) (by omega) hq2).2.2.2 stop_shut
  | join n op names a b h1 h2 _ hb ih ih' =>
    intro p t r ho hat; rw [tt_join] at hat; obtain ⟨t0, r0, e0, f0⟩ := front_kid (strI 3 op + 1) (strI b.kind b.op) (front_of hb); have hkb : ∀ q : PS, At L q (t0 :: (r0 ++ t :: r)) → At L q (kidTs (strI 3 op + 1) (strI b.kind b.op, exTT b) ++ t :: r) := by
      intro q hq; rw [e0]; exact hq
    rw [e0] at hat; rcases str_op (.inl rfl) h1 with ⟨rfl, hs⟩ | ⟨h12, hs⟩
    · rw [hs] at hat hkb
      refine all_of_t (by show strI 3 3 < 3; omega) (rt_mul_join L a b names (names_ok h2) p t0 (r0 ++ t :: r) t r (by omega) f0 ?_ ?_)
      · exact kid_t ih p (sT [42]) _ (by omega) (by simpa [signL] using hat)
      · intro q hq hq2
        exact kid_a ih' q t r (by omega) (hkb q hq2)
    · rw [hs] at hat hkb
      refine all_of_s (by show strI 3 op < 2; omega) (fun ht => rt_add_join L op h12 a b names (names_ok h2) p t0 (r0 ++ t :: r) t r (by omega) f0 ?_ ht ?_)
      · exact kid_s ih p (sT (signL op)) _ (by omega) (by rcases h12 with rfl | rfl <;> decide) (by simpa using hat)
      · intro q hq hq2
        exact kid_t ih' q t r (by omega) (hkb q hq2)
  | scale n op num a h1 h2 _ ih =>
    intro p t r ho hat; rw [tt_scale] at hat; rcases str_op (.inr rfl) h1 with ⟨rfl, hs⟩ | ⟨h12, hs⟩
    · rw [hs] at hat
      exact all_of_t (by show strI 4 3 < 3; omega) (rt_mul_num L a num p t r (kid_t ih p (sT [42]) _ (by omega) (by simpa [signL] using hat)))
    · rw [hs] at hat
      exact all_of_s (by show strI 4 op < 2; omega) (fun _ => rt_add_num L op h12 a num p t r (kid_s ih p (sT (signL op)) _ (by omega) (by rcases h12 with rfl | rfl <;> decide) (by simpa using hat)))
  | filt n op num a h1 h2 _ ih =>
    intro p t r ho hat; rw [tt_filt] at hat; have hs : strI 5 op = 0 := by unfold strI; rw [if_neg (by omega), if_pos rfl]
    have hn : noSt (sT (signL op)) [42] := by
      have : op = 4 ∨ op = 5 ∨ op = 6 ∨ op = 7 ∨ op = 8 ∨ op = 9 := by omega
      rcases this with rfl | rfl | rfl | rfl | rfl | rfl <;> decide
    refine ⟨fun h => absurd h (by show ¬ 3 ≤ strI 5 op; omega), fun h => absurd h (by show ¬ 2 ≤ strI 5 op; omega), fun h => absurd h (by show ¬ 1 ≤ strI 5 op; omega), fun _ => ?_⟩; exact rt_filt L op h1 a num p t r (kid_s ih p (sT (signL op)) _ (by omega) hn (by simpa using hat))
theorem same_ex {L : List Tok} {p : PS} {n m : Nat} {a b : Ex} {t u : Tok} {r s : List Tok} (ha : Good n a) (hb : Good m b) (hn : p.opn + n < 64) (hm : p.opn + m < 64) (ht : stopT t) (hu : stopT u) (h : At L p (exTT a ++ t :: r)) (h' : At L p (exTT b ++ u :: s)) : a = b := by
  obtain ⟨F, i, _, h1⟩ := (rt_all L ha p t r hn h).2.2.2 ht
  obtain ⟨F', i', _, h2⟩ := (rt_all L hb p u s hm h').2.2.2 hu
  have := (h1 (F + F') (by omega)).symm.trans (h2 (F + F') (by omega))
  simp only [Option.some.injEq, Prod.mk.injEq] at this
  exact this.1
end Go.Proofs.YtdjdikiimhhjpaaGreatDoor
namespace Go.Proofs.YtdjdikiimhhjpaaGreatDoor
open Go.RowKit
set_option linter.unusedSimpArgs false
set_option linter.unusedVariables false
theorem i64_of {n : Int} (h : 1 ≤ n ∧ n ≤ 1073741824) : -9223372036854775808 ≤ n ∧ n ≤ 9223372036854775807 := by omega
theorem lx_ex : ∀ {n : Nat} {e : Ex}, Good n e → LxG anyF true (exT e) (exTT e) anyF := by
  intro n e h
  induction h with
  | win n fn span metric mats h1 h2 h3 h4 =>
    rw [tx_win, tt_win]; have hm : ∃ x c', matsL mats ++ ([91] ++ Lib.itoa span ++ [93, 41]) = x :: c' ∧ wordC x = false := by
      unfold matsL; cases mats with
      | nil => exact ⟨91, Lib.itoa span ++ [93, 41], by simp, by decide⟩
      | cons m l => exact ⟨123, _, by simp [matsUp, matL]; rfl, by decide⟩
    have hb : LxG anyF false ([91] ++ Lib.itoa span ++ [93, 41]) ([sT [91], nT span, sT [93], sT [41]]) anyF :=
      (((lx_s 91 (by decide)).app (lx_num (i64_of h4)) (fun _ _ => .inl (by omega)) (.inl rfl)).and lx_ends (.inr ⟨93, [41], rfl, by decide⟩))
    have h5 := ((lx_word (word1_word h1)).and (lx_s 40 (by decide)) (.inr ⟨40, [], rfl, by decide⟩)).and ((lx_word (name_word h2)).and ((lx_mats h3).and hb (.inl rfl)) (.inr hm)) (.inl rfl); refine LxG.weak (b := false) ?_
    simpa using h5
  | grp n fn names a h1 h2 _ ih =>
    rw [tx_grp, tt_grp]; have h5 := ((((lx_word (word2_word h1)).and lx_by (.inr ⟨32, _, rfl, by decide⟩)).and (lx_namesAll h2) (.inl rfl)).and lx_mid (.inr ⟨41, _, rfl, by decide⟩)).and (ih.and (lx_s 41 (by decide)) (.inr ⟨41, [], rfl, by decide⟩)) (.inl rfl); refine LxG.weak (b := false) ?_
    simpa [namesT] using h5
  | join n op names a b h1 h2 _ _ ih ih' =>
    rw [tx_join, tt_join]; have h5 := (((lx_kid (strI 3 op) (strI a.kind a.op) ih).and (lx_op (op := op) (by omega)).any (.inr ⟨32, _, rfl, by decide⟩)).and (lx_on h2) (.inl rfl)).and (lx_kid (strI 3 op + 1) (strI b.kind b.op) ih') (.inl rfl)
    simpa using h5
  | scale n op num a h1 h2 _ ih =>
    rw [tx_scale, tt_scale]; exact (lx_kid (strI 4 op) (strI a.kind a.op) ih).and (lx_op_num (by omega) h2) (.inr ⟨32, _, rfl, by decide⟩)
  | filt n op num a h1 h2 _ ih =>
    rw [tx_filt, tt_filt]; exact (lx_kid 1 (strI a.kind a.op) ih).and (lx_op_num (by omega) h2) (.inr ⟨32, _, rfl, by decide⟩)
theorem lx_query {n : Nat} {e : Ex} (h : Good n e) {every : Int} (hev : 1 ≤ every ∧ every ≤ 1073741824) : LxG anyF true (queryT every e) (queryTT every e) anyF := by
  have h1 : LxG anyF true [101, 118, 101, 114, 121] [wT [101, 118, 101, 114, 121]] anyF := lx_word (by decide)
  have h2 : LxG anyF false [58, 32] [sT [58]] anyF := (lx_s 58 (by decide)).and (LxG.blank anyF) (.inl rfl)
  have h3 := ((((h1.and (LxG.blank anyF) (.inr ⟨32, [], rfl, by decide⟩)).app (lx_num (i64_of hev)) (fun _ _ => .inl (by omega)) (.inl rfl)).and h2 (.inr ⟨58, [32], rfl, by decide⟩)).and (lx_ex h) (.inl rfl))
  have e1 : queryT every e = [101, 118, 101, 114, 121] ++ [32] ++ Lib.itoa every ++ [58, 32] ++ exT e := by simp [queryT]
  have e2 : queryTT every e = [wT [101, 118, 101, 114, 121]] ++ [] ++ [nT every] ++ [sT [58]] ++ exTT e := by simp [queryTT]
  rw [e1, e2]; exact h3
def endT : Tok := ⟨5, [], 0, 0⟩
theorem lex_query {n : Nat} {e : Ex} (h : Good n e) {every : Int} (hev : 1 ≤ every ∧ every ≤ 1073741824) : ∃ l, lexL true 0 (queryT every e) = .ok l ∧ l.map Tok.z = queryTT every e ++ [endT] := by
  obtain ⟨l, f, _, h1, h2⟩ := lx_query h hev true 0 [] trivial (fun _ => rfl)
  rw [List.append_nil, lexL_nil] at h2
  refine ⟨l ++ [⟨5, [], 0, ((0 + (queryT every e).length : Nat) : Int)⟩], h2.trans rfl, ?_⟩
  rw [List.map_append, h1]; rfl
theorem good_check {every : Int} {e : Ex} (h : checkQuery every e = 0) (h64 : e.num64) : Good 16 e ∧ 1 ≤ every ∧ every ≤ 1073741824 := by
  unfold checkQuery at h
  split at h
  · rename_i hev
    refine ⟨?_, hev⟩; unfold checkExpr at h
    split at h
    · cases h
    · rename_i h1
      split at h
      · rename_i h2
        exact (good_of e h2 h64).mono (by omega)
      · cases h
  · cases h
theorem query_inj {a b : Ex} {x y : Int} (ha : checkQuery x a = 0) (hb : checkQuery y b = 0) (h64 : a.num64) (h64' : b.num64) (h : queryT x a = queryT y b) : x = y ∧ a = b := by
  obtain ⟨ga, hx⟩ := good_check ha h64
  obtain ⟨gb, hy⟩ := good_check hb h64'
  obtain ⟨l, e1, e2⟩ := lex_query ga hx
  obtain ⟨l', e3, e4⟩ := lex_query gb hy
  rw [h] at e1
  rw [e1] at e3
  simp only [Except.ok.injEq] at e3
  subst e3
  have ee := e2.symm.trans e4
  have hxy : x = y := by
    have e0 := ee; simp only [queryTT, List.cons_append, List.nil_append, List.cons.injEq, true_and, nT, Tok.mk.injEq] at e0; exact e0.1.2.1
  refine ⟨hxy, ?_⟩
  have q1 : At l ⟨3, 0, 0, 0⟩ (exTT a ++ [endT]) := ⟨rfl, by
    show (l.drop 3).map Tok.z = _
    rw [List.map_drop, e2]; rfl⟩
  have q2 : At l ⟨3, 0, 0, 0⟩ (exTT b ++ [endT]) := ⟨rfl, by
    show (l.drop 3).map Tok.z = _
    rw [List.map_drop, e4]; rfl⟩
  exact same_ex ga gb (by show (0 : Int) + ((16 : Nat) : Int) < 64; omega) (by show (0 : Int) + ((16 : Nat) : Int) < 64; omega) (stop_end _ rfl) (stop_end _ rfl) q1 q2
end Go.Proofs.YtdjdikiimhhjpaaGreatDoor
