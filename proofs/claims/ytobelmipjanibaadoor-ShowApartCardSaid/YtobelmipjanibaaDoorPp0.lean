/- The parser, as plain functions on tokens (modelled on the reference). No program here. -/
import Derived.Test.YtobelmipjanibaaDoorLx0
import Derived.Test.YtobelmipjanibaaDoorSh0
namespace Go.Proofs.YtobelmipjanibaaDoor
open Go.RowKit
set_option linter.unusedSimpArgs false
set_option linter.unusedVariables false

/-- Where a parser stands: the next token's place, the first fault (0: none) and where, how many ( are open. -/
structure PS where
  i : Nat
  err : Int
  at' : Int
  opn : Int
deriving DecidableEq

section
variable (L : List Tok)
def PS.tok (p : PS) : Tok := L.getD p.i ⟨5, [], 0, 0⟩
def PS.fail (p : PS) (e a : Int) : PS := if p.err = 0 then { p with err := e, at' := a } else p
def PS.isT (p : PS) (s : List UInt8) : Bool := p.err == 0 && ((p.tok L).kind == 4 || (p.tok L).kind == 1) && (p.tok L).text == s
def PS.take (p : PS) (s : List UInt8) : Bool × PS :=
  if p.isT L s then
    if s = [40] then (if p.opn = 64 then (false, p.fail 3 (p.tok L).pos) else (true, { p with i := p.i + 1, opn := p.opn + 1 }))
    else if s = [41] then (true, { p with i := p.i + 1, opn := p.opn - 1 })
    else (true, { p with i := p.i + 1 })
  else (false, p)
def PS.need (p : PS) (s : List UInt8) : PS := if (p.take L s).1 then (p.take L s).2 else (p.take L s).2.fail 14 ((p.take L s).2.tok L).pos
/-- One of a kind that must be next (zero, where it is not). -/
def PS.token (p : PS) (k : Int) : Tok × PS := if p.err = 0 ∧ (p.tok L).kind = k then (p.tok L, { p with i := p.i + 1 }) else (⟨0, [], 0, 0⟩, p.fail 14 (p.tok L).pos)

/-- A name is put in its place. -/
def putName : List (List UInt8) → List UInt8 → List (List UInt8)
  | [], w => [w]
  | x :: r, w => if Op.bytesLess x w then x :: putName r w else if x = w then x :: r else w :: x :: r
/-- Names till no comma is next. -/
def namesF : Nat → PS → List (List UInt8) → Option (List (List UInt8) × PS)
  | 0, _, _ => none
  | f + 1, p, out =>
    if p.err = 0 then
      let t := p.token L 1
      let c := t.2.take L [44]
      if c.1 then namesF f c.2 (putName out t.1.text) else some (putName out t.1.text, c.2)
    else some (out, p)
def pNames (f : Nat) (p : PS) : Option (List (List UInt8) × PS) :=
  let q := p.need L [40]
  let c := q.take L [41]
  if c.1 then some ([], c.2) else (namesF L f c.2 []).map fun x => (x.1, x.2.need L [41])

/-- One matcher: its kind, its name, its text. -/
def pOne (p : PS) : Mat × PS :=
  let n := p.token L 1
  let c := n.2.take L [33, 61]
  let q := if c.1 then c.2 else c.2.need L [61]
  let t := q.token L 3
  (⟨if c.1 then 2 else 1, ⟨n.1.text.toArray⟩, ⟨t.1.text.toArray⟩⟩, t.2)
def matsF : Nat → PS → List Mat → Option (List Mat × PS)
  | 0, _, _ => none
  | f + 1, p, out =>
    if p.err = 0 then
      let m := pOne L p
      let c := m.2.take L [44]
      if c.1 then matsF f c.2 (out ++ [m.1]) else some (out ++ [m.1], c.2)
    else some (out, p)
def pMatch (f : Nat) (p : PS) : Option (List Mat × PS) :=
  let a := p.take L [123]
  if a.1 then
    let b := a.2.take L [125]
    if b.1 then some ([], b.2) else (matsF L f b.2 []).map fun x => (x.1, x.2.need L [125])
  else some ([], a.2)

/-- What a function's word tells: kind and function. -/
def funcOf (s : List UInt8) : Option (Int × Int) :=
  if s = wordL 1 1 then some (1, 1) else if s = wordL 1 2 then some (1, 2) else if s = wordL 1 3 then some (1, 3) else if s = wordL 1 4 then some (1, 4) else if s = wordL 1 5 then some (1, 5) else if s = wordL 1 6 then some (1, 6)
  else if s = wordL 2 1 then some (2, 1) else if s = wordL 2 2 then some (2, 2) else if s = wordL 2 3 then some (2, 3) else if s = wordL 2 4 then some (2, 4) else none
def noEx : Ex := .mk 0 0 0 0 ⟨#[]⟩ [] 0 [] []
def baOf (x : List UInt8) : ByteArray := ⟨x.toArray⟩
def cmpSigns : List (List UInt8) := [signL 4, signL 5, signL 6, signL 7, signL 8, signL 9]
/-- The first comparison that is next (taken), or none. -/
def pCmp : List (List UInt8) → Int → PS → Option Int × PS
  | [], _, p => (none, p)
  | s :: r, k, p => if (p.take L s).1 then (some k, (p.take L s).2) else pCmp r (k + 1) (p.take L s).2
/-- A window behind its word. -/
def pWindow (f : Nat) (fn : Int) (p : PS) : Option (Ex × PS) :=
  let a := p.need L [40]
  let m := a.token L 1
  (pMatch L f m.2).map fun x =>
    let b := x.2.need L [91]
    let s := b.token L 2
    (.mk 1 fn 0 0 ⟨m.1.text.toArray⟩ x.1 s.1.num [] [], (s.2.need L [93]).need L [41])

/-- An atom that begins with no bracket; ex reads an expression. -/
def atomRest (f : Nat) (p : PS) (ex : PS → Option (Ex × PS)) : Option (Ex × PS) :=
  match (if (p.tok L).kind = 1 then funcOf (p.tok L).text else none) with
  | none => some (noEx, p.fail 14 (p.tok L).pos)
  | some (k, fn) =>
    if k = 1 then pWindow L f fn { p with i := p.i + 1 }
    else
      match pNames L f (PS.need L { p with i := p.i + 1 } [98, 121]) with
      | none => none
      | some (ns, q) => (ex (q.need L [40])).map fun x => (.mk 2 fn 0 0 ⟨#[]⟩ [] 0 (ns.map baOf) [x.1], x.2.need L [41])

mutual
def pAtom : Nat → PS → Option (Ex × PS)
  | 0, _ => none
  | f + 1, p => if (p.take L [40]).1 then (pExpr f (p.take L [40]).2).map fun x => (x.1, x.2.need L [41]) else atomRest L f (p.take L [40]).2 (fun q => pExpr f q)
/-- Behind a sign: a number, or another expression joined on names. -/
def pStep : Nat → Int → Ex → Bool → PS → Option (Ex × PS)
  | 0, _, _, _, _ => none
  | f + 1, op, x, deep, p =>
    if p.err = 0 ∧ (p.tok L).kind = 2 then some (.mk 4 0 op (p.tok L).num ⟨#[]⟩ [] 0 [] [x], { p with i := p.i + 1 })
    else
      let c := p.take L [111, 110]
      match (if c.1 then pNames L f c.2 else some ([], c.2)) with
      | none => none
      | some (ns, q) => (if deep then pTerm f q else pAtom f q).map fun y => (.mk 3 0 op 0 ⟨#[]⟩ [] 0 (ns.map baOf) [x, y.1], y.2)
def pTerm : Nat → PS → Option (Ex × PS)
  | 0, _ => none
  | f + 1, p =>
    match pAtom f p with
    | none => none
    | some (x, q) => pTerms f x q
def pTerms : Nat → Ex → PS → Option (Ex × PS)
  | 0, _, _ => none
  | f + 1, x, p =>
    let c := p.take L [42]
    if c.1 then
      match pStep f 3 x false c.2 with
      | none => none
      | some (y, q) => pTerms f y q
    else some (x, c.2)
def pSum : Nat → PS → Option (Ex × PS)
  | 0, _ => none
  | f + 1, p =>
    match pTerm f p with
    | none => none
    | some (x, q) => pSums f x q
def pSums : Nat → Ex → PS → Option (Ex × PS)
  | 0, _, _ => none
  | f + 1, x, p =>
    let c := p.take L [43]
    if c.1 then
      match pStep f 1 x true c.2 with
      | none => none
      | some (y, q) => pSums f y q
    else
      let d := c.2.take L [45]
      if d.1 then
        match pStep f 2 x true d.2 with
        | none => none
        | some (y, q) => pSums f y q
      else some (x, d.2)
def pExpr : Nat → PS → Option (Ex × PS)
  | 0, _ => none
  | f + 1, p =>
    match pSum f p with
    | none => none
    | some (x, q) =>
      match pCmp L cmpSigns 4 q with
      | (none, q) => some (x, q)
      | (some op, q) => let n := q.token L 2; some (.mk 5 0 op n.1.num ⟨#[]⟩ [] 0 [] [x], n.2)
end
end

/-! ### the tokens of a shown query (kinds and texts; places left out) -/
def wT (s : List UInt8) : Tok := ⟨1, s, 0, 0⟩
def sT (s : List UInt8) : Tok := ⟨4, s, 0, 0⟩
def nT (n : Int) : Tok := ⟨2, Lib.itoa n, n, 0⟩
def xT (s : List UInt8) : Tok := ⟨3, s, 0, 0⟩
def commas : List (List Tok) → List Tok
  | [] => []
  | [x] => x
  | x :: y :: r => x ++ [sT [44]] ++ commas (y :: r)
def namesT (l : List ByteArray) : List Tok := [sT [40]] ++ commas (l.map fun n => [wT n.data.toList]) ++ [sT [41]]
def matT (m : Mat) : List Tok := [wT m.name.data.toList, sT (eqL m.kind), xT m.text.data.toList]
def matsT (l : List Mat) : List Tok := if l = [] then [] else [sT [123]] ++ commas (l.map matT) ++ [sT [125]]
def kidTs (least : Int) (x : Int × List Tok) : List Tok := if least ≤ x.1 then x.2 else [sT [40]] ++ x.2 ++ [sT [41]]
def onTs (names : List ByteArray) : List Tok := if names = [] then [] else [wT [111, 110]] ++ namesT names
def nodeTs (kind fn op num : Int) (metric : ByteArray) (mats : List Mat) (span : Int) (names : List ByteArray) (ks : List (Int × List Tok)) : List Tok :=
  if kind = 1 then [wT (wordL 1 fn), sT [40], wT metric.data.toList] ++ matsT mats ++ [sT [91], nT span, sT [93], sT [41]]
  else if kind = 2 then [wT (wordL 2 fn), wT [98, 121]] ++ namesT names ++ [sT [40]] ++ (ks.getD 0 (0, [])).2 ++ [sT [41]]
  else if kind = 3 then kidTs (strI kind op) (ks.getD 0 (0, [])) ++ [sT (signL op)] ++ onTs names ++ kidTs (strI kind op + 1) (ks.getD 1 (0, []))
  else if kind = 4 then kidTs (strI kind op) (ks.getD 0 (0, [])) ++ [sT (signL op), nT num]
  else if kind = 5 then kidTs 1 (ks.getD 0 (0, [])) ++ [sT (signL op), nT num]
  else []
mutual
def exTT : Ex → List Tok
  | .mk kind fn op num metric mats span names kids => nodeTs kind fn op num metric mats span names (exTTs kids)
def exTTs : List Ex → List (Int × List Tok)
  | [] => []
  | e :: r => (strI e.kind e.op, exTT e) :: exTTs r
end
def queryTT (every : Int) (e : Ex) : List Tok := [wT [101, 118, 101, 114, 121], nT every, sT [58]] ++ exTT e

end Go.Proofs.YtobelmipjanibaaDoor
