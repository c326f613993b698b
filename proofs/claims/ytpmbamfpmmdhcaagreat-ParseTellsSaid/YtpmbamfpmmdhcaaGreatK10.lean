/- An expression's text, as plain functions on bytes. No program here. -/
import Derived.Test.YtpmbamfpmmdhcaaGreatK9
import Derived.Lib.ItoaNum
import Derived.Lib.ItoaLen
import Derived.Lib.Join
set_option maxRecDepth 100000
set_option maxHeartbeats 16000000
namespace Go.Proofs.YtpmbamfpmmdhcaaGreat
open Go.RowKit
set_option linter.unusedSimpArgs false
set_option linter.unusedVariables false
def signL (op : Int) : List UInt8 :=
  if op = 1 then [43] else if op = 2 then [45] else if op = 3 then [42] else if op = 4 then [60] else if op = 5 then [60,61] else if op = 6 then [62] else if op = 7 then [62,61] else if op = 8 then [61,61] else if op = 9 then [33,61] else []
def wordL (k f : Int) : List UInt8 :=
  if k = 1 then
    (if f = 1 then [115,117,109] else if f = 2 then [99,111,117,110,116] else if f = 3 then [109,105,110] else if f = 4 then [109,97,120] else if f = 5 then [108,97,115,116] else if f = 6 then [105,110,99,114,101,97,115,101] else [])
  else if k = 2 then
    (if f = 1 then [116,111,116,97,108] else if f = 2 then [109,97,110,121] else if f = 3 then [108,101,97,115,116] else if f = 4 then [109,111,115,116] else [])
  else []
/-! ### matchers,one after the other -/
/-! ### how long a text is -/
structure PS where
  i : Nat
  err : Int
  at' : Int
  opn : Int
deriving DecidableEq
section
variable (L : List Tok)
def PS.tok (p : PS) : Tok := L.getD p.i ⟨5,[],0,0⟩
def PS.fail (p : PS) (e a : Int) : PS := if p.err = 0 then { p with err := e,at' := a } else p
def PS.isT (p : PS) (s : List UInt8) : Bool := p.err == 0 && ((p.tok L).kind == 4 || (p.tok L).kind == 1) && (p.tok L).text == s
def PS.take (p : PS) (s : List UInt8) : Bool × PS :=
  if p.isT L s then
    if s = [40] then (if p.opn = 64 then (false,p.fail 3 (p.tok L).pos) else (true,{ p with i := p.i + 1,opn := p.opn + 1 }))
    else if s = [41] then (true,{ p with i := p.i + 1,opn := p.opn - 1 })
    else (true,{ p with i := p.i + 1 })
  else (false,p)
def PS.need (p : PS) (s : List UInt8) : PS := if (p.take L s).1 then (p.take L s).2 else (p.take L s).2.fail 14 ((p.take L s).2.tok L).pos
def PS.token (p : PS) (k : Int) : Tok × PS := if p.err = 0 ∧ (p.tok L).kind = k then (p.tok L,{ p with i := p.i + 1 }) else (⟨0,[],0,0⟩,p.fail 14 (p.tok L).pos)
def putName : List (List UInt8) → List UInt8 → List (List UInt8)
  | [],w => [w]
  | x :: r,w => if Op.bytesLess x w then x :: putName r w else if x = w then x :: r else w :: x :: r
def namesF : Nat → PS → List (List UInt8) → Option (List (List UInt8) × PS)
  | 0,_,_ => none
  | f + 1,p,out =>
    if p.err = 0 then
      let t := p.token L 1
      let c := t.2.take L [44]
      if c.1 then namesF f c.2 (putName out t.1.text) else some (putName out t.1.text,c.2)
    else some (out,p)
def pNames (f : Nat) (p : PS) : Option (List (List UInt8) × PS) :=
  let q := p.need L [40]
  let c := q.take L [41]
  if c.1 then some ([],c.2) else (namesF L f c.2 []).map fun x => (x.1,x.2.need L [41])
def pOne (p : PS) : Mat × PS :=
  let n := p.token L 1
  let c := n.2.take L [33,61]
  let q := if c.1 then c.2 else c.2.need L [61]
  let t := q.token L 3
  (⟨if c.1 then 2 else 1,⟨n.1.text.toArray⟩,⟨t.1.text.toArray⟩⟩,t.2)
def matsF : Nat → PS → List Mat → Option (List Mat × PS)
  | 0,_,_ => none
  | f + 1,p,out =>
    if p.err = 0 then
      let m := pOne L p
      let c := m.2.take L [44]
      if c.1 then matsF f c.2 (out ++ [m.1]) else some (out ++ [m.1],c.2)
    else some (out,p)
def pMatch (f : Nat) (p : PS) : Option (List Mat × PS) :=
  let a := p.take L [123]
  if a.1 then
    let b := a.2.take L [125]
    if b.1 then some ([],b.2) else (matsF L f b.2 []).map fun x => (x.1,x.2.need L [125])
  else some ([],a.2)
def funcOf (s : List UInt8) : Option (Int × Int) :=
  if s = wordL 1 1 then some (1,1) else if s = wordL 1 2 then some (1,2) else if s = wordL 1 3 then some (1,3) else if s = wordL 1 4 then some (1,4) else if s = wordL 1 5 then some (1,5) else if s = wordL 1 6 then some (1,6)
  else if s = wordL 2 1 then some (2,1) else if s = wordL 2 2 then some (2,2) else if s = wordL 2 3 then some (2,3) else if s = wordL 2 4 then some (2,4) else none
def noEx : Ex := .mk 0 0 0 0 ⟨#[]⟩ [] 0 [] []
def baOf (x : List UInt8) : ByteArray := ⟨x.toArray⟩
def cmpSigns : List (List UInt8) := [signL 4,signL 5,signL 6,signL 7,signL 8,signL 9]
def pCmp : List (List UInt8) → Int → PS → Option Int × PS
  | [],_,p => (none,p)
  | s :: r,k,p => if (p.take L s).1 then (some k,(p.take L s).2) else pCmp r (k + 1) (p.take L s).2
def pWindow (f : Nat) (fn : Int) (p : PS) : Option (Ex × PS) :=
  let a := p.need L [40]
  let m := a.token L 1
  (pMatch L f m.2).map fun x =>
    let b := x.2.need L [91]
    let s := b.token L 2
    (.mk 1 fn 0 0 ⟨m.1.text.toArray⟩ x.1 s.1.num [] [],(s.2.need L [93]).need L [41])
def atomRest (f : Nat) (p : PS) (ex : PS → Option (Ex × PS)) : Option (Ex × PS) :=
  match (if (p.tok L).kind = 1 then funcOf (p.tok L).text else none) with
  | none => some (noEx,p.fail 14 (p.tok L).pos)
  | some (k,fn) =>
    if k = 1 then pWindow L f fn { p with i := p.i + 1 }
    else
      match pNames L f (PS.need L { p with i := p.i + 1 } [98,121]) with
      | none => none
      | some (ns,q) => (ex (q.need L [40])).map fun x => (.mk 2 fn 0 0 ⟨#[]⟩ [] 0 (ns.map baOf) [x.1],x.2.need L [41])
mutual
def pAtom : Nat → PS → Option (Ex × PS)
  | 0,_ => none
  | f + 1,p => if (p.take L [40]).1 then (pExpr f (p.take L [40]).2).map fun x => (x.1,x.2.need L [41]) else atomRest L f (p.take L [40]).2 (fun q => pExpr f q)
def pStep : Nat → Int → Ex → Bool → PS → Option (Ex × PS)
  | 0,_,_,_,_ => none
  | f + 1,op,x,deep,p =>
    if p.err = 0 ∧ (p.tok L).kind = 2 then some (.mk 4 0 op (p.tok L).num ⟨#[]⟩ [] 0 [] [x],{ p with i := p.i + 1 })
    else
      let c := p.take L [111,110]
      match (if c.1 then pNames L f c.2 else some ([],c.2)) with
      | none => none
      | some (ns,q) => (if deep then pTerm f q else pAtom f q).map fun y => (.mk 3 0 op 0 ⟨#[]⟩ [] 0 (ns.map baOf) [x,y.1],y.2)
def pTerm : Nat → PS → Option (Ex × PS)
  | 0,_ => none
  | f + 1,p =>
    match pAtom f p with
    | none => none
    | some (x,q) => pTerms f x q
def pTerms : Nat → Ex → PS → Option (Ex × PS)
  | 0,_,_ => none
  | f + 1,x,p =>
    let c := p.take L [42]
    if c.1 then
      match pStep f 3 x false c.2 with
      | none => none
      | some (y,q) => pTerms f y q
    else some (x,c.2)
def pSum : Nat → PS → Option (Ex × PS)
  | 0,_ => none
  | f + 1,p =>
    match pTerm f p with
    | none => none
    | some (x,q) => pSums f x q
def pSums : Nat → Ex → PS → Option (Ex × PS)
  | 0,_,_ => none
  | f + 1,x,p =>
    let c := p.take L [43]
    if c.1 then
      match pStep f 1 x true c.2 with
      | none => none
      | some (y,q) => pSums f y q
    else
      let d := c.2.take L [45]
      if d.1 then
        match pStep f 2 x true d.2 with
        | none => none
        | some (y,q) => pSums f y q
      else some (x,d.2)
def pExpr : Nat → PS → Option (Ex × PS)
  | 0,_ => none
  | f + 1,p =>
    match pSum f p with
    | none => none
    | some (x,q) =>
      match pCmp L cmpSigns 4 q with
      | (none,q) => some (x,q)
      | (some op,q) => let n := q.token L 2;some (.mk 5 0 op n.1.num ⟨#[]⟩ [] 0 [] [x],n.2)
end
end
/-! ### the tokens of a shown query (kinds and texts;places left out) -/
def sT (s : List UInt8) : Tok := ⟨4,s,0,0⟩
def St (p q : PS) : Prop := p.err ≠ 0 → q.err = p.err ∧ q.at' = p.at'
theorem St.refl (p : PS) : St p p := fun _ => ⟨rfl,rfl⟩
theorem St.trans {p q r : PS} (h : St p q) (k : St q r) : St p r := fun hp => by
  obtain ⟨a,b⟩ := h hp
  obtain ⟨c,d⟩ := k (by rw [a];exact hp)
  exact ⟨c.trans a,d.trans b⟩
theorem St.fail (p : PS) (e a : Int) : St p (p.fail e a) := fun h => by unfold PS.fail;rw [if_neg h];exact ⟨rfl,rfl⟩
theorem St.on (p : PS) : St p { p with i := p.i + 1 } := fun _ => ⟨rfl,rfl⟩
theorem St.take (L : List Tok) (p : PS) (s : List UInt8) : St p (p.take L s).2 := by
  unfold PS.take
  split
  · split
    · split
      · exact .fail _ _ _
      · exact fun _ => ⟨rfl,rfl⟩
    · split <;> exact fun _ => ⟨rfl,rfl⟩
  · exact .refl _
theorem St.need (L : List Tok) (p : PS) (s : List UInt8) : St p (p.need L s) := by
  unfold PS.need
  split
  · exact .take _ _ _
  · exact (St.take _ _ _).trans (.fail _ _ _)
theorem St.token (L : List Tok) (p : PS) (k : Int) : St p (p.token L k).2 := by
  unfold PS.token
  split
  · exact .on _
  · exact .fail _ _ _
theorem St.namesF (L : List Tok) : ∀ (f : Nat) (p : PS) (out r : List (List UInt8)) (p' : PS),Go.Proofs.YtpmbamfpmmdhcaaGreat.namesF L f p out = some (r,p') → St p p'
  | 0,p,out,r,p',h => by simp [Go.Proofs.YtpmbamfpmmdhcaaGreat.namesF] at h
  | f + 1,p,out,r,p',h => by
    rw [Go.Proofs.YtpmbamfpmmdhcaaGreat.namesF] at h
    split at h
    · simp only at h
      have h1 := (St.token L p 1).trans (St.take L (p.token L 1).2 [44])
      split at h
      · exact h1.trans (St.namesF L f _ _ _ _ h)
      · simp only [Option.some.injEq,Prod.mk.injEq] at h
        obtain ⟨-,rfl⟩ := h;exact h1
    · simp only [Option.some.injEq,Prod.mk.injEq] at h
      obtain ⟨-,rfl⟩ := h;exact .refl _
theorem St.names {L : List Tok} {f : Nat} {p : PS} {r : List (List UInt8)} {p' : PS} (h : pNames L f p = some (r,p')) : St p p' := by
  unfold pNames at h
  have h1 := (St.need L p [40]).trans (St.take L (p.need L [40]) [41])
  simp only at h
  split at h
  · simp only [Option.some.injEq,Prod.mk.injEq] at h
    obtain ⟨-,rfl⟩ := h;exact h1
  · obtain ⟨⟨r0,p0⟩,h0,h2⟩ := Option.map_eq_some_iff.1 h
    simp only [Prod.mk.injEq] at h2;obtain ⟨-,rfl⟩ := h2;exact (h1.trans (St.namesF L f _ _ _ _ h0)).trans (.need _ _ _)
theorem St.one (L : List Tok) (p : PS) : St p (pOne L p).2 := by
  unfold pOne
  simp only
  refine (St.token L p 1).trans ?_
  split
  · exact (St.take L _ _).trans (.token _ _ _)
  · exact ((St.take L _ _).trans (.need _ _ _)).trans (.token _ _ _)
theorem St.matsF (L : List Tok) : ∀ (f : Nat) (p : PS) (out r : List Mat) (p' : PS),Go.Proofs.YtpmbamfpmmdhcaaGreat.matsF L f p out = some (r,p') → St p p'
  | 0,p,out,r,p',h => by simp [Go.Proofs.YtpmbamfpmmdhcaaGreat.matsF] at h
  | f + 1,p,out,r,p',h => by
    rw [Go.Proofs.YtpmbamfpmmdhcaaGreat.matsF] at h
    split at h
    · simp only at h
      have h1 := (St.one L p).trans (St.take L (pOne L p).2 [44])
      split at h
      · exact h1.trans (St.matsF L f _ _ _ _ h)
      · simp only [Option.some.injEq,Prod.mk.injEq] at h
        obtain ⟨-,rfl⟩ := h;exact h1
    · simp only [Option.some.injEq,Prod.mk.injEq] at h
      obtain ⟨-,rfl⟩ := h;exact .refl _
theorem St.match' {L : List Tok} {f : Nat} {p : PS} {r : List Mat} {p' : PS} (h : pMatch L f p = some (r,p')) : St p p' := by
  unfold pMatch at h
  have h1 := St.take L p [123]
  simp only at h
  split at h
  · have h2 := h1.trans (St.take L (p.take L [123]).2 [125])
    split at h
    · simp only [Option.some.injEq,Prod.mk.injEq] at h
      obtain ⟨-,rfl⟩ := h;exact h2
    · obtain ⟨⟨r0,p0⟩,h0,h3⟩ := Option.map_eq_some_iff.1 h
      simp only [Prod.mk.injEq] at h3;obtain ⟨-,rfl⟩ := h3;exact (h2.trans (St.matsF L f _ _ _ _ h0)).trans (.need _ _ _)
  · simp only [Option.some.injEq,Prod.mk.injEq] at h
    obtain ⟨-,rfl⟩ := h;exact h1
theorem St.cmp (L : List Tok) : ∀ (l : List (List UInt8)) (k : Int) (p : PS),St p (pCmp L l k p).2
  | [],k,p => .refl _
  | s :: r,k,p => by
    unfold pCmp
    split
    · exact .take _ _ _
    · exact (St.take L p s).trans (St.cmp L r (k + 1) _)
theorem St.window {L : List Tok} {f : Nat} {fn : Int} {p : PS} {e : Ex} {p' : PS} (h : pWindow L f fn p = some (e,p')) : St p p' := by
  unfold pWindow at h
  obtain ⟨⟨ms,q4⟩,hm,hr⟩ := Option.map_eq_some_iff.1 h
  simp only [Prod.mk.injEq] at hr
  obtain ⟨-,rfl⟩ := hr
  exact ((((((St.need L p [40]).trans (.token _ _ _)).trans (.match' hm)).trans (.need _ _ _)).trans (.token _ _ _)).trans (.need _ _ _)).trans (.need _ _ _)
structure Sts (L : List Tok) (f : Nat) : Prop where
  atom : ∀ p e p',pAtom L f p = some (e,p') → St p p'
  step : ∀ op x d p e p',pStep L f op x d p = some (e,p') → St p p'
  term : ∀ p e p',pTerm L f p = some (e,p') → St p p'
  terms : ∀ x p e p',pTerms L f x p = some (e,p') → St p p'
  sum : ∀ p e p',pSum L f p = some (e,p') → St p p'
  sums : ∀ x p e p',pSums L f x p = some (e,p') → St p p'
  expr : ∀ p e p',pExpr L f p = some (e,p') → St p p'
theorem sts (L : List Tok) : ∀ f,Sts L f := by
  intro f
  induction f with
  | zero => exact ⟨fun p e p' h => by simp [pAtom] at h,fun op x d p e p' h => by simp [pStep] at h,fun p e p' h => by simp [pTerm] at h,fun x p e p' h => by simp [pTerms] at h,fun p e p' h => by simp [pSum] at h,fun x p e p' h => by simp [pSums] at h,fun p e p' h => by simp [pExpr] at h⟩
  | succ f ih =>
    refine ⟨?_,?_,?_,?_,?_,?_,?_⟩
    · intro p e p' h
      rw [pAtom] at h;have h2 := St.take L p [40]
      split at h
      · obtain ⟨⟨e0,q⟩,h0,h1⟩ := Option.map_eq_some_iff.1 h
        simp only [Prod.mk.injEq] at h1;obtain ⟨-,rfl⟩ := h1;exact (h2.trans (ih.expr _ _ _ h0)).trans (.need _ _ _)
      · unfold atomRest at h
        split at h
        · simp only [Option.some.injEq,Prod.mk.injEq] at h
          obtain ⟨-,rfl⟩ := h;exact h2.trans (.fail _ _ _)
        · split at h
          · exact (h2.trans (.on _)).trans (.window h)
          · cases hn : pNames L f (PS.need L { (p.take L [40]).2 with i := (p.take L [40]).2.i + 1 } [98,121]) with
            | none => rw [hn] at h;cases h
            | some y =>
              obtain ⟨ns,q⟩ := y;rw [hn] at h;obtain ⟨⟨e0,q2⟩,h0,h1⟩ := Option.map_eq_some_iff.1 h;simp only [Prod.mk.injEq] at h1;obtain ⟨-,rfl⟩ := h1;exact (((((h2.trans (.on _)).trans (.need _ _ _)).trans (.names hn)).trans (.need _ _ _)).trans (ih.expr _ _ _ h0)).trans (.need _ _ _)
    · intro op x d p e p' h
      rw [pStep] at h
      split at h
      · simp only [Option.some.injEq,Prod.mk.injEq] at h
        obtain ⟨-,rfl⟩ := h;exact .on _
      · simp only at h
        have h2 := St.take L p [111,110];cases hn : (if (p.take L [111,110]).1 then pNames L f (p.take L [111,110]).2 else some ([],(p.take L [111,110]).2)) with
        | none => rw [hn] at h;cases h
        | some y =>
          obtain ⟨ns,q⟩ := y;rw [hn] at h;have hq : St p q := by
            split at hn
            · exact h2.trans (.names hn)
            · simp only [Option.some.injEq,Prod.mk.injEq] at hn
              obtain ⟨-,rfl⟩ := hn;exact h2
          obtain ⟨⟨e0,q2⟩,h0,h1⟩ := Option.map_eq_some_iff.1 h;simp only [Prod.mk.injEq] at h1;obtain ⟨-,rfl⟩ := h1
          split at h0
          · exact hq.trans (ih.term _ _ _ h0)
          · exact hq.trans (ih.atom _ _ _ h0)
    · intro p e p' h
      rw [pTerm] at h;cases ha : pAtom L f p with
      | none => rw [ha] at h;cases h
      | some y => rw [ha] at h;exact (ih.atom _ _ _ ha).trans (ih.terms _ _ _ _ h)
    · intro x p e p' h
      rw [pTerms] at h;have h2 := St.take L p [42]
      split at h
      · cases hs : pStep L f 3 x false (p.take L [42]).2 with
        | none => rw [hs] at h;cases h
        | some y => rw [hs] at h;exact (h2.trans (ih.step _ _ _ _ _ _ hs)).trans (ih.terms _ _ _ _ h)
      · simp only [Option.some.injEq,Prod.mk.injEq] at h
        obtain ⟨-,rfl⟩ := h;exact h2
    · intro p e p' h
      rw [pSum] at h;cases ha : pTerm L f p with
      | none => rw [ha] at h;cases h
      | some y => rw [ha] at h;exact (ih.term _ _ _ ha).trans (ih.sums _ _ _ _ h)
    · intro x p e p' h
      rw [pSums] at h;have h2 := St.take L p [43]
      split at h
      · cases hs : pStep L f 1 x true (p.take L [43]).2 with
        | none => rw [hs] at h;cases h
        | some y => rw [hs] at h;exact (h2.trans (ih.step _ _ _ _ _ _ hs)).trans (ih.sums _ _ _ _ h)
      · have h3 := h2.trans (St.take L (p.take L [43]).2 [45])
        simp only at h
        split at h
        · cases hs : pStep L f 2 x true ((p.take L [43]).2.take L [45]).2 with
          | none => rw [hs] at h;cases h
          | some y => rw [hs] at h;exact (h3.trans (ih.step _ _ _ _ _ _ hs)).trans (ih.sums _ _ _ _ h)
        · simp only [Option.some.injEq,Prod.mk.injEq] at h
          obtain ⟨-,rfl⟩ := h;exact h3
    · intro p e p' h
      rw [pExpr] at h;cases ha : pSum L f p with
      | none => rw [ha] at h;cases h
      | some y =>
        obtain ⟨x,q⟩ := y;rw [ha] at h;have h1 := ih.sum _ _ _ ha;have h2 := St.cmp L cmpSigns 4 q;simp only at h;cases hc : pCmp L cmpSigns 4 q with
        | mk o q2 =>
          rw [hc] at h h2;cases o with
          | none =>
            simp only [Option.some.injEq,Prod.mk.injEq] at h;obtain ⟨-,rfl⟩ := h;exact h1.trans h2
          | some op =>
            simp only [Option.some.injEq,Prod.mk.injEq] at h;obtain ⟨-,rfl⟩ := h;exact (h1.trans h2).trans (.token _ _ _)
def Tok.z (t : Tok) : Tok := { t with pos := 0 }
def At (L : List Tok) (p : PS) (ts : List Tok) : Prop := p.err = 0 ∧ (L.drop p.i).map Tok.z = ts
theorem At.tok {L : List Tok} {p : PS} {t : Tok} {r : List Tok} (h : At L p (t :: r)) : (p.tok L).z = t ∧ (L.drop (p.i + 1)).map Tok.z = r := by
  obtain ⟨_,h⟩ := h
  cases hd : L.drop p.i with
  | nil => rw [hd] at h;cases h
  | cons x y =>
    rw [hd] at h;simp only [List.map_cons,List.cons.injEq] at h;have hi : p.i < L.length := by
      rcases Nat.lt_or_ge p.i L.length with h' | h'
      · exact h'
      · rw [List.drop_of_length_le h'] at hd;cases hd
    rw [List.drop_eq_getElem_cons hi] at hd;simp only [List.cons.injEq] at hd;refine ⟨?_,by rw [hd.2];exact h.2⟩;unfold PS.tok;rw [List.getD_eq_getElem?_getD,List.getElem?_eq_getElem hi]
    show (L[p.i]).z = t
    rw [hd.1];exact h.1
theorem At.kind {L : List Tok} {p : PS} {t : Tok} {r : List Tok} (h : At L p (t :: r)) : (p.tok L).kind = t.kind ∧ (p.tok L).text = t.text ∧ (p.tok L).num = t.num := by
  have h := h.tok.1
  subst h
  exact ⟨rfl,rfl,rfl⟩
theorem At.isT {L : List Tok} {p : PS} {t : Tok} {r : List Tok} (h : At L p (t :: r)) (s : List UInt8) : p.isT L s = ((t.kind == 4 || t.kind == 1) && t.text == s) := by
  obtain ⟨h1,h2,_⟩ := h.kind
  unfold PS.isT
  rw [h1,h2,h.1]
  simp
theorem At.take_sign {L : List Tok} {p : PS} {t : Tok} {r : List Tok} (h : At L p (t :: r)) {s : List UInt8} (hs : ((t.kind == 4 || t.kind == 1) && t.text == s) = true) (h1 : s ≠ [40]) (h2 : s ≠ [41]) :
    p.take L s = (true,{ p with i := p.i + 1 }) ∧ At L { p with i := p.i + 1 } r := by
  refine ⟨?_,h.1,h.tok.2⟩
  unfold PS.take
  rw [h.isT,hs];simp [h1,h2]
theorem At.take_open {L : List Tok} {p : PS} {r : List Tok} (h : At L p (sT [40] :: r)) (ho : p.opn < 64) :
    p.take L [40] = (true,{ p with i := p.i + 1,opn := p.opn + 1 }) ∧ At L { p with i := p.i + 1,opn := p.opn + 1 } r := by
  refine ⟨?_,h.1,h.tok.2⟩
  unfold PS.take
  rw [h.isT]
  simp [sT,show ¬ p.opn = 64 by omega]
theorem At.need_open {L : List Tok} {p : PS} {r : List Tok} (h : At L p (sT [40] :: r)) (ho : p.opn < 64) :
    p.need L [40] = { p with i := p.i + 1,opn := p.opn + 1 } ∧ At L { p with i := p.i + 1,opn := p.opn + 1 } r := by
  obtain ⟨e,h⟩ := h.take_open ho
  exact ⟨by unfold PS.need;rw [e];rfl,h⟩
theorem At.token {L : List Tok} {p : PS} {t : Tok} {r : List Tok} (h : At L p (t :: r)) {k : Int} (hk : t.kind = k) :
    (p.token L k).1.z = t ∧ (p.token L k).2 = { p with i := p.i + 1 } ∧ At L { p with i := p.i + 1 } r := by
  unfold PS.token
  rw [if_pos ⟨h.1,h.kind.1.trans hk⟩]
  exact ⟨h.tok.1,rfl,h.1,h.tok.2⟩
theorem PS.same {p : PS} : ({ p with i := p.i } : PS) = p := rfl
theorem ba_same (s : ByteArray) : (⟨s.data.toList.toArray⟩ : ByteArray) = s := by cases s;simp
def Za (p q : PS) : Prop := q.err = 0 → p.err = 0 ∧ q.at' = p.at'
theorem Za.refl (p : PS) : Za p p := fun h => ⟨h,rfl⟩
theorem Za.trans {p q r : PS} (h : Za p q) (k : Za q r) : Za p r := fun hr => by
  obtain ⟨a,b⟩ := k hr
  obtain ⟨c,d⟩ := h a
  exact ⟨c,b.trans d⟩
theorem Za.fail (p : PS) (e a : Int) (he : e ≠ 0) : Za p (p.fail e a) := fun h => by
  unfold PS.fail at h ⊢
  by_cases h0 : p.err = 0
  · rw [if_pos h0] at h;exact absurd h he
  · rw [if_neg h0] at h;exact absurd h h0
theorem Za.on (p : PS) : Za p { p with i := p.i + 1 } := fun h => ⟨h,rfl⟩
theorem Za.take (L : List Tok) (p : PS) (s : List UInt8) : Za p (p.take L s).2 := by
  unfold PS.take
  split
  · split
    · split
      · exact .fail _ _ _ (by decide)
      · exact fun h => ⟨h,rfl⟩
    · split <;> exact fun h => ⟨h,rfl⟩
  · exact .refl _
theorem Za.need (L : List Tok) (p : PS) (s : List UInt8) : Za p (p.need L s) := by
  unfold PS.need
  split
  · exact .take _ _ _
  · exact (Za.take _ _ _).trans (.fail _ _ _ (by decide))
theorem Za.token (L : List Tok) (p : PS) (k : Int) : Za p (p.token L k).2 := by
  unfold PS.token
  split
  · exact .on _
  · exact .fail _ _ _ (by decide)
theorem Za.namesF (L : List Tok) : ∀ (f : Nat) (p : PS) (out r : List (List UInt8)) (p' : PS),Go.Proofs.YtpmbamfpmmdhcaaGreat.namesF L f p out = some (r,p') → Za p p'
  | 0,p,out,r,p',h => by simp [Go.Proofs.YtpmbamfpmmdhcaaGreat.namesF] at h
  | f + 1,p,out,r,p',h => by
    rw [Go.Proofs.YtpmbamfpmmdhcaaGreat.namesF] at h
    split at h
    · simp only at h
      have h1 := (Za.token L p 1).trans (Za.take L (p.token L 1).2 [44])
      split at h
      · exact h1.trans (Za.namesF L f _ _ _ _ h)
      · simp only [Option.some.injEq,Prod.mk.injEq] at h
        obtain ⟨-,rfl⟩ := h;exact h1
    · simp only [Option.some.injEq,Prod.mk.injEq] at h
      obtain ⟨-,rfl⟩ := h;exact .refl _
theorem Za.names {L : List Tok} {f : Nat} {p : PS} {r : List (List UInt8)} {p' : PS} (h : pNames L f p = some (r,p')) : Za p p' := by
  unfold pNames at h
  have h1 := (Za.need L p [40]).trans (Za.take L (p.need L [40]) [41])
  simp only at h
  split at h
  · simp only [Option.some.injEq,Prod.mk.injEq] at h
    obtain ⟨-,rfl⟩ := h;exact h1
  · obtain ⟨⟨r0,p0⟩,h0,h2⟩ := Option.map_eq_some_iff.1 h
    simp only [Prod.mk.injEq] at h2;obtain ⟨-,rfl⟩ := h2;exact (h1.trans (Za.namesF L f _ _ _ _ h0)).trans (.need _ _ _)
theorem Za.one (L : List Tok) (p : PS) : Za p (pOne L p).2 := by
  unfold pOne
  simp only
  refine (Za.token L p 1).trans ?_
  split
  · exact (Za.take L _ _).trans (.token _ _ _)
  · exact ((Za.take L _ _).trans (.need _ _ _)).trans (.token _ _ _)
theorem Za.matsF (L : List Tok) : ∀ (f : Nat) (p : PS) (out r : List Mat) (p' : PS),Go.Proofs.YtpmbamfpmmdhcaaGreat.matsF L f p out = some (r,p') → Za p p'
  | 0,p,out,r,p',h => by simp [Go.Proofs.YtpmbamfpmmdhcaaGreat.matsF] at h
  | f + 1,p,out,r,p',h => by
    rw [Go.Proofs.YtpmbamfpmmdhcaaGreat.matsF] at h
    split at h
    · simp only at h
      have h1 := (Za.one L p).trans (Za.take L (pOne L p).2 [44])
      split at h
      · exact h1.trans (Za.matsF L f _ _ _ _ h)
      · simp only [Option.some.injEq,Prod.mk.injEq] at h
        obtain ⟨-,rfl⟩ := h;exact h1
    · simp only [Option.some.injEq,Prod.mk.injEq] at h
      obtain ⟨-,rfl⟩ := h;exact .refl _
theorem Za.match' {L : List Tok} {f : Nat} {p : PS} {r : List Mat} {p' : PS} (h : pMatch L f p = some (r,p')) : Za p p' := by
  unfold pMatch at h
  have h1 := Za.take L p [123]
  simp only at h
  split at h
  · have h2 := h1.trans (Za.take L (p.take L [123]).2 [125])
    split at h
    · simp only [Option.some.injEq,Prod.mk.injEq] at h
      obtain ⟨-,rfl⟩ := h;exact h2
    · obtain ⟨⟨r0,p0⟩,h0,h3⟩ := Option.map_eq_some_iff.1 h
      simp only [Prod.mk.injEq] at h3;obtain ⟨-,rfl⟩ := h3;exact (h2.trans (Za.matsF L f _ _ _ _ h0)).trans (.need _ _ _)
  · simp only [Option.some.injEq,Prod.mk.injEq] at h
    obtain ⟨-,rfl⟩ := h;exact h1
theorem Za.cmp (L : List Tok) : ∀ (l : List (List UInt8)) (k : Int) (p : PS),Za p (pCmp L l k p).2
  | [],k,p => .refl _
  | s :: r,k,p => by
    unfold pCmp
    split
    · exact .take _ _ _
    · exact (Za.take L p s).trans (Za.cmp L r (k + 1) _)
theorem Za.window {L : List Tok} {f : Nat} {fn : Int} {p : PS} {e : Ex} {p' : PS} (h : pWindow L f fn p = some (e,p')) : Za p p' := by
  unfold pWindow at h
  obtain ⟨⟨ms,q4⟩,hm,hr⟩ := Option.map_eq_some_iff.1 h
  simp only [Prod.mk.injEq] at hr
  obtain ⟨-,rfl⟩ := hr
  exact ((((((Za.need L p [40]).trans (.token _ _ _)).trans (.match' hm)).trans (.need _ _ _)).trans (.token _ _ _)).trans (.need _ _ _)).trans (.need _ _ _)
structure Zas (L : List Tok) (f : Nat) : Prop where
  atom : ∀ p e p',pAtom L f p = some (e,p') → Za p p'
  step : ∀ op x d p e p',pStep L f op x d p = some (e,p') → Za p p'
  term : ∀ p e p',pTerm L f p = some (e,p') → Za p p'
  terms : ∀ x p e p',pTerms L f x p = some (e,p') → Za p p'
  sum : ∀ p e p',pSum L f p = some (e,p') → Za p p'
  sums : ∀ x p e p',pSums L f x p = some (e,p') → Za p p'
  expr : ∀ p e p',pExpr L f p = some (e,p') → Za p p'
theorem zas (L : List Tok) : ∀ f,Zas L f := by
  intro f
  induction f with
  | zero => exact ⟨fun p e p' h => by simp [pAtom] at h,fun op x d p e p' h => by simp [pStep] at h,fun p e p' h => by simp [pTerm] at h,fun x p e p' h => by simp [pTerms] at h,fun p e p' h => by simp [pSum] at h,fun x p e p' h => by simp [pSums] at h,fun p e p' h => by simp [pExpr] at h⟩
  | succ f ih =>
    refine ⟨?_,?_,?_,?_,?_,?_,?_⟩
    · intro p e p' h
      rw [pAtom] at h;have h2 := Za.take L p [40]
      split at h
      · obtain ⟨⟨e0,q⟩,h0,h1⟩ := Option.map_eq_some_iff.1 h
        simp only [Prod.mk.injEq] at h1;obtain ⟨-,rfl⟩ := h1;exact (h2.trans (ih.expr _ _ _ h0)).trans (.need _ _ _)
      · unfold atomRest at h
        split at h
        · simp only [Option.some.injEq,Prod.mk.injEq] at h
          obtain ⟨-,rfl⟩ := h;exact h2.trans (.fail _ _ _ (by decide))
        · split at h
          · exact (h2.trans (.on _)).trans (.window h)
          · cases hn : pNames L f (PS.need L { (p.take L [40]).2 with i := (p.take L [40]).2.i + 1 } [98,121]) with
            | none => rw [hn] at h;cases h
            | some y =>
              obtain ⟨ns,q⟩ := y;rw [hn] at h;obtain ⟨⟨e0,q2⟩,h0,h1⟩ := Option.map_eq_some_iff.1 h;simp only [Prod.mk.injEq] at h1;obtain ⟨-,rfl⟩ := h1;exact (((((h2.trans (.on _)).trans (.need _ _ _)).trans (.names hn)).trans (.need _ _ _)).trans (ih.expr _ _ _ h0)).trans (.need _ _ _)
    · intro op x d p e p' h
      rw [pStep] at h
      split at h
      · simp only [Option.some.injEq,Prod.mk.injEq] at h
        obtain ⟨-,rfl⟩ := h;exact .on _
      · simp only at h
        have h2 := Za.take L p [111,110];cases hn : (if (p.take L [111,110]).1 then pNames L f (p.take L [111,110]).2 else some ([],(p.take L [111,110]).2)) with
        | none => rw [hn] at h;cases h
        | some y =>
          obtain ⟨ns,q⟩ := y;rw [hn] at h;have hq : Za p q := by
            split at hn
            · exact h2.trans (.names hn)
            · simp only [Option.some.injEq,Prod.mk.injEq] at hn
              obtain ⟨-,rfl⟩ := hn;exact h2
          obtain ⟨⟨e0,q2⟩,h0,h1⟩ := Option.map_eq_some_iff.1 h;simp only [Prod.mk.injEq] at h1;obtain ⟨-,rfl⟩ := h1
          split at h0
          · exact hq.trans (ih.term _ _ _ h0)
          · exact hq.trans (ih.atom _ _ _ h0)
    · intro p e p' h
      rw [pTerm] at h;cases ha : pAtom L f p with
      | none => rw [ha] at h;cases h
      | some y => rw [ha] at h;exact (ih.atom _ _ _ ha).trans (ih.terms _ _ _ _ h)
    · intro x p e p' h
      rw [pTerms] at h;have h2 := Za.take L p [42]
      split at h
      · cases hs : pStep L f 3 x false (p.take L [42]).2 with
        | none => rw [hs] at h;cases h
        | some y => rw [hs] at h;exact (h2.trans (ih.step _ _ _ _ _ _ hs)).trans (ih.terms _ _ _ _ h)
      · simp only [Option.some.injEq,Prod.mk.injEq] at h
        obtain ⟨-,rfl⟩ := h;exact h2
    · intro p e p' h
      rw [pSum] at h;cases ha : pTerm L f p with
      | none => rw [ha] at h;cases h
      | some y => rw [ha] at h;exact (ih.term _ _ _ ha).trans (ih.sums _ _ _ _ h)
    · intro x p e p' h
      rw [pSums] at h;have h2 := Za.take L p [43]
      split at h
      · cases hs : pStep L f 1 x true (p.take L [43]).2 with
        | none => rw [hs] at h;cases h
        | some y => rw [hs] at h;exact (h2.trans (ih.step _ _ _ _ _ _ hs)).trans (ih.sums _ _ _ _ h)
      · have h3 := h2.trans (Za.take L (p.take L [43]).2 [45])
        simp only at h
        split at h
        · cases hs : pStep L f 2 x true ((p.take L [43]).2.take L [45]).2 with
          | none => rw [hs] at h;cases h
          | some y => rw [hs] at h;exact (h3.trans (ih.step _ _ _ _ _ _ hs)).trans (ih.sums _ _ _ _ h)
        · simp only [Option.some.injEq,Prod.mk.injEq] at h
          obtain ⟨-,rfl⟩ := h;exact h3
    · intro p e p' h
      rw [pExpr] at h;cases ha : pSum L f p with
      | none => rw [ha] at h;cases h
      | some y =>
        obtain ⟨x,q⟩ := y;rw [ha] at h;have h1 := ih.sum _ _ _ ha;have h2 := Za.cmp L cmpSigns 4 q;simp only at h;cases hc : pCmp L cmpSigns 4 q with
        | mk o q2 =>
          rw [hc] at h h2;cases o with
          | none =>
            simp only [Option.some.injEq,Prod.mk.injEq] at h;obtain ⟨-,rfl⟩ := h;exact h1.trans h2
          | some op =>
            simp only [Option.some.injEq,Prod.mk.injEq] at h;obtain ⟨-,rfl⟩ := h;exact (h1.trans h2).trans (.token _ _ _)
end Go.Proofs.YtpmbamfpmmdhcaaGreat
