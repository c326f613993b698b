/- Slices of whole numbers; an argument that is one. -/
import Derived.Test.YtpmbamfpmmdhcaaGreatK0
import Derived.BigGuardPart
import Derived.Deep.WholeRow
import Derived.KernelRfl
import Derived.Lib.Hide
import Derived.RangeFuncBox
import Derived.WalkKit
import Derived.WalkLawsBesides
import Derived.WalkSpells
import Derived.Laws.AppendOwnNone
import Derived.Laws.OwnMore
import Derived.Maps.AppendAt
import Derived.OwnWalk
import Derived.OwnWalkIn
import Derived.RegionTactic
import Derived.Test.YtpmbamfpmmdhcaaGreatK11
import Derived.Laws.IdiomStrings
import Derived.Lib.BufferRead
import Derived.Test.YtpmbamfpmmdhcaaGreatK12
import Derived.Test.YtpmbamfpmmdhcaaGreatProg
import Derived.ChangeArms
import Derived.Test.YtpmbamfpmmdhcaaGreatK42
import Derived.Test.YtpmbamfpmmdhcaaGreatK7
import Derived.Test.YtpmbamfpmmdhcaaGreatK54
import Derived.Test.YtpmbamfpmmdhcaaGreatK55
import Derived.Lib.ItoaNum
import Derived.Lib.ItoaLen
import Derived.Lib.Join
set_option maxRecDepth 100000
set_option maxHeartbeats 16000000
set_option linter.unusedSimpArgs false
set_option linter.unusedVariables false
namespace Go.Proofs.YtpmbamfpmmdhcaaGreat
open Go.RowKit
set_option linter.unusedSimpArgs false
set_option linter.unusedVariables false
def quoteL (l : List UInt8) : List UInt8 := 34 :: qs l ++ [34]
theorem qs_snoc (l : List UInt8) (c : UInt8) : qs (l ++ [c]) = qs l ++ qc c := by simp [qs]
theorem qc_length (c : UInt8) : 1 ≤ (qc c).length ∧ (qc c).length ≤ 4 := by unfold qc; (repeat' split) <;> simp
theorem qs_length (l : List UInt8) : (qs l).length ≤ 4 * l.length := by
  induction l with
  | nil => simp [qs]
  | cons c l ih => have := (qc_length c).2; simp only [qs, List.flatMap_cons, List.length_append, List.length_cons] at *; omega
theorem quoteL_length (l : List UInt8) : (quoteL l).length ≤ 4 * l.length + 2 := by have := qs_length l; simp [quoteL]; omega
theorem qc_two {c : UInt8} (h : c.toNat = 92 ∨ c.toNat = 34) : qc c = [92, c] := by
  unfold qc; rw [if_pos]
  rcases h with h | h
  · left; exact UInt8.toNat_inj.1 h
  · right; exact UInt8.toNat_inj.1 h
theorem qc_four {c : UInt8} (h : ¬ (c.toNat = 92 ∨ c.toNat = 34)) (h2 : c.toNat < 32 ∨ 126 < c.toNat) : qc c = [92, 120, hexAt (c.toNat / 16), hexAt (c.toNat % 16)] := by
  unfold qc
  rw [if_neg (by rintro (rfl | rfl) <;> exact h (by decide)), if_pos]
  rcases h2 with h2 | h2
  · left; exact UInt8.lt_iff_toNat_lt.2 h2
  · right; exact UInt8.lt_iff_toNat_lt.2 h2
theorem qc_one {c : UInt8} (h : ¬ (c.toNat = 92 ∨ c.toNat = 34)) (h2 : ¬ (c.toNat < 32 ∨ 126 < c.toNat)) : qc c = [c] := by
  unfold qc
  rw [if_neg (by rintro (rfl | rfl) <;> exact h (by decide)), if_neg]
  rintro (h3 | h3)
  · exact h2 (.inl (UInt8.lt_iff_toNat_lt.1 h3))
  · exact h2 (.inr (UInt8.lt_iff_toNat_lt.1 h3))
theorem take_snoc' (s : ByteArray) (k : Nat) (h : k < s.size) : s.data.toList.take (k + 1) = s.data.toList.take k ++ [s[k]] := by
  rw [List.take_succ_eq_append_getElem (by simpa using h)]; rfl
/-! ### lists -/
theorem ret_string {a b : ByteArray} (h : a = b) : Ending.returned (.string a) = .returned (.string b) := by rw [h]
/-! ### results that lie in memory -/
theorem Blk.drewN {w : World} {g t : Nat} {cs : List Value} (h : Blk w g t cs) (n : Nat) : Blk (w.drewN n) g t cs := h
section
variable {P : Program} (w : World)
end
theorem one_back (w : World) (c : UInt8) : (convert 45 9 (.slice (some ⟨w.heap.size, 0, none⟩) 1 1)).run Tryz.prog (w.alloc (.cells #[.int .u8 (c.toNat : Int)] 5)) = .ok (.string ⟨#[c]⟩) (w.alloc (.cells #[.int .u8 (c.toNat : Int)] 5)) :=
  run_convert_bytes_back _ _ _ 5 _ 1 [c] Tryz.underlying45 Tryz.underlying5 Tryz.underlying9 (fun j hj => by
    have : j = 0 := by simpa using hj
    subst this
    exact one_new w _ _ 0 _ rfl)
/-! ### runs -/
/-! ### textAt, one byte after the other -/
/-! ### scan does not hang on its fuel -/
end Go.Proofs.YtpmbamfpmmdhcaaGreat
namespace Go.Proofs.YtpmbamfpmmdhcaaGreat
set_option maxRecDepth 100000
open Go.ChangeShapes Go.WideShapes Go.ChangeAt Go.RowKit
set_option linter.unusedVariables false
theorem list_choose {α β : Type} {R : α → β → Prop} : ∀ (l : List α), (∀ a ∈ l, ∃ b, R a b) → ∃ m : List β, m.length = l.length ∧ ∀ (k : Nat) (a : α) (b : β), l[k]? = some a → m[k]? = some b → R a b
  | [], _ => ⟨[], rfl, fun k a b h _ => by simp at h⟩
  | a :: l, h => by
    obtain ⟨b, hb⟩ := h a (by simp)
    obtain ⟨m, hm, hR⟩ := list_choose l (fun x hx => h x (by simp [hx]))
    refine ⟨b :: m, by simp [hm], fun k x y hx hy => ?_⟩
    cases k with
    | zero => simp at hx hy; subst hx hy; exact hb
    | succ k => exact hR k x y (by simpa using hx) (by simpa using hy)
theorem addr_none {w : World} {a : Addr} {v : Value} (h : w.cell? a = some v) : a = ⟨a.block, a.off, none⟩ := by
  obtain ⟨b, o, s⟩ := a
  cases s with
  | none => rfl
  | some s =>
    simp only [World.cell?] at h
    split at h <;> simp_all
section
variable {H : Type} {enc : TypeId × Value → H} {P : Program} {w : World} {base : Nat} {spare : Nat → Bool} {held : Bool} {fuel : Nat} {x : DataW H × List MemPlace}
theorem arr_of_trod {t e : TypeId} {sz : Nat} {v : Value} (ht : P.underlying t = some (.slice e)) (hC : P.cellsOf e = sz) (hsz : 0 < sz) (h : DataW.trod enc P w base spare held fuel t [v] = some x) :
    ∃ rows : List (List Value), Arr w.heap.size w v sz rows ∧ (∀ r ∈ rows, r.length = sz) ∧ ∃ n, n < fuel ∧ ∀ r ∈ rows, ∃ y, DataW.trod enc P w base spare held n e r = some y := by
  subst hC
  rcases DataW.trod_slice ht h with ⟨hv, _⟩ | ⟨a, len, cap, elems, rest, n, rfl, hv, _, hbase, hlc, hcm, hlen, hel, _⟩
  · have hv : v = .slice none 0 0 := by simpa using hv
    subst hv
    refine ⟨[], Arr.nil _ _ _, by simp, fuel - 1, ?_, by simp⟩
    cases fuel with
    | zero => simp [DataW.trod] at h
    | succ n => omega
  · have hv : v = .slice (some a) len cap := by simpa using hv
    subst hv
    have hrow : ∀ i, i < len → ∃ r y, w.cells? base (a.add (i * P.cellsOf e)) (P.cellsOf e) = some r ∧ DataW.trod enc P w base spare held n e r = some y := by
      intro i hi
      have h1 := hel i hi
      rw [List.getElem?_eq_getElem (by omega)] at h1
      cases hc : w.cells? base (a.add (i * P.cellsOf e)) (P.cellsOf e) with
      | none => rw [hc] at h1; cases h1
      | some r => rw [hc] at h1; exact ⟨r, _, rfl, h1⟩
    obtain ⟨rows, hrl, hR⟩ := list_choose (R := fun i r => i < len → ∃ y, w.cells? base (a.add (i * P.cellsOf e)) (P.cellsOf e) = some r ∧ DataW.trod enc P w base spare held n e r = some y) (List.range len)
      (fun i hi => by
        obtain ⟨r, y, h1, h2⟩ := hrow i (by simpa using hi)
        exact ⟨r, fun _ => ⟨y, h1, h2⟩⟩)
    have hrl : rows.length = len := by simpa using hrl
    have hR' : ∀ (k : Nat) (r : List Value), rows[k]? = some r → ∃ y, w.cells? base (a.add (k * P.cellsOf e)) (P.cellsOf e) = some r ∧ DataW.trod enc P w base spare held n e r = some y := by
      intro k r hr
      have hk : k < len := by have := (List.getElem?_eq_some_iff.1 hr).1; omega
      exact hR k k r (by simp [hk]) hr hk
    refine ⟨rows, ⟨some a, cap, by rw [hrl], by omega, hcm, fun hne => ?_⟩, ?_, n, by omega, ?_⟩
    · have h0 : 0 < rows.length := List.length_pos_iff.2 hne
      obtain ⟨y, hc, _⟩ := hR' 0 rows[0] (by simp)
      obtain ⟨_, hl, hg⟩ := World.cells?_some hc
      have hc0 := hg 0 (by omega)
      rw [List.getElem?_eq_getElem (by omega)] at hc0
      simp only [Nat.zero_mul] at hc0
      have ha : a = ⟨a.block, a.off, none⟩ := addr_none (show w.cell? a = _ from hc0)
      refine ⟨a.block, a.off, by rw [← ha], ?_, fun k r hr j u hu => ?_⟩
      · exact World.block_lt_of_cell? w a hc0
      · obtain ⟨y, hc, _⟩ := hR' k r hr
        obtain ⟨_, hl, hg⟩ := World.cells?_some hc
        have hj : j < P.cellsOf e := by have := (List.getElem?_eq_some_iff.1 hu).1; omega
        have h2 := hg j hj
        rw [hu] at h2
        rw [← h2]
        congr 1
        rw [ha]
        unfold Addr.add
        by_cases h1 : k * P.cellsOf e = 0 <;> by_cases h3 : j = 0 <;> simp [h1, h3] <;> omega
    · intro r hr
      obtain ⟨k, hk, rfl⟩ := List.getElem_of_mem hr
      obtain ⟨y, hc, _⟩ := hR' k rows[k] (by simp)
      exact (World.cells?_some hc).2.1
    · intro r hr
      obtain ⟨k, hk, rfl⟩ := List.getElem_of_mem hr
      obtain ⟨y, _, h2⟩ := hR' k rows[k] (by simp)
      exact ⟨y, h2⟩
end
section
variable {H : Type} {enc : TypeId × Value → H} {w : World} {base : Nat} {spare : Nat → Bool} {held : Bool} {fuel : Nat} {x : DataW H × List MemPlace}
end
def PosIn (L : List Tok) (b : Int) : Prop := ∀ i, 0 ≤ (L.getD i ⟨5, [], 0, 0⟩).pos ∧ (L.getD i ⟨5, [], 0, 0⟩).pos ≤ b
theorem PosIn.tok {L : List Tok} {b : Int} (h : PosIn L b) (p : PS) : 0 ≤ (p.tok L).pos ∧ (p.tok L).pos ≤ b := h p.i
def Ba (b : Int) (p q : PS) : Prop := (0 ≤ p.at' ∧ p.at' ≤ b) → 0 ≤ q.at' ∧ q.at' ≤ b
theorem Ba.refl (b : Int) (p : PS) : Ba b p p := fun h => h
theorem Ba.trans {b : Int} {p q r : PS} (h : Ba b p q) (k : Ba b q r) : Ba b p r := fun hr => k (h hr)
theorem Ba.fail {b : Int} (p : PS) (e a : Int) (ha : 0 ≤ a ∧ a ≤ b) : Ba b p (p.fail e a) := fun h => by
  unfold PS.fail
  split
  · exact ha
  · exact h
theorem Ba.on {b : Int} (p : PS) : Ba b p { p with i := p.i + 1 } := fun h => h
section
variable {b : Int}
theorem Ba.take (L : List Tok) (p : PS) (s : List UInt8) (hL : PosIn L b := by assumption) : Ba b p (p.take L s).2 := by
  unfold PS.take
  split
  · split
    · split
      · exact .fail _ _ _ (hL.tok _)
      · exact fun h => h
    · split <;> exact fun h => h
  · exact .refl _ _
theorem Ba.need (L : List Tok) (p : PS) (s : List UInt8) (hL : PosIn L b := by assumption) : Ba b p (p.need L s) := by
  unfold PS.need
  split
  · exact .take _ _ _
  · exact (Ba.take _ _ _).trans (.fail _ _ _ (hL.tok _))
theorem Ba.token (L : List Tok) (p : PS) (k : Int) (hL : PosIn L b := by assumption) : Ba b p (p.token L k).2 := by
  unfold PS.token
  split
  · exact .on _
  · exact .fail _ _ _ (hL.tok _)
theorem Ba.namesF (L : List Tok) (hL : PosIn L b) : ∀ (f : Nat) (p : PS) (out r : List (List UInt8)) (p' : PS), Go.Proofs.YtpmbamfpmmdhcaaGreat.namesF L f p out = some (r, p') → Ba b p p'
  | 0, p, out, r, p', h => by simp [Go.Proofs.YtpmbamfpmmdhcaaGreat.namesF] at h
  | f + 1, p, out, r, p', h => by
    rw [Go.Proofs.YtpmbamfpmmdhcaaGreat.namesF] at h
    split at h
    · simp only at h
      have h1 := (Ba.token L p 1).trans (Ba.take L (p.token L 1).2 [44])
      split at h
      · exact h1.trans (Ba.namesF L hL f _ _ _ _ h)
      · simp only [Option.some.injEq, Prod.mk.injEq] at h
        obtain ⟨-, rfl⟩ := h
        exact h1
    · simp only [Option.some.injEq, Prod.mk.injEq] at h
      obtain ⟨-, rfl⟩ := h
      exact .refl _ _
theorem Ba.names {L : List Tok} {f : Nat} {p : PS} {r : List (List UInt8)} {p' : PS} (h : pNames L f p = some (r, p')) (hL : PosIn L b := by assumption) : Ba b p p' := by
  unfold pNames at h
  have h1 := (Ba.need L p [40]).trans (Ba.take L (p.need L [40]) [41])
  simp only at h
  split at h
  · simp only [Option.some.injEq, Prod.mk.injEq] at h
    obtain ⟨-, rfl⟩ := h
    exact h1
  · obtain ⟨⟨r0, p0⟩, h0, h2⟩ := Option.map_eq_some_iff.1 h
    simp only [Prod.mk.injEq] at h2
    obtain ⟨-, rfl⟩ := h2
    exact (h1.trans (Ba.namesF L hL f _ _ _ _ h0)).trans (.need _ _ _)
theorem Ba.one (L : List Tok) (p : PS) (hL : PosIn L b := by assumption) : Ba b p (pOne L p).2 := by
  unfold pOne
  simp only
  refine (Ba.token L p 1).trans ?_
  split
  · exact (Ba.take L _ _).trans (.token _ _ _)
  · exact ((Ba.take L _ _).trans (.need _ _ _)).trans (.token _ _ _)
theorem Ba.matsF (L : List Tok) (hL : PosIn L b) : ∀ (f : Nat) (p : PS) (out r : List Mat) (p' : PS), Go.Proofs.YtpmbamfpmmdhcaaGreat.matsF L f p out = some (r, p') → Ba b p p'
  | 0, p, out, r, p', h => by simp [Go.Proofs.YtpmbamfpmmdhcaaGreat.matsF] at h
  | f + 1, p, out, r, p', h => by
    rw [Go.Proofs.YtpmbamfpmmdhcaaGreat.matsF] at h
    split at h
    · simp only at h
      have h1 := (Ba.one L p).trans (Ba.take L (pOne L p).2 [44])
      split at h
      · exact h1.trans (Ba.matsF L hL f _ _ _ _ h)
      · simp only [Option.some.injEq, Prod.mk.injEq] at h
        obtain ⟨-, rfl⟩ := h
        exact h1
    · simp only [Option.some.injEq, Prod.mk.injEq] at h
      obtain ⟨-, rfl⟩ := h
      exact .refl _ _
theorem Ba.match' {L : List Tok} {f : Nat} {p : PS} {r : List Mat} {p' : PS} (h : pMatch L f p = some (r, p')) (hL : PosIn L b := by assumption) : Ba b p p' := by
  unfold pMatch at h
  have h1 := Ba.take L p [123]
  simp only at h
  split at h
  · have h2 := h1.trans (Ba.take L (p.take L [123]).2 [125])
    split at h
    · simp only [Option.some.injEq, Prod.mk.injEq] at h
      obtain ⟨-, rfl⟩ := h
      exact h2
    · obtain ⟨⟨r0, p0⟩, h0, h3⟩ := Option.map_eq_some_iff.1 h
      simp only [Prod.mk.injEq] at h3
      obtain ⟨-, rfl⟩ := h3
      exact (h2.trans (Ba.matsF L hL f _ _ _ _ h0)).trans (.need _ _ _)
  · simp only [Option.some.injEq, Prod.mk.injEq] at h
    obtain ⟨-, rfl⟩ := h
    exact h1
theorem Ba.cmp (L : List Tok) (hL : PosIn L b) : ∀ (l : List (List UInt8)) (k : Int) (p : PS), Ba b p (pCmp L l k p).2
  | [], k, p => .refl _ _
  | s :: r, k, p => by
    unfold pCmp
    split
    · exact .take _ _ _
    · exact (Ba.take L p s).trans (Ba.cmp L hL r (k + 1) _)
theorem Ba.window {L : List Tok} {f : Nat} {fn : Int} {p : PS} {e : Ex} {p' : PS} (h : pWindow L f fn p = some (e, p')) (hL : PosIn L b := by assumption) : Ba b p p' := by
  unfold pWindow at h
  obtain ⟨⟨ms, q4⟩, hm, hr⟩ := Option.map_eq_some_iff.1 h
  simp only [Prod.mk.injEq] at hr
  obtain ⟨-, rfl⟩ := hr
  exact ((((((Ba.need L p [40]).trans (.token _ _ _)).trans (.match' hm)).trans (.need _ _ _)).trans (.token _ _ _)).trans (.need _ _ _)).trans (.need _ _ _)
structure Bas (b : Int) (L : List Tok) (f : Nat) : Prop where
  atom : ∀ p e p', pAtom L f p = some (e, p') → Ba b p p'
  step : ∀ op x d p e p', pStep L f op x d p = some (e, p') → Ba b p p'
  term : ∀ p e p', pTerm L f p = some (e, p') → Ba b p p'
  terms : ∀ x p e p', pTerms L f x p = some (e, p') → Ba b p p'
  sum : ∀ p e p', pSum L f p = some (e, p') → Ba b p p'
  sums : ∀ x p e p', pSums L f x p = some (e, p') → Ba b p p'
  expr : ∀ p e p', pExpr L f p = some (e, p') → Ba b p p'
theorem bas (L : List Tok) (hL : PosIn L b) : ∀ f, Bas b L f := by
  intro f
  induction f with
  | zero => exact ⟨fun p e p' h => by simp [pAtom] at h, fun op x d p e p' h => by simp [pStep] at h, fun p e p' h => by simp [pTerm] at h, fun x p e p' h => by simp [pTerms] at h, fun p e p' h => by simp [pSum] at h, fun x p e p' h => by simp [pSums] at h, fun p e p' h => by simp [pExpr] at h⟩
  | succ f ih =>
    refine ⟨?_, ?_, ?_, ?_, ?_, ?_, ?_⟩
    · intro p e p' h
      rw [pAtom] at h
      have h2 := Ba.take L p [40]
      split at h
      · obtain ⟨⟨e0, q⟩, h0, h1⟩ := Option.map_eq_some_iff.1 h
        simp only [Prod.mk.injEq] at h1
        obtain ⟨-, rfl⟩ := h1
        exact (h2.trans (ih.expr _ _ _ h0)).trans (.need _ _ _)
      · unfold atomRest at h
        split at h
        · simp only [Option.some.injEq, Prod.mk.injEq] at h
          obtain ⟨-, rfl⟩ := h
          exact h2.trans (.fail _ _ _ (hL.tok _))
        · split at h
          · exact (h2.trans (.on _)).trans (.window h)
          · cases hn : pNames L f (PS.need L { (p.take L [40]).2 with i := (p.take L [40]).2.i + 1 } [98, 121]) with
            | none => rw [hn] at h; cases h
            | some y =>
              obtain ⟨ns, q⟩ := y
              rw [hn] at h
              obtain ⟨⟨e0, q2⟩, h0, h1⟩ := Option.map_eq_some_iff.1 h
              simp only [Prod.mk.injEq] at h1
              obtain ⟨-, rfl⟩ := h1
              exact (((((h2.trans (.on _)).trans (.need _ _ _)).trans (.names hn)).trans (.need _ _ _)).trans (ih.expr _ _ _ h0)).trans (.need _ _ _)
    · intro op x d p e p' h
      rw [pStep] at h
      split at h
      · simp only [Option.some.injEq, Prod.mk.injEq] at h
        obtain ⟨-, rfl⟩ := h
        exact .on _
      · simp only at h
        have h2 := Ba.take L p [111, 110]
        cases hn : (if (p.take L [111, 110]).1 then pNames L f (p.take L [111, 110]).2 else some ([], (p.take L [111, 110]).2)) with
        | none => rw [hn] at h; cases h
        | some y =>
          obtain ⟨ns, q⟩ := y
          rw [hn] at h
          have hq : Ba b p q := by
            split at hn
            · exact h2.trans (.names hn)
            · simp only [Option.some.injEq, Prod.mk.injEq] at hn
              obtain ⟨-, rfl⟩ := hn
              exact h2
          obtain ⟨⟨e0, q2⟩, h0, h1⟩ := Option.map_eq_some_iff.1 h
          simp only [Prod.mk.injEq] at h1
          obtain ⟨-, rfl⟩ := h1
          split at h0
          · exact hq.trans (ih.term _ _ _ h0)
          · exact hq.trans (ih.atom _ _ _ h0)
    · intro p e p' h
      rw [pTerm] at h
      cases ha : pAtom L f p with
      | none => rw [ha] at h; cases h
      | some y => rw [ha] at h; exact (ih.atom _ _ _ ha).trans (ih.terms _ _ _ _ h)
    · intro x p e p' h
      rw [pTerms] at h
      have h2 := Ba.take L p [42]
      split at h
      · cases hs : pStep L f 3 x false (p.take L [42]).2 with
        | none => rw [hs] at h; cases h
        | some y => rw [hs] at h; exact (h2.trans (ih.step _ _ _ _ _ _ hs)).trans (ih.terms _ _ _ _ h)
      · simp only [Option.some.injEq, Prod.mk.injEq] at h
        obtain ⟨-, rfl⟩ := h
        exact h2
    · intro p e p' h
      rw [pSum] at h
      cases ha : pTerm L f p with
      | none => rw [ha] at h; cases h
      | some y => rw [ha] at h; exact (ih.term _ _ _ ha).trans (ih.sums _ _ _ _ h)
    · intro x p e p' h
      rw [pSums] at h
      have h2 := Ba.take L p [43]
      split at h
      · cases hs : pStep L f 1 x true (p.take L [43]).2 with
        | none => rw [hs] at h; cases h
        | some y => rw [hs] at h; exact (h2.trans (ih.step _ _ _ _ _ _ hs)).trans (ih.sums _ _ _ _ h)
      · have h3 := h2.trans (Ba.take L (p.take L [43]).2 [45])
        simp only at h
        split at h
        · cases hs : pStep L f 2 x true ((p.take L [43]).2.take L [45]).2 with
          | none => rw [hs] at h; cases h
          | some y => rw [hs] at h; exact (h3.trans (ih.step _ _ _ _ _ _ hs)).trans (ih.sums _ _ _ _ h)
        · simp only [Option.some.injEq, Prod.mk.injEq] at h
          obtain ⟨-, rfl⟩ := h
          exact h3
    · intro p e p' h
      rw [pExpr] at h
      cases ha : pSum L f p with
      | none => rw [ha] at h; cases h
      | some y =>
        obtain ⟨x, q⟩ := y
        rw [ha] at h
        have h1 := ih.sum _ _ _ ha
        have h2 := Ba.cmp L hL cmpSigns 4 q
        simp only at h
        cases hc : pCmp L cmpSigns 4 q with
        | mk o q2 =>
          rw [hc] at h h2
          cases o with
          | none =>
            simp only [Option.some.injEq, Prod.mk.injEq] at h
            obtain ⟨-, rfl⟩ := h
            exact h1.trans h2
          | some op =>
            simp only [Option.some.injEq, Prod.mk.injEq] at h
            obtain ⟨-, rfl⟩ := h
            exact (h1.trans h2).trans (.token _ _ _)
theorem Ba.done {L : List Tok} (p : PS) (c : Int) (hL : PosIn L b) (h0 : 0 ≤ b) : Ba b p (p.done L c) := by
  have ho : Ba b p (p.over L) := by
    unfold PS.over
    split
    · exact .fail _ _ _ (hL.tok _)
    · exact .refl _ _
  unfold PS.done
  split
  · exact ho
  · exact ho.trans (.fail _ _ _ ⟨Int.le_refl _, h0⟩)
end
/-! ### quotes -/
theorem hex_fin : ∀ n : Fin 16, hexC (hexAt n.val) = true ∧ hexV (hexAt n.val) = n.val := by decide +kernel
theorem textAt_qc (c : UInt8) (r : List UInt8) : textAt (qc c ++ r) = (textAt r).map fun x => (c :: x.1, x.2 + (qc c).length) := by
  by_cases h1 : c.toNat = 92 ∨ c.toNat = 34
  · rw [qc_two h1]
    show textAt (92 :: c :: r) = _
    rw [textAt_esc r (h1.imp (fun h => UInt8.toNat_inj.1 h) (fun h => UInt8.toNat_inj.1 h))]; rfl
  by_cases h2 : c.toNat < 32 ∨ 126 < c.toNat
  · rw [qc_four h1 h2]
    have hlt := c.toNat_lt
    obtain ⟨a1, a2⟩ := hex_fin ⟨c.toNat / 16, by omega⟩
    obtain ⟨b1, b2⟩ := hex_fin ⟨c.toNat % 16, by omega⟩
    simp only at a1 a2 b1 b2
    show textAt (92 :: 120 :: hexAt (c.toNat / 16) :: hexAt (c.toNat % 16) :: r) = _
    rw [textAt_hex r a1 b1, a2, b2, show 16 * (c.toNat / 16) + c.toNat % 16 = c.toNat by omega, UInt8.ofNat_toNat]; rfl
  · rw [qc_one h1 h2]
    show textAt (c :: r) = _
    rw [textAt_plain r (fun e => h1 (.inr (by rw [e]; rfl))) (by rw [UInt8.le_iff_toNat_le]; show 32 ≤ _; omega) (by rw [UInt8.le_iff_toNat_le]; show _ ≤ 126; omega) (fun e => h1 (.inl (by rw [e]; rfl)))]; rfl
theorem textAt_qs : ∀ (l r : List UInt8), textAt (qs l ++ 34 :: r) = some (l, (qs l).length + 1)
  | [], r => textAt_quote r
  | c :: l, r => by
    rw [show qs (c :: l) = qc c ++ qs l from rfl, List.append_assoc, textAt_qc, textAt_qs l r]
    simp; omega
/-! ### numerals -/
theorem decV_push (l : List UInt8) (c : UInt8) : decV (l ++ [c]) = decV l * 10 + (c.toNat - 48) := by simp [decV]
theorem decV_pos {c : UInt8} {r : List UInt8} (hd : dgC c = true) (h : c ≠ 48) : 1 ≤ decV (c :: r) := by
  have key : ∀ (r : List UInt8) (n : Nat), 1 ≤ n → 1 ≤ r.foldl (fun n c => n * 10 + (c.toNat - 48)) n := by
    intro r
    induction r with
    | nil => intro n h; exact h
    | cons d r ih => intro n h; exact ih (n * 10 + (d.toNat - 48)) (by omega)
  refine key r (0 * 10 + (c.toNat - 48)) ?_
  simp [dgC, UInt8.le_iff_toNat_le] at hd
  have : c.toNat ≠ 48 := fun e => h (UInt8.toNat_inj.1 e)
  have h48 : (48 : UInt8).toNat = 48 := rfl
  omega
theorem dg_range {c : UInt8} (h : dgC c = true) : 48 ≤ c.toNat ∧ c.toNat ≤ 57 := by
  simp [dgC, UInt8.le_iff_toNat_le] at h; exact h
theorem dec_back : ∀ (n : Nat) (l : List UInt8), l.length = n → l ≠ [] → l.all dgC = true → (headIs (· == 48) l = false ∨ l.length = 1) → Lib.decDigits (decV l) = l := by
  intro n
  induction n using Nat.strongRecOn with
  | ind n ih =>
    intro l hn h0 ha hz
    obtain ⟨q, c, rfl⟩ : ∃ q c, l = q ++ [c] := ⟨l.dropLast, l.getLast h0, (List.dropLast_concat_getLast h0).symm⟩
    simp only [List.all_append, List.all_cons, List.all_nil, Bool.and_true, Bool.and_eq_true] at ha
    obtain ⟨hc1, hc2⟩ := dg_range ha.2
    rw [decV_push]
    cases q with
    | nil =>
      rw [show decV [] = 0 from rfl, Lib.decDigits_one (by omega)]
      simp only [List.nil_append, List.cons.injEq, and_true]
      rw [show 48 + (0 * 10 + (c.toNat - 48)) = c.toNat by omega, UInt8.ofNat_toNat]
    | cons d q =>
      have hd : headIs (· == 48) (d :: q) = false := by
        rcases hz with hz | hz
        · simpa [headIs] using hz
        · simp at hz
      have hd' : d ≠ 48 := by simpa [headIs] using hd
      simp only [List.all_cons, Bool.and_eq_true] at ha
      have hp := decV_pos (r := q) ha.1.1 hd'
      rw [Lib.decDigits, dif_neg (by omega), show (decV (d :: q) * 10 + (c.toNat - 48)) / 10 = decV (d :: q) by omega, show (decV (d :: q) * 10 + (c.toNat - 48)) % 10 = c.toNat - 48 by omega,
        ih (d :: q).length (by rw [← hn]; simp) (d :: q) rfl (by simp) (by simp [ha.1]) (.inl hd)]
      rw [show 48 + (c.toNat - 48) = c.toNat by omega, UInt8.ofNat_toNat]
theorem itoa_back (c : UInt8) (r : List UInt8) (hc : dgC c = true ∨ c = 45) (hr : r.all dgC = true) (h : wholeOk (c :: r) = true) : Lib.itoa (wholeV (c :: r)) = c :: r := by
  unfold wholeOk at h
  unfold wholeV
  by_cases h45 : c = 45
  · subst h45
    simp at h
    obtain ⟨⟨h1, h2⟩, _⟩ := h
    have hp : 1 ≤ decV r := by
      match r, h1, h2, hr with
      | d :: r, _, h2, hr => simp [headIs] at h2; simp only [List.all_cons, Bool.and_eq_true] at hr; exact decV_pos hr.1 h2
    simp only [beq_self_eq_true, if_true]
    unfold Lib.itoa
    rw [if_pos (by omega), show (-(decV r : Int)).natAbs = decV r by omega, dec_back _ r rfl h1 hr (.inl h2)]
  · have hb : (c == 45) = false := by simp [h45]
    simp only [hb, Bool.false_eq_true, if_false, Bool.and_eq_true, decide_eq_true_eq] at h
    have hd : dgC c = true := hc.resolve_right h45
    simp only [hb, Bool.false_eq_true, if_false]
    unfold Lib.itoa
    rw [if_neg (by omega), show ((decV (c :: r) : Nat) : Int).toNat = decV (c :: r) by omega]
    refine dec_back _ (c :: r) rfl (by simp) (by simp [hd]; simpa using hr) ?_
    have h1 := h.1
    simp only [Bool.or_eq_true, Bool.not_eq_true', beq_iff_eq] at h1
    rcases h1 with h1 | h1
    · left; simpa [headIs] using h1
    · right; subst h1; rfl
/-! ### tokens -/
def tokText (t : Tok) : List UInt8 := if t.kind = 3 then quoteL t.text else if t.kind = 2 then Lib.itoa t.num else t.text
def joinToks (l : List Tok) : List UInt8 := Lib.join (l.map tokText) [32]
theorem runN_front {p : UInt8 → Bool} : ∀ (l : List UInt8) {x : UInt8} (t : List UInt8), l.all p = true → p x = false → runN p (l ++ x :: t) = l.length
  | [], x, t, _, h => by simp [runN, h]
  | c :: r, x, t, ha, h => by
    simp only [List.all_cons, Bool.and_eq_true] at ha
    simp only [List.cons_append, runN, ha.1, if_true, List.length_cons]
    rw [runN_front r t ha.2 h]
theorem let_facts {c : UInt8} (h : letC c = true) : blankC c = false ∧ c ≠ 35 ∧ wordC c = true := by
  refine ⟨?_, ?_, by simp [wordC, h]⟩
  · cases hb : blankC c with
    | false => rfl
    | true =>
      simp [blankC] at hb
      rcases hb with ((rfl | rfl) | rfl) | rfl <;> simp [letC] at h
  · rintro rfl; simp [letC] at h
theorem dg_facts {c : UInt8} (h : dgC c = true ∨ c = 45) : blankC c = false ∧ c ≠ 35 ∧ c ≠ 34 ∧ letC c = false := by
  rcases h with h | rfl
  · have key : ∀ d : Fin 256, dgC (UInt8.ofNat d.val) = true → blankC (UInt8.ofNat d.val) = false ∧ UInt8.ofNat d.val ≠ 35 ∧ UInt8.ofNat d.val ≠ 34 ∧ letC (UInt8.ofNat d.val) = false := by decide +kernel
    have := key ⟨c.toNat, c.toNat_lt⟩
    simp only [UInt8.ofNat_toNat] at this
    exact this h
  · decide
theorem sign_facts {c : UInt8} (h : signC c = true ∨ pairC c = true) : blankC c = false ∧ c ≠ 35 ∧ c ≠ 34 ∧ letC c = false ∧ dgC c = false := by
  have key : ∀ d : Fin 256, (signC (UInt8.ofNat d.val) = true ∨ pairC (UInt8.ofNat d.val) = true) → blankC (UInt8.ofNat d.val) = false ∧ UInt8.ofNat d.val ≠ 35 ∧ UInt8.ofNat d.val ≠ 34 ∧ letC (UInt8.ofNat d.val) = false ∧ dgC (UInt8.ofNat d.val) = false := by decide +kernel
  have := key ⟨c.toNat, c.toNat_lt⟩
  simp only [UInt8.ofNat_toNat] at this
  exact this h
theorem pair_not {c : UInt8} (h : pairC c = true) : c ≠ 45 := by rintro rfl; simp [pairC] at h
theorem tokAt_back {free : Bool} {l : List UInt8} {t : Tok} {n : Nat} (h : tokAt free l = some (t, n)) (u : List UInt8) :
    ∃ c q, tokText t = c :: q ∧ blankC c = false ∧ c ≠ 35 ∧ tokAt free (c :: q ++ 32 :: u) = some (t, (c :: q).length) := by
  match l, h with
  | [], h => cases h
  | c :: r, h =>
    simp only [tokAt] at h
    split at h
    · rename_i hc
      split at h
      · rename_i hn
        cases h
        obtain ⟨f1, f2, f3⟩ := let_facts hc
        refine ⟨c, r.take (runN wordC r), by simp [tokText], f1, f2, ?_⟩
        have e : runN wordC (r.take (runN wordC r) ++ 32 :: u) = runN wordC r := by
          rw [runN_front _ u (runN_all wordC r) (by decide), List.length_take, Nat.min_eq_left (runN_le wordC r)]
        have hl : (r.take (runN wordC r)).length = runN wordC r := by rw [List.length_take, Nat.min_eq_left (runN_le wordC r)]
        simp only [List.cons_append, tokAt, hc, if_true, e, hn]
        simp [hl]
      · cases h
    · rename_i hc
      split at h
      · rename_i hq
        obtain rfl : c = 34 := by simpa using hq
        cases hh : textAt r with
        | none => rw [hh] at h; cases h
        | some y =>
          obtain ⟨y, m⟩ := y
          rw [hh] at h
          simp only at h
          split at h
          · rename_i h64
            cases h
            refine ⟨34, qs y ++ [34], by simp [tokText, quoteL], by decide, by decide, ?_⟩
            have e : textAt (qs y ++ [34] ++ 32 :: u) = some (y, (qs y).length + 1) := by rw [List.append_assoc]; exact textAt_qs y (32 :: u)
            simp only [List.cons_append, tokAt, e]
            simp [h64, letC]
          · cases h
      · rename_i hq
        split at h
        · rename_i hd
          split at h
          · rename_i hw
            cases h
            simp only [Bool.or_eq_true, Bool.and_eq_true, beq_iff_eq] at hd
            have hd' : dgC c = true ∨ c = 45 := hd.imp id (fun h => h.1.1)
            obtain ⟨f1, f2, f3, f4⟩ := dg_facts hd'
            have hl : (r.take (runN dgC r)).length = runN dgC r := by rw [List.length_take, Nat.min_eq_left (runN_le dgC r)]
            have hw1 : wholeOk (c :: r.take (runN dgC r)) = true := by simp only [Bool.and_eq_true] at hw; simpa using hw.1
            have hi := itoa_back c (r.take (runN dgC r)) hd' (runN_all dgC r) hw1
            refine ⟨c, r.take (runN dgC r), by simp only [tokText, List.take_succ_cons]; exact hi, f1, f2, ?_⟩
            have e : runN dgC (r.take (runN dgC r) ++ 32 :: u) = runN dgC r := by
              rw [runN_front _ u (runN_all dgC r) (by decide), hl]
            have hg : (dgC c || c == 45 && free && headIs dgC (r.take (runN dgC r) ++ 32 :: u)) = true := by
              simp only [Bool.or_eq_true, Bool.and_eq_true, beq_iff_eq]
              rcases hd with hd | ⟨⟨h1, h2⟩, h3⟩
              · exact .inl hd
              · refine .inr ⟨⟨h1, h2⟩, ?_⟩
                cases r with
                | nil => simp [headIs] at h3
                | cons d r => simp only [headIs] at h3; simp [runN, h3, headIs]
            have t1 : (c :: (r.take (runN dgC r) ++ 32 :: u)).take (runN dgC r + 1) = c :: r.take (runN dgC r) := by
              rw [List.take_succ_cons, List.take_append_of_le_length (by omega), List.take_of_length_le (by omega)]
            have t2 : (r.take (runN dgC r) ++ 32 :: u).drop (runN dgC r) = 32 :: u := by
              rw [List.drop_append_of_le_length (by omega), List.drop_of_length_le (by omega)]; rfl
            have hl32 : headIs letC (32 :: u) = false := rfl
            have f3' : (c == 34) = false := by simp [f3]
            simp only [List.cons_append, tokAt, f4, Bool.false_eq_true, if_false, f3', hg, if_true, e, t1, t2, hw1, hl32, Bool.not_false, Bool.and_self, List.take_succ_cons, List.length_cons, hl]
          · cases h
        · rename_i hd
          simp only [signAt] at h
          split at h
          · rename_i hp
            simp only [Bool.and_eq_true] at hp
            cases h
            obtain ⟨f1, f2, f3, f4, f5⟩ := sign_facts (c := c) (.inr hp.1)
            have f3' : (c == 34) = false := by simp [f3]
            have f6 : (c == 45) = false := by simp [pair_not hp.1]
            refine ⟨c, [61], rfl, f1, f2, ?_⟩
            simp [tokAt, signAt, f4, f3, f5, f6, hp.1, headIs, pair_not hp.1]
          · split at h
            · rename_i hs
              cases h
              obtain ⟨f1, f2, f3, f4, f5⟩ := sign_facts (c := c) (.inl hs)
              refine ⟨c, [], rfl, f1, f2, ?_⟩
              have hd32 : dgC 32 = false := rfl
              simp [tokAt, signAt, f4, f3, f5, hs, headIs, hd32]
            · cases h
theorem lex_err : ∀ (n : Nat) (r : List UInt8) (free : Bool) (k a : Nat), r.length ≤ n → lexL free k r = .error a → k ≤ a ∧ a < k + r.length := by
  intro n
  induction n with
  | zero =>
    intro r free k a h e
    have : r = [] := List.eq_nil_of_length_eq_zero (by omega)
    subst this
    rw [lexL_nil] at e; cases e
  | succ n ih =>
    intro r free k a h e
    match r, h, e with
    | [], _, e => rw [lexL_nil] at e; cases e
    | c :: r, h, e =>
      simp only [List.length_cons] at h ⊢
      by_cases hb : blankC c = true
      · rw [lexL_blank _ _ _ hb] at e
        have := ih r free _ a (by omega) e; omega
      · have hb : blankC c = false := by simpa using hb
        by_cases hc : c = 35
        · subst hc
          rw [lexL_note] at e
          have hl := runN_le notNl r
          have := ih _ free _ a (by simp; omega) e
          simp at this; omega
        · cases ht : tokAt free (c :: r) with
          | none => rw [lexL_bad k hb hc ht] at e; cases e; omega
          | some x =>
            obtain ⟨t, m⟩ := x
            have h1 := tokAt_pos ht
            have h2 := tokAt_len ht
            simp only [List.length_cons] at h2
            rw [lexL_tok k hb hc ht] at e
            cases e' : lexL t.free (k + m) ((c :: r).drop m) with
            | ok l => rw [e'] at e; cases e
            | error a' =>
              rw [e'] at e; cases e
              have := ih _ t.free _ a (by simp; omega) e'
              simp at this; omega
def TokOk (t : Tok) : Prop := t.text.length ≤ 20000 ∧ -9223372036854775808 ≤ t.num ∧ t.num ≤ 9223372036854775807
theorem tokText_len {t : Tok} (h : TokOk t) : (tokText t).length ≤ 80002 := by
  unfold tokText
  have h1 := quoteL_length t.text
  have h2 := Lib.itoa_length_le t.num h.2.1 h.2.2
  have h3 := h.1
  split
  · omega
  · split <;> omega
theorem whole_bd {l : List UInt8} (h : wholeOk l = true) : -9223372036854775808 ≤ wholeV l ∧ wholeV l ≤ 9223372036854775807 := by
  match l, h with
  | c :: r, h =>
    simp only [wholeOk, wholeV] at h ⊢
    by_cases h1 : (c == 45) = true
    · rw [if_pos h1] at h ⊢
      simp only [Bool.and_eq_true, decide_eq_true_eq] at h
      have := h.2; omega
    · rw [if_neg h1] at h ⊢
      simp only [Bool.and_eq_true, decide_eq_true_eq] at h
      have := h.2; omega
theorem num0 : -9223372036854775808 ≤ (0 : Int) ∧ (0 : Int) ≤ 9223372036854775807 := by decide
theorem tokAt_ok {free : Bool} {l : List UInt8} {t : Tok} {n : Nat} (h : tokAt free l = some (t, n)) (hl : l.length ≤ 20000) : TokOk t := by
  match l, h with
  | [], h => cases h
  | c :: r, h =>
    simp only [tokAt] at h
    split at h
    · split at h
      · cases h
        refine ⟨?_, num0⟩
        show (List.take _ _).length ≤ _
        rw [List.length_take]; omega
      · cases h
    · split at h
      · cases hh : textAt r with
        | none => rw [hh] at h; cases h
        | some y =>
          obtain ⟨y, m⟩ := y
          rw [hh] at h
          simp only at h
          split at h
          · rename_i h64
            cases h
            exact ⟨by show y.length ≤ _; omega, num0⟩
          · cases h
      · split at h
        · split at h
          · rename_i hw
            cases h
            simp only [Bool.and_eq_true] at hw
            obtain ⟨h1, h2⟩ := whole_bd hw.1
            refine ⟨?_, h1, h2⟩
            show (List.take _ _).length ≤ _
            rw [List.length_take]; omega
          · cases h
        · simp only [signAt] at h
          split at h
          · cases h; exact ⟨by simp, num0⟩
          · split at h
            · cases h; exact ⟨by simp, num0⟩
            · cases h
theorem lex_ok : ∀ (n : Nat) (r : List UInt8) (free : Bool) (k : Nat) (l : List Tok), r.length ≤ n → r.length ≤ 20000 → lexL free k r = .ok l → (∀ t ∈ l, TokOk t) ∧ l.length ≤ r.length + 1 := by
  intro n
  induction n with
  | zero =>
    intro r free k l h _ e
    have : r = [] := List.eq_nil_of_length_eq_zero (by omega)
    subst this
    rw [lexL_nil] at e; cases e
    exact ⟨by simp [TokOk], by simp⟩
  | succ n ih =>
    intro r free k l h h2 e
    match r, h, h2, e with
    | [], _, _, e =>
      rw [lexL_nil] at e; cases e
      exact ⟨by simp [TokOk], by simp⟩
    | c :: r, h, h2, e =>
      simp only [List.length_cons] at h h2 ⊢
      by_cases hb : blankC c = true
      · rw [lexL_blank _ _ _ hb] at e
        obtain ⟨a, b⟩ := ih r free _ l (by omega) (by omega) e
        exact ⟨a, by omega⟩
      · have hb : blankC c = false := by simpa using hb
        by_cases hc : c = 35
        · subst hc
          rw [lexL_note] at e
          have hl := runN_le notNl r
          obtain ⟨a, b⟩ := ih _ free _ l (by simp; omega) (by simp; omega) e
          exact ⟨a, by simp at b; omega⟩
        · cases ht : tokAt free (c :: r) with
          | none => rw [lexL_bad k hb hc ht] at e; cases e
          | some x =>
            obtain ⟨t, m⟩ := x
            have q1 := tokAt_pos ht
            have q2 := tokAt_len ht
            have q3 := tokAt_ok ht (by simpa using h2)
            simp only [List.length_cons] at q2
            rw [lexL_tok k hb hc ht] at e
            cases e' : lexL t.free (k + m) ((c :: r).drop m) with
            | error a' => rw [e'] at e; cases e
            | ok l1 =>
              rw [e'] at e; cases e
              obtain ⟨a, b⟩ := ih _ t.free _ l1 (by simp; omega) (by simp; omega) e'
              refine ⟨fun x hx => ?_, by simp at b ⊢; omega⟩
              rcases List.mem_cons.1 hx with rfl | hx
              · exact q3
              · exact a x hx
/-! ### places -/
theorem lex_places : ∀ (n : Nat) (r : List UInt8) (free : Bool) (k : Nat) (l : List Tok), r.length ≤ n → lexL free k r = .ok l → ∀ t ∈ l, (k : Int) ≤ t.pos ∧ t.pos ≤ ((k + r.length : Nat) : Int) := by
  intro n
  induction n with
  | zero =>
    intro r free k l h e
    have : r = [] := List.eq_nil_of_length_eq_zero (by omega)
    subst this
    rw [lexL_nil] at e; cases e; simp
  | succ n ih =>
    intro r free k l h e
    match r, h, e with
    | [], _, e => rw [lexL_nil] at e; cases e; simp
    | c :: r, h, e =>
      simp only [List.length_cons] at h ⊢
      by_cases hb : blankC c = true
      · rw [lexL_blank _ _ _ hb] at e
        intro t ht
        have := ih r free _ l (by omega) e t ht; omega
      · have hb : blankC c = false := by simpa using hb
        by_cases hc : c = 35
        · subst hc
          rw [lexL_note] at e
          have hl := runN_le notNl r
          intro t ht
          have := ih _ free _ l (by simp; omega) e t ht
          simp at this; omega
        · cases ht : tokAt free (c :: r) with
          | none => rw [lexL_bad k hb hc ht] at e; cases e
          | some x =>
            obtain ⟨t, m⟩ := x
            have q1 := tokAt_pos ht
            have q2 := tokAt_len ht
            simp only [List.length_cons] at q2
            rw [lexL_tok k hb hc ht] at e
            cases e' : lexL t.free (k + m) ((c :: r).drop m) with
            | error a' => rw [e'] at e; cases e
            | ok l1 =>
              rw [e'] at e; cases e
              intro x hx
              rcases List.mem_cons.1 hx with rfl | hx
              · constructor <;> simp <;> omega
              · have := ih _ t.free _ l1 (by simp; omega) e' x hx
                simp at this; omega
/-! ### soft text -/
def Soft2 (x : List UInt8) : Prop := ∀ (free : Bool) (k : Nat) (r : List UInt8), lexL free k (x ++ r) = lexL free (k + x.length) r
theorem Soft2.nil : Soft2 [] := fun _ _ _ => rfl
theorem Soft2.blank {c : UInt8} {x : List UInt8} (hc : blankC c = true) (h : Soft2 x) : Soft2 (c :: x) := fun free k r => by
  rw [List.cons_append, lexL_blank _ _ _ hc, h free (k + 1) r, List.length_cons]; congr 1; omega
def softL : List (List UInt8) := [[32], [10, 9], [35, 32, 110, 111, 10], [13]]
theorem soft_of {x : List UInt8} (h : x ∈ softL) : Soft2 x := by
  simp only [softL, List.mem_cons, List.not_mem_nil, or_false] at h
  rcases h with rfl | rfl | rfl | rfl
  · exact .blank rfl .nil
  · exact .blank rfl (.blank rfl .nil)
  · intro free k r
    show lexL free k (35 :: ([32, 110, 111] ++ 10 :: r)) = _
    have e : runN notNl ([32, 110, 111] ++ 10 :: r) = 3 := by
      rw [runN_front _ r (by decide) (by decide)]; rfl
    rw [lexL_note, e]
    show lexL free (k + (3 + 1)) (10 :: r) = _
    rw [lexL_blank _ _ _ (by decide)]; rfl
  · exact .blank rfl .nil
def spread : List Tok → (Nat → List UInt8) → List UInt8
  | [], _ => []
  | t :: r, g => tokText t ++ 32 :: (g 0 ++ spread r (fun i => g (i + 1)))
theorem spread_snoc : ∀ (l : List Tok) (t : Tok) (g : Nat → List UInt8), spread (l ++ [t]) g = spread l g ++ tokText t ++ 32 :: g l.length
  | [], t, g => by simp [spread]
  | u :: r, t, g => by
    have := spread_snoc r t (fun i => g (i + 1))
    simp only [List.cons_append, spread, this, List.length_cons]
    simp
theorem spread_take (l : List Tok) (g : Nat → List UInt8) (k : Nat) (hk : k < l.length) : spread (l.take (k + 1)) g = spread (l.take k) g ++ tokText l[k] ++ 32 :: g k := by
  rw [List.take_succ_eq_append_getElem hk, spread_snoc, List.length_take, Nat.min_eq_left (Nat.le_of_lt hk)]
theorem lex_soft : ∀ (n : Nat) (r : List UInt8) (free : Bool) (k : Nat) (l : List Tok), r.length ≤ n → lexL free k r = .ok l → ∀ (g : Nat → List UInt8), (∀ i, Soft2 (g i)) → ∀ k' : Nat, ∃ m, lexL free k' (spread l g) = .ok m ∧ m.map nop = l.map nop := by
  have hend : ∀ (free : Bool) (p : Int) (g : Nat → List UInt8), (∀ i, Soft2 (g i)) → ∀ k' : Nat, ∃ m, lexL free k' (spread [⟨5, [], 0, p⟩] g) = .ok m ∧ m.map nop = [(⟨5, [], 0, p⟩ : Tok)].map nop := fun free p g hg k' => by
    refine ⟨[⟨5, [], 0, ((k' + 1 + (g 0).length : Nat) : Int)⟩], ?_, rfl⟩
    show lexL free k' (32 :: (g 0 ++ [])) = _
    rw [lexL_blank _ _ _ (by decide), hg 0, lexL_nil]
  intro n
  induction n with
  | zero =>
    intro r free k l h e g hg k'
    have : r = [] := List.eq_nil_of_length_eq_zero (by omega)
    subst this
    rw [lexL_nil] at e; cases e
    exact hend free _ g hg k'
  | succ n ih =>
    intro r free k l h e g hg k'
    match r, h, e with
    | [], _, e =>
      rw [lexL_nil] at e; cases e
      exact hend free _ g hg k'
    | c :: r, h, e =>
      simp only [List.length_cons] at h
      by_cases hb : blankC c = true
      · rw [lexL_blank _ _ _ hb] at e
        exact ih r free _ l (by omega) e g hg k'
      · have hb : blankC c = false := by simpa using hb
        by_cases hc : c = 35
        · subst hc
          rw [lexL_note] at e
          exact ih _ free _ l (by simp; omega) e g hg k'
        · cases ht : tokAt free (c :: r) with
          | none => rw [lexL_bad k hb hc ht] at e; cases e
          | some x =>
            obtain ⟨t, m⟩ := x
            have q1 := tokAt_pos ht
            have q2 := tokAt_len ht
            simp only [List.length_cons] at q2
            rw [lexL_tok k hb hc ht] at e
            cases e' : lexL t.free (k + m) ((c :: r).drop m) with
            | error a' => rw [e'] at e; cases e
            | ok l1 =>
              rw [e'] at e; cases e
              obtain ⟨d, q, g1, g2, g3, g4⟩ := tokAt_back ht (g 0 ++ spread l1 (fun i => g (i + 1)))
              obtain ⟨l', g5, g6⟩ := ih _ t.free _ l1 (by simp; omega) e' (fun i => g (i + 1)) (fun i => hg (i + 1)) (k' + (d :: q).length + 1 + (g 0).length)
              have e1 : spread ({ t with pos := (k : Int) } :: l1) g = d :: q ++ 32 :: (g 0 ++ spread l1 (fun i => g (i + 1))) := by
                rw [spread, show tokText { t with pos := (k : Int) } = tokText t from rfl, g1]
              refine ⟨{ t with pos := (k' : Int) } :: l', ?_, ?_⟩
              · rw [e1]
                simp only [List.cons_append] at g4 ⊢
                rw [lexL_tok k' g2 g3 g4]
                have e2 : (d :: (q ++ 32 :: (g 0 ++ spread l1 (fun i => g (i + 1))))).drop (d :: q).length = 32 :: (g 0 ++ spread l1 (fun i => g (i + 1))) := by simp
                rw [e2, lexL_blank _ _ _ (by decide), hg 0, g5]; rfl
              · rw [List.map_cons, List.map_cons, g6]; rfl
theorem posIn_of {l : List Tok} {b : Int} (h0 : 0 ≤ b) (h : ∀ t ∈ l, 0 ≤ t.pos ∧ t.pos ≤ b) : PosIn l b := by
  intro i
  rw [List.getD_eq_getElem?_getD]
  cases hi : l[i]? with
  | none => exact ⟨Int.le_refl _, h0⟩
  | some t => exact h t (List.mem_of_getElem? hi)
theorem lx_in (a : ByteArray) : PosIn (LX a) (a.size : Int) ∧ 0 ≤ (PX a).at' ∧ (PX a).at' ≤ (a.size : Int) := by
  have h0 : (0 : Int) ≤ (a.size : Int) := Int.natCast_nonneg _
  have hz : PosIn [⟨5, [], 0, 0⟩] (a.size : Int) := posIn_of h0 (by simp)
  have hsl : (sl a 0).length = a.size := by rw [sl_length]; omega
  unfold LX PX lexAll
  by_cases h1 : 16384 < a.size
  · rw [if_pos h1]
    exact ⟨by rw [if_neg (by decide)]; exact hz, Int.le_refl _, h0⟩
  · rw [if_neg h1]
    cases hl : lexL true 0 (sl a 0) with
    | ok l =>
      refine ⟨?_, Int.le_refl _, h0⟩
      rw [if_pos rfl]
      refine posIn_of h0 fun t ht => ?_
      have := lex_places (sl a 0).length _ true 0 l (Nat.le_refl _) hl t ht
      rw [Nat.zero_add, hsl] at this
      exact ⟨by have := this.1; omega, this.2⟩
    | error b =>
      have := lex_err (sl a 0).length (sl a 0) true 0 b (Nat.le_refl _) hl
      rw [Nat.zero_add, hsl] at this
      exact ⟨by rw [if_neg (show ¬ (13 : Int) = 0 by decide)]; exact hz, by show (0 : Int) ≤ (b : Int); omega, by show (b : Int) ≤ _; omega⟩
theorem ansT (a : ByteArray) (hs : a.size ≤ maxLen) : ∃ x fe fa, (∀ X, Calls Tryz.prog 7 #[.string a] X (ERes x fe fa X)) ∧ (0 ≤ fa ∧ fa ≤ (a.size : Int)) ∧
    (fe = 0 → fa = 0 ∧ checkExpr x = 0 ∧ ∃ l, lexL true 0 (sl a 0) = .ok l ∧ Reads l ⟨0, 0, 0, 0⟩ x) := by
  obtain ⟨⟨e, p4⟩, F, h⟩ := expr_ev (LX a) (PX a) (pw_begin a)
  have hr := h F (Nat.le_refl _)
  obtain ⟨hL, hP⟩ := lx_in a
  refine ⟨_, _, _, fun X => (tExpr a X hs e p4 F hr).mono fun _ _ h => h.res, ?_, fun h0 => ?_⟩
  · exact (((bas (LX a) hL F).expr _ _ _ hr).trans (Ba.done p4 (checkExpr e) hL (Int.natCast_nonneg _))) hP
  obtain ⟨c0, e0, k0⟩ := done_ok h0
  obtain ⟨z1, z2⟩ := (zas (LX a) F).expr _ _ _ hr e0
  rw [if_pos h0]
  have hz := px_at z1
  have hx : 16384 < a.size ∨ ∃ l, lexL true 0 (sl a 0) = .ok l ∧ a.size ≤ 16384 := by
    by_cases h1 : 16384 < a.size
    · exact Or.inl h1
    · refine Or.inr ?_
      cases hl : lexL true 0 (sl a 0) with
      | ok l => exact ⟨l, rfl, by omega⟩
      | error b =>
        have e1 : lexAll a = ([], 13, (b : Int)) := by unfold lexAll; rw [if_neg h1, hl]
        have : (PX a).err = 13 := by unfold PX; rw [e1]
        rw [this] at z1; exact absurd z1 (by decide)
  rcases hx with h1 | ⟨l, hl, h1⟩
  · have e1 : lexAll a = ([], 3, 0) := by unfold lexAll; rw [if_pos h1]
    have : (PX a).err = 3 := by unfold PX; rw [e1]
    rw [this] at z1; exact absurd z1 (by decide)
  · obtain ⟨eL, eP⟩ := lx_of h1 hl
    refine ⟨?_, c0, l, hl, ?_⟩
    · rw [c0, done_end e0 k0, z2, hz]
    · have := reads_of hr h0
      rw [eL, eP] at this; exact this
/-! ### its tokens told anew -/
theorem reads_same {l m pre : List Tok} {x : Ex} (hR : Reads l ⟨0, 0, 0, 0⟩ x) {a : List UInt8} (hl : lexL true 0 a = .ok l) (hm : m.map nop = pre ++ l.map nop) {g : Nat} {y : Ex} {q4 : PS} (k : pExpr m g ⟨pre.length, 0, 0, 0⟩ = some (y, q4)) :
    y = x ∧ q4.err = 0 ∧ (q4.tok m).kind = 5 := by
  obtain ⟨A, h1, h2, h3⟩ := lex_ends (a.length + 1) a true 0 l (by omega) hl
  rw [h1] at hm
  have hA := alike_within (pre := pre) (post := []) h1 hm (Or.inl rfl)
  rcases reads_sim (o := 0) hA (ends_of h1 h2) hR (q := ⟨pre.length, 0, 0, 0⟩) ⟨rfl, rfl, by show pre.length = 0 + pre.length; omega, rfl, Nat.zero_le _⟩ k with ⟨rfl, b, c⟩ | c
  · refine ⟨rfl, b, ?_⟩
    have he : EndAt m (pre ++ A).length := end_in (by rw [hm]; simp)
    unfold PS.tok
    rw [c, show A.length + pre.length = (pre ++ A).length by simp; omega]
    exact he
  · exact absurd rfl c.1
theorem ans_told {a : List UInt8} {l : List Tok} {x : Ex} (hl : lexL true 0 a = .ok l) (hR : Reads l ⟨0, 0, 0, 0⟩ x) {g : Nat → List UInt8} (hg : ∀ i, Soft2 (g i)) {t : ByteArray} (ht : sl t 0 = spread l g) (hs : t.size ≤ 16384) :
    ∀ X, Calls Tryz.prog 7 #[.string t] X (ERes x 0 0 X) := by
  obtain ⟨m, h1, h2⟩ := lex_soft a.length a true 0 l (Nat.le_refl _) hl g hg 0
  rw [← ht] at h1
  obtain ⟨eL, eP⟩ := lx_of hs h1
  obtain ⟨⟨y, p4⟩, F, h⟩ := expr_ev (LX t) (PX t) (pw_begin t)
  have hr := h F (Nat.le_refl _)
  have hm : t.size ≤ maxLen := by unfold maxLen; omega
  have hr' := hr
  rw [eL, eP] at hr'
  obtain ⟨rfl, b, c⟩ := reads_same (pre := []) hR hl h2 hr'
  have hd : p4.done (LX t) (checkExpr y) = p4 := by rw [hR.ok, eL]; exact done_end b c
  obtain ⟨-, z2⟩ := (zas m F).expr _ _ _ hr' b
  intro X
  have := (tExpr t X hm y p4 F hr).mono fun _ _ h => h.res
  rw [hd, if_pos b, b, z2] at this
  exact this
/-! ### in brackets -/
theorem ans_br {a : List UInt8} {x : Ex} (h : IsX a x) {t : ByteArray} (ht : sl t 0 = 40 :: (a ++ 10 :: 41 :: [])) (hs : t.size ≤ 16384) : ∃ y fe fa, (∀ X, Calls Tryz.prog 7 #[.string t] X (ERes y fe fa X)) ∧ (fe = 3 ∨ (fe = 0 ∧ fa = 0 ∧ y = x ∧ checkExpr x = 0)) := by
  obtain ⟨la, A, a1, a2, a3, a4, a5⟩ := h.toks
  obtain ⟨M, h1, e1⟩ := lex_brT a1 nil_lex
  rw [a4] at e1
  have f1 : M.map nop = [] ++ (brT A ++ [eT]) := e1
  have f2 : M.map nop = brT A ++ [eT] := e1
  have t1 : TermAt M 0 (brT A).length x := term_atom (atom_in f1 a2 a3 a5) (Or.inl (end_in f2))
  exact comes_of hs (by rw [ht]; exact h1) t1 (sums_end (end_in f2)) (end_in f2) h.right
/-! ### as a query -/
theorem take_wordX {M : List Tok} {q : PS} {s : List UInt8} (h0 : q.err = 0) (hk : (q.tok M).kind = 1 ∨ (q.tok M).kind = 4) (ht : (q.tok M).text = s) (h1 : s ≠ [40]) (h2 : s ≠ [41]) : q.need M s = { q with i := q.i + 1 } := by
  have e : q.isT M s = true := by
    unfold PS.isT
    rw [h0, ht]
    rcases hk with hk | hk <;> rw [hk] <;> simp
  unfold PS.need PS.take
  rw [if_pos e, if_neg h1, if_neg h2]; rfl
def everyL : List UInt8 := [101, 118, 101, 114, 121]
def wEvery : Tok := ⟨1, everyL, 0, 0⟩
def nTok (n : Nat) : Tok := ⟨2, [UInt8.ofNat (48 + n)], n, 0⟩
theorem lex_word0 {f : Bool} {u : List UInt8} {b : List Tok} (h : lexL false 0 (32 :: u) = .ok b) : ∃ m, lexL f 0 (everyL ++ 32 :: u) = .ok m ∧ m.map nop = wEvery :: b.map nop := by
  obtain ⟨m, h1, h2⟩ := lex_move h 5
  refine ⟨wEvery :: m, ?_, by rw [List.map_cons, h2]; rfl⟩
  have ht : tokAt f (101 :: ([118, 101, 114, 121] ++ 32 :: u)) = some (wEvery, 5) := by rfl
  show lexL f 0 (101 :: ([118, 101, 114, 121] ++ 32 :: u)) = _
  rw [lexL_tok _ (by decide) (by decide) ht]
  show (lexL false (0 + 5) (32 :: u)).map _ = _
  rw [h1]; rfl
theorem lex_num0 {n : Nat} (hn : 1 ≤ n ∧ n ≤ 9) {f : Bool} {u : List UInt8} {b : List Tok} (h : lexL false 0 (58 :: u) = .ok b) : ∃ m, lexL f 0 (UInt8.ofNat (48 + n) :: 58 :: u) = .ok m ∧ m.map nop = nTok n :: b.map nop := by
  obtain ⟨m, h1, h2⟩ := lex_move h 1
  refine ⟨nTok n :: m, ?_, by rw [List.map_cons, h2]; rfl⟩
  have ht : tokAt f (UInt8.ofNat (48 + n) :: 58 :: u) = some (nTok n, 1) ∧ blankC (UInt8.ofNat (48 + n)) = false ∧ UInt8.ofNat (48 + n) ≠ 35 := by
    obtain rfl | rfl | rfl | rfl | rfl | rfl | rfl | rfl | rfl : n = 1 ∨ n = 2 ∨ n = 3 ∨ n = 4 ∨ n = 5 ∨ n = 6 ∨ n = 7 ∨ n = 8 ∨ n = 9 := by omega
    all_goals exact ⟨rfl, by decide, by decide⟩
  rw [lexL_tok _ ht.2.1 ht.2.2 ht.1]
  show (lexL false (0 + 1) (58 :: u)).map _ = _
  rw [h1]; rfl
theorem lex_every {n : Nat} (hn : 1 ≤ n ∧ n ≤ 9) {a : List UInt8} {l : List Tok} (h : lexL true 0 a = .ok l) : ∃ m, lexL true 0 (everyL ++ 32 :: UInt8.ofNat (48 + n) :: 58 :: 32 :: a) = .ok m ∧ m.map nop = [wEvery, nTok n, sgT [58]] ++ l.map nop := by
  obtain ⟨m1, h1, e1⟩ := lex_skip (c := 32) (by decide) h 0
  obtain ⟨m2, h2, e2⟩ := lex_sign (c := 58) (f := false) (u := 32 :: a) (by decide) (by decide) (by rfl) h1 0
  obtain ⟨m3, h3, e3⟩ := lex_num0 hn (f := false) h2
  obtain ⟨m4, h4, e4⟩ := lex_skip (c := 32) (by decide) h3 0
  obtain ⟨m5, h5, e5⟩ := lex_word0 (f := true) h4
  exact ⟨m5, h5, by rw [e5, e4, e3, e2, e1]; rfl⟩
theorem ans_query {n : Nat} (hn : 1 ≤ n ∧ n ≤ 9) {a : List UInt8} {l : List Tok} {x : Ex} (hl : lexL true 0 a = .ok l) (hR : Reads l ⟨0, 0, 0, 0⟩ x) {t : ByteArray} (ht : sl t 0 = everyL ++ 32 :: UInt8.ofNat (48 + n) :: 58 :: 32 :: a) (hs : t.size ≤ 16384) :
    ∀ X, Calls Tryz.prog 13 #[.string t] X (QRes n x 0 0 X) := by
  obtain ⟨m, h1, h2⟩ := lex_every hn hl
  rw [← ht] at h1
  obtain ⟨eL, eP⟩ := lx_of hs h1
  obtain ⟨a0, b0, -⟩ := kind_nop (M := m) (i := 0) (t := wEvery) (by rw [h2]; rfl)
  obtain ⟨a1, b1, c1⟩ := kind_nop (M := m) (i := 1) (t := nTok n) (by rw [h2]; rfl)
  obtain ⟨a2, b2, -⟩ := kind_nop (M := m) (i := 2) (t := sgT [58]) (by rw [h2]; rfl)
  have p1 : P1 t = ⟨1, 0, 0, 0⟩ := by
    unfold P1; rw [eL, eP]
    exact take_wordX rfl (Or.inl a0) b0 (by decide) (by decide)
  have p2 : EV t = n ∧ P2 t = ⟨2, 0, 0, 0⟩ := by
    unfold EV P2; rw [eL, p1]
    unfold PS.token
    rw [if_pos ⟨rfl, a1⟩]
    exact ⟨c1, rfl⟩
  have p3 : P3 t = ⟨3, 0, 0, 0⟩ := by
    unfold P3; rw [eL, p2.2]
    exact take_wordX rfl (Or.inr a2) b2 (by decide) (by decide)
  obtain ⟨⟨y, p4⟩, F, h⟩ := expr_ev (LX t) (P3 t) (pw3 t)
  have hr := h F (Nat.le_refl _)
  have hm : t.size ≤ maxLen := by unfold maxLen; omega
  have hr' := hr
  rw [eL, p3] at hr'
  obtain ⟨rfl, b, c⟩ := reads_same (pre := [wEvery, nTok n, sgT [58]]) hR hl h2 hr'
  have hq : checkQuery (n : Int) y = 0 := by
    unfold checkQuery
    rw [if_pos (by omega)]; exact hR.ok
  have hd : p4.done (LX t) (checkQuery (EV t) y) = p4 := by rw [p2.1, hq, eL]; exact done_end b c
  obtain ⟨-, z2⟩ := (zas m F).expr _ _ _ hr' b
  intro X
  have := (tQuery t X hm y p4 F hr).mono fun _ _ h => h.res
  rw [hd, if_pos b, if_pos b, b, z2, p2.1] at this
  exact this
end Go.Proofs.YtpmbamfpmmdhcaaGreat
namespace Go.Proofs.YtpmbamfpmmdhcaaGreat
open Go.ChangeShapes Go.WideShapes Go.ChangeAt Go.RowKit
set_option linter.unusedSimpArgs false
set_option linter.unusedVariables false
def i64 (x : Int) : Prop := -9223372036854775808 ≤ x ∧ x ≤ 9223372036854775807
def IsInts (n : Nat) (w : World) (v : Value) (l : List Int) : Prop := Arr n w v 1 (l.map fun i => [.int .i64 i])
theorem IsInts.mono {n m : Nat} {w w' : World} {v : Value} {l : List Int} (h : IsInts n w v l) (hb : Below n w w') (hm : n ≤ m) : IsInts m w' v l := Arr.mono h hb hm
theorem IsInts.open {n : Nat} {w : World} {v : Value} {l : List Int} (h : IsInts n w v l) : ∃ p cap, v = .slice p l.length cap ∧ l.length ≤ cap ∧ cap ≤ maxLen ∧ l.length ≤ maxLen := by
  obtain ⟨p, cap, hv, h1, h2, _⟩ := h
  simp only [List.length_map] at hv h1
  exact ⟨p, cap, hv, h1, h2, by omega⟩
theorem IsInts.get {n : Nat} {w : World} {p : Option Addr} {len cap : Nat} {l : List Int} (h : IsInts n w (.slice p len cap) l) {k : Nat} (hk : k < l.length) :
    ∃ b off, p = some ⟨b, off, none⟩ ∧ b < n ∧ w.cell? ⟨b, off + k, none⟩ = some (.int .i64 l[k]) := by
  obtain ⟨b, off, hp, hb, hc⟩ := h.at k [.int .i64 l[k]] (by simp [hk])
  exact ⟨b, off, hp, hb, by simpa using hc 0 _ rfl⟩
section
variable {H : Type} {enc : TypeId × Value → H} {w : World} {base : Nat} {spare : Nat → Bool} {held : Bool} {fuel : Nat} {x : DataW H × List MemPlace}
theorem ints_of_trod {v : Value} (h : DataW.trod enc Tryz.prog w base spare held fuel 22 [v] = some x) : ∃ l : List Int, IsInts w.heap.size w v l ∧ ∀ i ∈ l, i64 i := by
  obtain ⟨rows, ha, hlen, n, _, hr⟩ := arr_of_trod Tryz.underlying22 (sz := 1) (by kernel_rfl) (by decide) h
  obtain ⟨l, hl, hR⟩ := list_choose (R := fun (r : List Value) (i : Int) => r = [.int .i64 i] ∧ i64 i) rows (fun r hr' => by
    obtain ⟨y, hy⟩ := hr r hr'
    obtain ⟨i, h1, _, h2⟩ := DataW.trod_int Tryz.underlying3 hy
    exact ⟨i, h1, i64_bd h2⟩)
  have he : rows = l.map fun i => [.int .i64 i] := by
    apply List.ext_getElem
    · simp [hl]
    · intro k h1 h2
      have := (hR k rows[k] (l[k]'(by omega)) (by simp) (by simp)).1
      simpa using this
  refine ⟨l, by unfold IsInts; rw [← he]; exact ha, fun m hm => ?_⟩
  obtain ⟨k, hk, rfl⟩ := List.getElem_of_mem hm
  exact (hR k (rows[k]'(by omega)) l[k] (by simp) (by simp)).2
end
section
variable {H : Type} {enc : TypeId × Value → H} {w : World} {r : Reach} {b0 : Nat} {v : Value} {d : DataW H} {ps : List MemPlace}
theorem open_ints (hval : Value.okWide Tryz.prog w r b0 22 v) (hd : DataW.Trod enc Tryz.prog w 0 (fun _ => true) true 22 v d ps) :
    ∃ l : List Int, IsInts w.heap.size w v l ∧ ∀ i ∈ l, i64 i := by
  obtain ⟨a, len, cap, rfl⟩ := okWide_slice Tryz.underlying22 hval
  obtain ⟨fuel, hf⟩ := hd
  have hf' : DataW.trod enc Tryz.prog w 0 (fun _ => true) true fuel 22 [.slice a len cap] = some (d, ps) := by simpa [Value.cells] using hf
  obtain ⟨l, h1, h2⟩ := ints_of_trod hf'
  exact ⟨l, h1, h2⟩
end
end Go.Proofs.YtpmbamfpmmdhcaaGreat
