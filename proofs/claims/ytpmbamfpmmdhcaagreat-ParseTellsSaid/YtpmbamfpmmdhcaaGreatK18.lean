/- The reference's parser: what the plain parser keeps; all contracts, for any fuel. -/
import Derived.Test.YtpmbamfpmmdhcaaGreatK16
set_option maxRecDepth 100000
set_option maxHeartbeats 16000000
namespace Go.Proofs.YtpmbamfpmmdhcaaGreat
open Go.RowKit
set_option linter.unusedSimpArgs false
set_option linter.unusedVariables false
theorem tok_num' {L : List Tok} {q : PS} (hw : PW L q) (k : Int) : -9223372036854775808 ≤ (q.token L k).1.num ∧ (q.token L k).1.num ≤ 9223372036854775807 := by
  unfold PS.token
  split
  · rw [PS.tok_eq hw.at'];exact hw.num _ (List.getElem_mem _)
  · simp
theorem num64_leaf {kind fn op num : Int} {metric : ByteArray} {mats : List Mat} {span : Int} {names : List ByteArray} {kids : List Ex} (h : -9223372036854775808 ≤ num ∧ num ≤ 9223372036854775807) (hk : ∀ k ∈ kids,k.num64) : (Ex.mk kind fn op num metric mats span names kids).num64 := Ex.num64_of h hk
theorem z64 : -9223372036854775808 ≤ (0 : Int) ∧ (0 : Int) ≤ 9223372036854775807 := by decide
theorem pCmp_keep {L : List Tok} : ∀ (l : List (List UInt8)) (k : Int) (p : PS),PW L p → PW L (pCmp L l k p).2 ∧ p.i ≤ (pCmp L l k p).2.i
  | [],k,p,h => ⟨h,Nat.le_refl _⟩
  | s :: r,k,p,h => by
    unfold pCmp;have h2 := h.take s;have i2 := (PS.take_i L p s).1
    split
    · exact ⟨h2,i2⟩
    · obtain ⟨a,b⟩ := pCmp_keep r (k + 1) _ h2
      exact ⟨a,by omega⟩
theorem pWindow_keep {L : List Tok} {f : Nat} {fn : Int} {p : PS} {e : Ex} {p' : PS} (h : pWindow L f fn p = some (e,p')) (hw : PW L p) : PW L p' ∧ p.i ≤ p'.i ∧ e.num64 := by
  unfold pWindow at h
  obtain ⟨⟨ms,q4⟩,hm,hr⟩ := Option.map_eq_some_iff.1 h
  simp only [Prod.mk.injEq] at hr
  obtain ⟨rfl,rfl⟩ := hr
  have h1 := (hw.need [40]).token 1 (by decide)
  obtain ⟨k1,-,k3⟩ := pMatch_keep hm h1
  have h2 := (k1.need [91]).token 2 (by decide)
  have i1 := PS.need_i L p [40]
  have i2 := PS.token_i L (p.need L [40]) 1
  have i3 := PS.need_i L q4 [91]
  have i4 := PS.token_i L (q4.need L [91]) 2
  have i5 := PS.need_i L ((q4.need L [91]).token L 2).2 [93]
  have i6 := PS.need_i L (((q4.need L [91]).token L 2).2.need L [93]) [41]
  exact ⟨(h2.need [93]).need [41],by omega,num64_leaf z64 (by simp)⟩
structure Keeps (L : List Tok) (f : Nat) : Prop where
  atom : ∀ p e p',pAtom L f p = some (e,p') → PW L p → PW L p' ∧ p.i ≤ p'.i ∧ e.num64
  step : ∀ op x d p e p',pStep L f op x d p = some (e,p') → PW L p → PW L p' ∧ p.i ≤ p'.i ∧ (x.num64 → e.num64)
  term : ∀ p e p',pTerm L f p = some (e,p') → PW L p → PW L p' ∧ p.i ≤ p'.i ∧ e.num64
  terms : ∀ x p e p',pTerms L f x p = some (e,p') → PW L p → PW L p' ∧ p.i ≤ p'.i ∧ (x.num64 → e.num64)
  sum : ∀ p e p',pSum L f p = some (e,p') → PW L p → PW L p' ∧ p.i ≤ p'.i ∧ e.num64
  sums : ∀ x p e p',pSums L f x p = some (e,p') → PW L p → PW L p' ∧ p.i ≤ p'.i ∧ (x.num64 → e.num64)
  expr : ∀ p e p',pExpr L f p = some (e,p') → PW L p → PW L p' ∧ p.i ≤ p'.i ∧ e.num64
theorem keeps (L : List Tok) : ∀ f,Keeps L f := by
  intro f
  induction f with
  | zero => exact ⟨fun p e p' h => by simp [pAtom] at h,fun op x d p e p' h => by simp [pStep] at h,fun p e p' h => by simp [pTerm] at h,fun x p e p' h => by simp [pTerms] at h,fun p e p' h => by simp [pSum] at h,fun x p e p' h => by simp [pSums] at h,fun p e p' h => by simp [pExpr] at h⟩
  | succ f ih =>
    refine ⟨?_,?_,?_,?_,?_,?_,?_⟩
    · intro p e p' h hw
      rw [pAtom] at h;have hw2 := hw.take [40];have i2 := (PS.take_i L p [40]).1
      split at h
      · obtain ⟨⟨e0,q⟩,h0,h1⟩ := Option.map_eq_some_iff.1 h
        simp only [Prod.mk.injEq] at h1;obtain ⟨rfl,rfl⟩ := h1;obtain ⟨a,b,c⟩ := ih.expr _ _ _ h0 hw2;have := PS.need_i L q [41];exact ⟨a.need [41],by omega,c⟩
      · unfold atomRest at h
        split at h
        · simp only [Option.some.injEq,Prod.mk.injEq] at h
          obtain ⟨rfl,rfl⟩ := h;exact ⟨hw2.fail _ _,by rw [PS.fail_i];exact i2,num64_leaf z64 (by simp)⟩
        · rename_i k fn heq
          have hk1 : ((p.take L [40]).2.tok L).kind = 1 := by
            cases Decidable.em (((p.take L [40]).2.tok L).kind = 1) with
            | inl h => exact h
            | inr h => rw [if_neg h] at heq;cases heq
          have hw3 := hw2.on (by omega)
          split at h
          · obtain ⟨a,b,c⟩ := pWindow_keep h hw3
            have b : (p.take L [40]).2.i + 1 ≤ p'.i := b;exact ⟨a,by omega,c⟩
          · cases hn : pNames L f (PS.need L { (p.take L [40]).2 with i := (p.take L [40]).2.i + 1 } [98,121]) with
            | none => rw [hn] at h;cases h
            | some y =>
              obtain ⟨ns,q⟩ := y;rw [hn] at h;obtain ⟨⟨e0,q2⟩,h0,h1⟩ := Option.map_eq_some_iff.1 h;simp only [Prod.mk.injEq] at h1;obtain ⟨rfl,rfl⟩ := h1;have hw4 := hw3.need [98,121];obtain ⟨a,-,b⟩ := pNames_keep hn hw4;have i4 := PS.need_i L { (p.take L [40]).2 with i := (p.take L [40]).2.i + 1 } [98,121];have i4 : (p.take L [40]).2.i + 1 ≤ _ := i4;obtain ⟨c,d,e⟩ := ih.expr _ _ _ h0 (a.need [40]);have i5 := PS.need_i L q [40];have i6 := PS.need_i L q2 [41];exact ⟨c.need [41],by omega,num64_leaf z64 (by simpa using e)⟩
    · intro op x d p e p' h hw
      rw [pStep] at h
      split at h
      · rename_i hk
        simp only [Option.some.injEq,Prod.mk.injEq] at h;obtain ⟨rfl,rfl⟩ := h;have := tok_num' hw 2;unfold PS.token at this;rw [if_pos hk] at this;exact ⟨hw.on (by omega),by simp,fun hx => num64_leaf this (by simpa using hx)⟩
      · simp only at h
        have hw2 := hw.take [111,110];have i2 := (PS.take_i L p [111,110]).1;cases hn : (if (p.take L [111,110]).1 then pNames L f (p.take L [111,110]).2 else some ([],(p.take L [111,110]).2)) with
        | none => rw [hn] at h;cases h
        | some y =>
          obtain ⟨ns,q⟩ := y;rw [hn] at h;have hq : PW L q ∧ p.i ≤ q.i := by
            split at hn
            · obtain ⟨a,-,b⟩ := pNames_keep hn hw2
              exact ⟨a,by omega⟩
            · simp only [Option.some.injEq,Prod.mk.injEq] at hn
              obtain ⟨-,rfl⟩ := hn;exact ⟨hw2,i2⟩
          obtain ⟨⟨e0,q2⟩,h0,h1⟩ := Option.map_eq_some_iff.1 h;simp only [Prod.mk.injEq] at h1;obtain ⟨rfl,rfl⟩ := h1;have : PW L q2 ∧ q.i ≤ q2.i ∧ e0.num64 := by
            split at h0
            · exact ih.term _ _ _ h0 hq.1
            · exact ih.atom _ _ _ h0 hq.1
          exact ⟨this.1,by omega,fun hx => num64_leaf z64 (by
            intro k hk;simp only [List.mem_cons,List.not_mem_nil,or_false] at hk;rcases hk with rfl | rfl
            · exact hx
            · exact this.2.2)⟩
    · intro p e p' h hw
      rw [pTerm] at h;cases ha : pAtom L f p with
      | none => rw [ha] at h;cases h
      | some y =>
        obtain ⟨x,q⟩ := y;rw [ha] at h;obtain ⟨a,b,c⟩ := ih.atom _ _ _ ha hw;obtain ⟨a',b',c'⟩ := ih.terms _ _ _ _ h a;exact ⟨a',by omega,c' c⟩
    · intro x p e p' h hw
      rw [pTerms] at h;have hw2 := hw.take [42];have i2 := (PS.take_i L p [42]).1
      split at h
      · cases hs : pStep L f 3 x false (p.take L [42]).2 with
        | none => rw [hs] at h;cases h
        | some y =>
          obtain ⟨y,q⟩ := y;rw [hs] at h;obtain ⟨a,b,c⟩ := ih.step _ _ _ _ _ _ hs hw2;obtain ⟨a',b',c'⟩ := ih.terms _ _ _ _ h a;exact ⟨a',by omega,fun hx => c' (c hx)⟩
      · simp only [Option.some.injEq,Prod.mk.injEq] at h
        obtain ⟨rfl,rfl⟩ := h;exact ⟨hw2,i2,id⟩
    · intro p e p' h hw
      rw [pSum] at h;cases ha : pTerm L f p with
      | none => rw [ha] at h;cases h
      | some y =>
        obtain ⟨x,q⟩ := y;rw [ha] at h;obtain ⟨a,b,c⟩ := ih.term _ _ _ ha hw;obtain ⟨a',b',c'⟩ := ih.sums _ _ _ _ h a;exact ⟨a',by omega,c' c⟩
    · intro x p e p' h hw
      rw [pSums] at h;have hw2 := hw.take [43];have i2 := (PS.take_i L p [43]).1
      split at h
      · cases hs : pStep L f 1 x true (p.take L [43]).2 with
        | none => rw [hs] at h;cases h
        | some y =>
          obtain ⟨y,q⟩ := y;rw [hs] at h;obtain ⟨a,b,c⟩ := ih.step _ _ _ _ _ _ hs hw2;obtain ⟨a',b',c'⟩ := ih.sums _ _ _ _ h a;exact ⟨a',by omega,fun hx => c' (c hx)⟩
      · have hw3 := hw2.take [45]
        have i3 := (PS.take_i L (p.take L [43]).2 [45]).1;simp only at h
        split at h
        · cases hs : pStep L f 2 x true ((p.take L [43]).2.take L [45]).2 with
          | none => rw [hs] at h;cases h
          | some y =>
            obtain ⟨y,q⟩ := y;rw [hs] at h;obtain ⟨a,b,c⟩ := ih.step _ _ _ _ _ _ hs hw3;obtain ⟨a',b',c'⟩ := ih.sums _ _ _ _ h a;exact ⟨a',by omega,fun hx => c' (c hx)⟩
        · simp only [Option.some.injEq,Prod.mk.injEq] at h
          obtain ⟨rfl,rfl⟩ := h;exact ⟨hw3,by omega,id⟩
    · intro p e p' h hw
      rw [pExpr] at h;cases ha : pSum L f p with
      | none => rw [ha] at h;cases h
      | some y =>
        obtain ⟨x,q⟩ := y;rw [ha] at h;obtain ⟨a,b,c⟩ := ih.sum _ _ _ ha hw;obtain ⟨a2,b2⟩ := pCmp_keep cmpSigns 4 q a;simp only at h;cases hc : pCmp L cmpSigns 4 q with
        | mk o q2 =>
          rw [hc] at h a2 b2;have b2 : q.i ≤ q2.i := b2;cases o with
          | none =>
            simp only [Option.some.injEq,Prod.mk.injEq] at h;obtain ⟨rfl,rfl⟩ := h;exact ⟨a2,by omega,c⟩
          | some op =>
            simp only [Option.some.injEq,Prod.mk.injEq] at h;obtain ⟨rfl,rfl⟩ := h;have := PS.token_i L q2 2;exact ⟨a2.token 2 (by decide),by omega,num64_leaf (tok_num' a2 2) (by simpa using c)⟩
def Ev {α : Type} (h : Nat → Option α) (r : α) : Prop := ∃ F,∀ f,F ≤ f → h f = some r
theorem Ev.uniq {α : Type} {h : Nat → Option α} {r r' : α} (a : Ev h r) (b : Ev h r') : r = r' := by
  obtain ⟨F,a⟩ := a
  obtain ⟨G,b⟩ := b
  have := (a (F + G) (by omega)).symm.trans (b (F + G) (by omega))
  simpa using this
theorem Ev.next {α : Type} {h k : Nat → Option α} {r : α} (a : Ev h r) (e : ∀ f,k (f + 1) = h f) : Ev k r := by
  obtain ⟨F,a⟩ := a
  refine ⟨F + 1,fun f hf => ?_⟩
  obtain ⟨g,rfl⟩ : ∃ g,f = g + 1 := ⟨f - 1,by omega⟩
  rw [e];exact a g (by omega)
theorem namesF_ev (L : List Tok) : ∀ (n : Nat) (p : PS) (out : List (List UInt8)),PW L p → L.length - p.i ≤ n → ∃ r,Ev (fun f => namesF L f p out) r := by
  intro n
  induction n with
  | zero => intro p out hw h;have := hw.at';omega
  | succ n ih =>
    intro p out hw h
    by_cases herr : p.err = 0
    · have hwt := hw.token 1 (by decide)
      have hwc := hwt.take [44];have i1 := PS.token_i L p 1;have i2 := PS.take_i L (p.token L 1).2 [44];cases hc : ((p.token L 1).2.take L [44]).1 with
      | true =>
        have := i2.2 hc;obtain ⟨r,hr⟩ := ih ((p.token L 1).2.take L [44]).2 (putName out (p.token L 1).1.text) hwc (by omega);exact ⟨r,hr.next (fun f => by show namesF L (f + 1) p out = _;rw [namesF,if_pos herr];simp only [hc,if_true])⟩
      | false => exact ⟨_,1,fun f hf => by
          obtain ⟨g,rfl⟩ : ∃ g,f = g + 1 := ⟨f - 1,by omega⟩
          show namesF L (g + 1) p out = _
          rw [namesF,if_pos herr];simp only [hc];rw [if_neg (by simp)]⟩
    · exact ⟨_,1,fun f hf => by
        obtain ⟨g,rfl⟩ : ∃ g,f = g + 1 := ⟨f - 1,by omega⟩
        show namesF L (g + 1) p out = _
        rw [namesF,if_neg herr]⟩
theorem pNames_ev (L : List Tok) (p : PS) (hw : PW L p) : ∃ r,Ev (fun f => pNames L f p) r := by
  have hq := (hw.need [40]).take [41]
  cases hc : ((p.need L [40]).take L [41]).1 with
  | true => exact ⟨_,0,fun f _ => by show pNames L f p = _;unfold pNames;simp only [hc,if_true];rfl⟩
  | false =>
    obtain ⟨r,F,hr⟩ := namesF_ev L _ _ [] hq (Nat.le_refl _);exact ⟨_,F,fun f hf => by
      show pNames L f p = _
      unfold pNames;simp only [hc];have hr := hr f hf;simp only at hr;rw [if_neg (by simp),hr];rfl⟩
theorem matsF_ev (L : List Tok) : ∀ (n : Nat) (p : PS) (out : List Mat),PW L p → L.length - p.i ≤ n → ∃ r,Ev (fun f => matsF L f p out) r := by
  intro n
  induction n with
  | zero => intro p out hw h;have := hw.at';omega
  | succ n ih =>
    intro p out hw h
    by_cases herr : p.err = 0
    · obtain ⟨k1,k2,-⟩ := pOne_keep hw
      have hwc := k1.take [44];have i2 := PS.take_i L (pOne L p).2 [44];cases hc : ((pOne L p).2.take L [44]).1 with
      | true =>
        have := i2.2 hc;obtain ⟨r,hr⟩ := ih ((pOne L p).2.take L [44]).2 (out ++ [(pOne L p).1]) hwc (by omega);exact ⟨r,hr.next (fun f => by show matsF L (f + 1) p out = _;rw [matsF,if_pos herr];simp only [hc,if_true])⟩
      | false => exact ⟨_,1,fun f hf => by
          obtain ⟨g,rfl⟩ : ∃ g,f = g + 1 := ⟨f - 1,by omega⟩
          show matsF L (g + 1) p out = _
          rw [matsF,if_pos herr];simp only [hc];rw [if_neg (by simp)]⟩
    · exact ⟨_,1,fun f hf => by
        obtain ⟨g,rfl⟩ : ∃ g,f = g + 1 := ⟨f - 1,by omega⟩
        show matsF L (g + 1) p out = _
        rw [matsF,if_neg herr]⟩
theorem pMatch_ev (L : List Tok) (p : PS) (hw : PW L p) : ∃ r,Ev (fun f => pMatch L f p) r := by
  have hq := (hw.take [123]).take [125]
  cases hc : (p.take L [123]).1 with
  | false => exact ⟨_,0,fun f _ => by show pMatch L f p = _;unfold pMatch;simp only [hc];rw [if_neg (by simp)]⟩
  | true =>
    cases hd : ((p.take L [123]).2.take L [125]).1 with
    | true => exact ⟨_,0,fun f _ => by show pMatch L f p = _;unfold pMatch;simp only [hc,hd,if_true];rfl⟩
    | false =>
      obtain ⟨r,F,hr⟩ := matsF_ev L _ _ [] hq (Nat.le_refl _);exact ⟨_,F,fun f hf => by
        show pMatch L f p = _
        unfold pMatch;have hr := hr f hf;simp only at hr;simp only [hc,hd,if_true];rw [if_neg (by simp),hr];rfl⟩
theorem pWindow_ev (L : List Tok) (fn : Int) (p : PS) (hw : PW L p) : ∃ r,Ev (fun f => pWindow L f fn p) r := by
  obtain ⟨r,F,hr⟩ := pMatch_ev L ((p.need L [40]).token L 1).2 ((hw.need [40]).token 1 (by decide))
  exact ⟨_,F,fun f hf => by
    show pWindow L f fn p = _
    unfold pWindow;have hr := hr f hf;simp only at hr;simp only [hr];rfl⟩
structure Ends (L : List Tok) (n : Nat) : Prop where
  atom : ∀ p,PW L p → L.length - p.i ≤ n → ∃ r,Ev (fun f => pAtom L f p) r
  term : ∀ p,PW L p → L.length - p.i ≤ n → ∃ r,Ev (fun f => pTerm L f p) r
  expr : ∀ p,PW L p → L.length - p.i ≤ n → ∃ r,Ev (fun f => pExpr L f p) r
theorem step_ev {L : List Tok} {n : Nat} (h : Ends L n) (op : Int) (x : Ex) (deep : Bool) (p : PS) (hw : PW L p) (hn : L.length - p.i ≤ n) : ∃ r,Ev (fun f => pStep L f op x deep p) r := by
  by_cases hk : p.err = 0 ∧ (p.tok L).kind = 2
  · exact ⟨_,1,fun f hf => by
      obtain ⟨g,rfl⟩ : ∃ g,f = g + 1 := ⟨f - 1,by omega⟩
      show pStep L (g + 1) op x deep p = _
      rw [pStep,if_pos hk]⟩
  · have hw2 := hw.take [111,110]
    have i2 := (PS.take_i L p [111,110]).1;obtain ⟨⟨ns,q⟩,F,hF,hwq,hqi⟩ : ∃ (y : List (List UInt8) × PS) (F : Nat),(∀ f,F ≤ f → (if (p.take L [111,110]).1 then pNames L f (p.take L [111,110]).2 else some ([],(p.take L [111,110]).2)) = some y) ∧ PW L y.2 ∧ p.i ≤ y.2.i := by
      cases hc : (p.take L [111,110]).1 with
      | true =>
        obtain ⟨⟨ns,q⟩,F,hr⟩ := pNames_ev L _ hw2;have h0 := hr F (Nat.le_refl _);simp only at h0;obtain ⟨a,-,b⟩ := pNames_keep h0 hw2;exact ⟨(ns,q),F,fun f hf => by rw [if_pos rfl];exact hr f hf,a,by simp only;omega⟩
      | false => exact ⟨([],(p.take L [111,110]).2),0,fun f _ => by rw [if_neg (by simp)],hw2,i2⟩
    have hy : ∃ r,Ev (fun f => if deep then pTerm L f q else pAtom L f q) r := by
      simp only at hqi;cases deep with
      | true => simpa using h.term q hwq (by omega)
      | false => simpa using h.atom q hwq (by omega)
    obtain ⟨y,G,hG⟩ := hy;exact ⟨_,F + G + 1,fun f hf => by
      obtain ⟨g,rfl⟩ : ∃ g,f = g + 1 := ⟨f - 1,by omega⟩
      show pStep L (g + 1) op x deep p = _
      rw [pStep,if_neg hk];have h1 := hF g (by omega);have h2 := hG g (by omega);simp only at h1 h2 ⊢;rw [h1];simp only;rw [h2];rfl⟩
theorem terms_ev {L : List Tok} {n : Nat} (h : Ends L n) : ∀ (m : Nat) (x : Ex) (p : PS),PW L p → L.length - p.i ≤ m → L.length - p.i ≤ n + 1 → ∃ r,Ev (fun f => pTerms L f x p) r := by
  intro m
  induction m with
  | zero => intro x p hw hm;have := hw.at';omega
  | succ m ih =>
    intro x p hw hm hn;have hw2 := hw.take [42];have i2 := PS.take_i L p [42];have hat := hw2.at';cases hc : (p.take L [42]).1 with
    | false => exact ⟨_,1,fun f hf => by
        obtain ⟨g,rfl⟩ : ∃ g,f = g + 1 := ⟨f - 1,by omega⟩
        show pTerms L (g + 1) x p = _
        rw [pTerms,hc,if_neg (by simp)]⟩
    | true =>
      have := i2.2 hc;obtain ⟨⟨y,q⟩,F,hF⟩ := step_ev h 3 x false (p.take L [42]).2 hw2 (by omega);have h0 := hF F (Nat.le_refl _);obtain ⟨a,b,-⟩ := (keeps L F).step _ _ _ _ _ _ h0 hw2;obtain ⟨r,G,hG⟩ := ih y q a (by omega) (by omega);exact ⟨r,F + G + 1,fun f hf => by
        obtain ⟨g,rfl⟩ : ∃ g,f = g + 1 := ⟨f - 1,by omega⟩
        show pTerms L (g + 1) x p = _
        rw [pTerms,hc,if_pos rfl];have h1 := hF g (by omega);simp only at h1;rw [h1];exact hG g (by omega)⟩
theorem sums_ev {L : List Tok} {n : Nat} (h : Ends L n) : ∀ (m : Nat) (x : Ex) (p : PS),PW L p → L.length - p.i ≤ m → L.length - p.i ≤ n + 1 → ∃ r,Ev (fun f => pSums L f x p) r := by
  intro m
  induction m with
  | zero => intro x p hw hm;have := hw.at';omega
  | succ m ih =>
    intro x p hw hm hn;have hw2 := hw.take [43];have i2 := PS.take_i L p [43];have hat := hw2.at';cases hc : (p.take L [43]).1 with
    | false =>
      have hw3 := hw2.take [45];have i3 := PS.take_i L (p.take L [43]).2 [45];have hat3 := hw3.at';cases hd : ((p.take L [43]).2.take L [45]).1 with
      | false => exact ⟨_,1,fun f hf => by
          obtain ⟨g,rfl⟩ : ∃ g,f = g + 1 := ⟨f - 1,by omega⟩
          show pSums L (g + 1) x p = _
          rw [pSums,hc,if_neg (by simp)];simp only;rw [hd,if_neg (by simp)]⟩
      | true =>
        have := i3.2 hd;obtain ⟨⟨y,q⟩,F,hF⟩ := step_ev h 2 x true ((p.take L [43]).2.take L [45]).2 hw3 (by omega);have h0 := hF F (Nat.le_refl _);obtain ⟨a,b,-⟩ := (keeps L F).step _ _ _ _ _ _ h0 hw3;obtain ⟨r,G,hG⟩ := ih y q a (by omega) (by omega);exact ⟨r,F + G + 1,fun f hf => by
          obtain ⟨g,rfl⟩ : ∃ g,f = g + 1 := ⟨f - 1,by omega⟩
          show pSums L (g + 1) x p = _
          rw [pSums,hc,if_neg (by simp)];simp only;rw [hd,if_pos rfl];have h1 := hF g (by omega);simp only at h1;rw [h1];exact hG g (by omega)⟩
    | true =>
      have := i2.2 hc;obtain ⟨⟨y,q⟩,F,hF⟩ := step_ev h 1 x true (p.take L [43]).2 hw2 (by omega);have h0 := hF F (Nat.le_refl _);obtain ⟨a,b,-⟩ := (keeps L F).step _ _ _ _ _ _ h0 hw2;obtain ⟨r,G,hG⟩ := ih y q a (by omega) (by omega);exact ⟨r,F + G + 1,fun f hf => by
        obtain ⟨g,rfl⟩ : ∃ g,f = g + 1 := ⟨f - 1,by omega⟩
        show pSums L (g + 1) x p = _
        rw [pSums,hc,if_pos rfl];have h1 := hF g (by omega);simp only at h1;rw [h1];exact hG g (by omega)⟩
theorem ends (L : List Tok) : ∀ n,Ends L n := by
  intro n
  induction n with
  | zero => exact ⟨fun p hw h => by have := hw.at';omega,fun p hw h => by have := hw.at';omega,fun p hw h => by have := hw.at';omega⟩
  | succ n ih =>
    have hatom : ∀ p,PW L p → L.length - p.i ≤ n + 1 → ∃ r,Ev (fun f => pAtom L f p) r := by
      intro p hw hn;have hw2 := hw.take [40];have i2 := PS.take_i L p [40];have hat2 := hw2.at';cases hc : (p.take L [40]).1 with
      | true =>
        have := i2.2 hc;obtain ⟨r,F,hF⟩ := ih.expr (p.take L [40]).2 hw2 (by omega);exact ⟨_,F + 1,fun f hf => by
          obtain ⟨g,rfl⟩ : ∃ g,f = g + 1 := ⟨f - 1,by omega⟩
          show pAtom L (g + 1) p = _
          rw [pAtom,hc,if_pos rfl];have h1 := hF g (by omega);simp only at h1;rw [h1];rfl⟩
      | false =>
        obtain ⟨q,hq⟩ : ∃ q,(p.take L [40]).2 = q := ⟨_,rfl⟩;rw [hq] at hw2 i2 hat2;have hA : ∀ g,pAtom L (g + 1) p = atomRest L g q (fun q => pExpr L g q) := fun g => by rw [pAtom,hc,if_neg (by simp),hq]
        cases ho : (if (q.tok L).kind = 1 then funcOf (q.tok L).text else none) with
        | none => exact ⟨_,1,fun f hf => by
            obtain ⟨g,rfl⟩ : ∃ g,f = g + 1 := ⟨f - 1,by omega⟩
            show pAtom L (g + 1) p = _
            rw [hA];unfold atomRest;rw [ho]⟩
        | some kf =>
          obtain ⟨k,fn⟩ := kf;have hk1 : (q.tok L).kind = 1 := by
            cases Decidable.em ((q.tok L).kind = 1) with
            | inl h => exact h
            | inr h => rw [if_neg h] at ho;cases ho
          have hw3 := hw2.on (by omega)
          by_cases hk : k = 1
          · obtain ⟨r,F,hF⟩ := pWindow_ev L fn _ hw3
            exact ⟨_,F + 1,fun f hf => by
              obtain ⟨g,rfl⟩ : ∃ g,f = g + 1 := ⟨f - 1,by omega⟩
              show pAtom L (g + 1) p = _
              rw [hA];unfold atomRest;rw [ho];simp only;rw [if_pos hk];exact hF g (by omega)⟩
          · have hw4 := hw3.need [98,121]
            have i4 : q.i + 1 ≤ _ := PS.need_i L { q with i := q.i + 1 } [98,121];obtain ⟨⟨ns,q3⟩,F,hF⟩ := pNames_ev L _ hw4;have h0 := hF F (Nat.le_refl _);simp only at h0;obtain ⟨a,-,b⟩ := pNames_keep h0 hw4;have i5 := PS.need_i L q3 [40];obtain ⟨r,G,hG⟩ := ih.expr (q3.need L [40]) (a.need [40]) (by omega);exact ⟨_,F + G + 1,fun f hf => by
              obtain ⟨g,rfl⟩ : ∃ g,f = g + 1 := ⟨f - 1,by omega⟩
              show pAtom L (g + 1) p = _
              rw [hA];unfold atomRest;rw [ho];simp only;have h1 := hF g (by omega);have h2 := hG g (by omega);simp only at h1 h2;rw [if_neg hk,h1];simp only;rw [h2];rfl⟩
    have hterm : ∀ p,PW L p → L.length - p.i ≤ n + 1 → ∃ r,Ev (fun f => pTerm L f p) r := by
      intro p hw hn;obtain ⟨⟨x,q⟩,F,hF⟩ := hatom p hw hn;have h0 := hF F (Nat.le_refl _);obtain ⟨a,b,-⟩ := (keeps L F).atom _ _ _ h0 hw;obtain ⟨r,G,hG⟩ := terms_ev ih _ x q a (Nat.le_refl _) (by omega);exact ⟨r,F + G + 1,fun f hf => by
        obtain ⟨g,rfl⟩ : ∃ g,f = g + 1 := ⟨f - 1,by omega⟩
        show pTerm L (g + 1) p = _
        have h1 := hF g (by omega);simp only at h1;rw [pTerm,h1];exact hG g (by omega)⟩
    refine ⟨hatom,hterm,?_⟩;intro p hw hn;obtain ⟨⟨x,q⟩,F,hF⟩ := hterm p hw hn;have h0 := hF F (Nat.le_refl _);obtain ⟨a,b,-⟩ := (keeps L F).term _ _ _ h0 hw;obtain ⟨⟨y,q2⟩,G,hG⟩ := sums_ev ih _ x q a (Nat.le_refl _) (by omega);have hS : ∀ g,F + G + 1 ≤ g → pSum L g p = some (y,q2) := fun f hf => by
      obtain ⟨g,rfl⟩ : ∃ g,f = g + 1 := ⟨f - 1,by omega⟩;have h1 := hF g (by omega);simp only at h1;rw [pSum,h1];exact hG g (by omega)
    cases hc : pCmp L cmpSigns 4 q2 with
    | mk o q3 =>
      cases o with
      | none => exact ⟨_,F + G + 2,fun f hf => by
          obtain ⟨g,rfl⟩ : ∃ g,f = g + 1 := ⟨f - 1,by omega⟩
          show pExpr L (g + 1) p = _
          rw [pExpr,hS g (by omega)];simp only [hc];rfl⟩
      | some op => exact ⟨_,F + G + 2,fun f hf => by
          obtain ⟨g,rfl⟩ : ∃ g,f = g + 1 := ⟨f - 1,by omega⟩
          show pExpr L (g + 1) p = _
          rw [pExpr,hS g (by omega)];simp only [hc];rfl⟩
theorem expr_ev (L : List Tok) (p : PS) (hw : PW L p) : ∃ r,Ev (fun f => pExpr L f p) r := (ends L _).expr p hw (Nat.le_refl _)
structure Szs (L : List Tok) (f : Nat) : Prop where
  atom : ∀ p e p',pAtom L f p = some (e,p') → PW L p → e.size + 2 * p.i ≤ 2 * p'.i + 1
  step : ∀ op x d p e p',pStep L f op x d p = some (e,p') → PW L p → e.size + 2 * p.i ≤ x.size + 2 * p'.i + 2
  term : ∀ p e p',pTerm L f p = some (e,p') → PW L p → e.size + 2 * p.i ≤ 2 * p'.i + 1
  terms : ∀ x p e p',pTerms L f x p = some (e,p') → PW L p → e.size + 2 * p.i ≤ x.size + 2 * p'.i
  sum : ∀ p e p',pSum L f p = some (e,p') → PW L p → e.size + 2 * p.i ≤ 2 * p'.i + 1
  sums : ∀ x p e p',pSums L f x p = some (e,p') → PW L p → e.size + 2 * p.i ≤ x.size + 2 * p'.i
  expr : ∀ p e p',pExpr L f p = some (e,p') → PW L p → e.size + 2 * p.i ≤ 2 * p'.i + 1
theorem size0 (kind fn op num : Int) (metric : ByteArray) (mats : List Mat) (span : Int) (names : List ByteArray) : (Ex.mk kind fn op num metric mats span names []).size = 1 := by simp [Ex.size,sizes]
theorem size1 (kind fn op num : Int) (metric : ByteArray) (mats : List Mat) (span : Int) (names : List ByteArray) (a : Ex) : (Ex.mk kind fn op num metric mats span names [a]).size = 1 + a.size := by simp [Ex.size,sizes]
theorem size2 (kind fn op num : Int) (metric : ByteArray) (mats : List Mat) (span : Int) (names : List ByteArray) (a b : Ex) : (Ex.mk kind fn op num metric mats span names [a,b]).size = 1 + (a.size + b.size) := by simp [Ex.size,sizes]
theorem pCmp_some {L : List Tok} : ∀ (l : List (List UInt8)) (k : Int) (p : PS) (op : Int),(pCmp L l k p).1 = some op → p.i < (pCmp L l k p).2.i
  | [],k,p,op,h => by cases h
  | s :: r,k,p,op,h => by
    unfold pCmp at h ⊢;have i2 := PS.take_i L p s
    split
    · rename_i hc;exact i2.2 hc
    · rename_i hc
      rw [if_neg hc] at h;have := pCmp_some r (k + 1) _ op h;omega
theorem szs (L : List Tok) : ∀ f,Szs L f := by
  intro f
  induction f with
  | zero => exact ⟨fun p e p' h => by simp [pAtom] at h,fun op x d p e p' h => by simp [pStep] at h,fun p e p' h => by simp [pTerm] at h,fun x p e p' h => by simp [pTerms] at h,fun p e p' h => by simp [pSum] at h,fun x p e p' h => by simp [pSums] at h,fun p e p' h => by simp [pExpr] at h⟩
  | succ f ih =>
    refine ⟨?_,?_,?_,?_,?_,?_,?_⟩
    · intro p e p' h hw
      rw [pAtom] at h;have hw2 := hw.take [40];have i2 := (PS.take_i L p [40]).1
      split at h
      · obtain ⟨⟨e0,q⟩,h0,h1⟩ := Option.map_eq_some_iff.1 h
        simp only [Prod.mk.injEq] at h1;obtain ⟨rfl,rfl⟩ := h1;have a := ih.expr _ _ _ h0 hw2;have := PS.need_i L q [41];omega
      · unfold atomRest at h
        split at h
        · simp only [Option.some.injEq,Prod.mk.injEq] at h
          obtain ⟨rfl,rfl⟩ := h;rw [PS.fail_i];have : noEx.size = 1 := size0 _ _ _ _ _ _ _ _;omega
        · rename_i k fn heq
          have hk1 : ((p.take L [40]).2.tok L).kind = 1 := by
            cases Decidable.em (((p.take L [40]).2.tok L).kind = 1) with
            | inl h => exact h
            | inr h => rw [if_neg h] at heq;cases heq
          have hw3 := hw2.on (by omega)
          split at h
          · obtain ⟨a,b,c⟩ := pWindow_keep h hw3
            have b : (p.take L [40]).2.i + 1 ≤ p'.i := b;unfold pWindow at h;obtain ⟨⟨ms,q4⟩,hm,hr⟩ := Option.map_eq_some_iff.1 h;simp only [Prod.mk.injEq] at hr;obtain ⟨rfl,-⟩ := hr;rw [size0];omega
          · cases hn : pNames L f (PS.need L { (p.take L [40]).2 with i := (p.take L [40]).2.i + 1 } [98,121]) with
            | none => rw [hn] at h;cases h
            | some y =>
              obtain ⟨ns,q⟩ := y;rw [hn] at h;obtain ⟨⟨e0,q2⟩,h0,h1⟩ := Option.map_eq_some_iff.1 h;simp only [Prod.mk.injEq] at h1;obtain ⟨rfl,rfl⟩ := h1;have hw4 := hw3.need [98,121];obtain ⟨a,-,b⟩ := pNames_keep hn hw4;have i4 := PS.need_i L { (p.take L [40]).2 with i := (p.take L [40]).2.i + 1 } [98,121];have i4 : (p.take L [40]).2.i + 1 ≤ _ := i4;have c := ih.expr _ _ _ h0 (a.need [40]);have i5 := PS.need_i L q [40];have i6 := PS.need_i L q2 [41];rw [size1];omega
    · intro op x d p e p' h hw
      rw [pStep] at h
      split at h
      · simp only [Option.some.injEq,Prod.mk.injEq] at h
        obtain ⟨rfl,rfl⟩ := h;rw [size1];simp only;omega
      · simp only at h
        have hw2 := hw.take [111,110];have i2 := (PS.take_i L p [111,110]).1;cases hn : (if (p.take L [111,110]).1 then pNames L f (p.take L [111,110]).2 else some ([],(p.take L [111,110]).2)) with
        | none => rw [hn] at h;cases h
        | some y =>
          obtain ⟨ns,q⟩ := y;rw [hn] at h;have hq : PW L q ∧ p.i ≤ q.i := by
            split at hn
            · obtain ⟨a,-,b⟩ := pNames_keep hn hw2
              exact ⟨a,by omega⟩
            · simp only [Option.some.injEq,Prod.mk.injEq] at hn
              obtain ⟨-,rfl⟩ := hn;exact ⟨hw2,i2⟩
          obtain ⟨⟨e0,q2⟩,h0,h1⟩ := Option.map_eq_some_iff.1 h;simp only [Prod.mk.injEq] at h1;obtain ⟨rfl,rfl⟩ := h1;have : e0.size + 2 * q.i ≤ 2 * q2.i + 1 := by
            split at h0
            · exact ih.term _ _ _ h0 hq.1
            · exact ih.atom _ _ _ h0 hq.1
          rw [size2];omega
    · intro p e p' h hw
      rw [pTerm] at h;cases ha : pAtom L f p with
      | none => rw [ha] at h;cases h
      | some y =>
        obtain ⟨x,q⟩ := y;rw [ha] at h;have a := ih.atom _ _ _ ha hw;have b := ih.terms _ _ _ _ h ((keeps L f).atom _ _ _ ha hw).1;omega
    · intro x p e p' h hw
      rw [pTerms] at h;have hw2 := hw.take [42];have i2 := PS.take_i L p [42]
      split at h
      · rename_i hc
        have := i2.2 hc;cases hs : pStep L f 3 x false (p.take L [42]).2 with
        | none => rw [hs] at h;cases h
        | some y =>
          obtain ⟨y,q⟩ := y;rw [hs] at h;have a := ih.step _ _ _ _ _ _ hs hw2;have b := ih.terms _ _ _ _ h ((keeps L f).step _ _ _ _ _ _ hs hw2).1;omega
      · simp only [Option.some.injEq,Prod.mk.injEq] at h
        obtain ⟨rfl,rfl⟩ := h;omega
    · intro p e p' h hw
      rw [pSum] at h;cases ha : pTerm L f p with
      | none => rw [ha] at h;cases h
      | some y =>
        obtain ⟨x,q⟩ := y;rw [ha] at h;have a := ih.term _ _ _ ha hw;have b := ih.sums _ _ _ _ h ((keeps L f).term _ _ _ ha hw).1;omega
    · intro x p e p' h hw
      rw [pSums] at h;have hw2 := hw.take [43];have i2 := PS.take_i L p [43]
      split at h
      · rename_i hc
        have := i2.2 hc;cases hs : pStep L f 1 x true (p.take L [43]).2 with
        | none => rw [hs] at h;cases h
        | some y =>
          obtain ⟨y,q⟩ := y;rw [hs] at h;have a := ih.step _ _ _ _ _ _ hs hw2;have b := ih.sums _ _ _ _ h ((keeps L f).step _ _ _ _ _ _ hs hw2).1;omega
      · have hw3 := hw2.take [45]
        have i3 := PS.take_i L (p.take L [43]).2 [45];simp only at h
        split at h
        · rename_i hc
          have := i3.2 hc;cases hs : pStep L f 2 x true ((p.take L [43]).2.take L [45]).2 with
          | none => rw [hs] at h;cases h
          | some y =>
            obtain ⟨y,q⟩ := y;rw [hs] at h;have a := ih.step _ _ _ _ _ _ hs hw3;have b := ih.sums _ _ _ _ h ((keeps L f).step _ _ _ _ _ _ hs hw3).1;omega
        · simp only [Option.some.injEq,Prod.mk.injEq] at h
          obtain ⟨rfl,rfl⟩ := h;omega
    · intro p e p' h hw
      rw [pExpr] at h;cases ha : pSum L f p with
      | none => rw [ha] at h;cases h
      | some y =>
        obtain ⟨x,q⟩ := y;rw [ha] at h;have a := ih.sum _ _ _ ha hw;have hwq := ((keeps L f).sum _ _ _ ha hw).1;obtain ⟨a2,b2⟩ := pCmp_keep cmpSigns 4 q hwq;have cs := pCmp_some (L := L) cmpSigns 4 q;simp only at h;cases hc : pCmp L cmpSigns 4 q with
        | mk o q2 =>
          rw [hc] at h a2 b2 cs;have b2 : q.i ≤ q2.i := b2;cases o with
          | none =>
            simp only [Option.some.injEq,Prod.mk.injEq] at h;obtain ⟨rfl,rfl⟩ := h;omega
          | some op =>
            have cs : q.i < q2.i := cs op rfl;simp only [Option.some.injEq,Prod.mk.injEq] at h;obtain ⟨rfl,rfl⟩ := h;have := PS.token_i L q2 2;rw [size1];omega
theorem expr_size {L : List Tok} {f : Nat} {p : PS} {e : Ex} {p' : PS} (h : pExpr L f p = some (e,p')) (hw : PW L p) : e.size ≤ 200001 := by
  have a := (szs L f).expr _ _ _ h hw
  have b := ((keeps L f).expr _ _ _ h hw).1
  have := b.at';have := b.len
  omega
theorem wholeV_bd {l : List UInt8} (h : wholeOk l = true) : -9223372036854775808 ≤ wholeV l ∧ wholeV l ≤ 9223372036854775807 := by
  cases l with
  | nil => simp [wholeOk] at h
  | cons c r =>
    unfold wholeOk at h;unfold wholeV
    by_cases hc : c = 45
    · subst hc
      simp at h
      have := h.2
      simp;omega
    · have hb : (c == 45) = false := by simp [hc]
      simp only [hb,Bool.false_eq_true,if_false,Bool.and_eq_true,decide_eq_true_eq] at h ⊢;have := h.2;omega
theorem tokAt_bd {free : Bool} {l : List UInt8} {t : Tok} {n : Nat} (h : tokAt free l = some (t,n)) : t.text.length ≤ l.length + 64 ∧ (-9223372036854775808 ≤ t.num ∧ t.num ≤ 9223372036854775807) := by
  match l,h with
  | [],h => cases h
  | c :: r,h =>
    simp only [tokAt] at h
    split at h
    · split at h
      · cases h;refine ⟨?_,by simp⟩
        have := List.length_take_le (runN wordC r + 1) (c :: r);simp only [List.length_take,List.length_cons];omega
      · cases h
    · split at h
      · cases hh : textAt r with
        | none => rw [hh] at h;cases h
        | some y =>
          obtain ⟨y,m⟩ := y;rw [hh] at h;simp only at h
          split at h
          · rename_i hy;cases h;exact ⟨by simp only;omega,by simp⟩
          · cases h
      · split at h
        · split at h
          · rename_i hw
            cases h;simp only [Bool.and_eq_true] at hw;refine ⟨by simp only [List.length_take,List.length_cons];omega,wholeV_bd hw.1⟩
          · cases h
        · simp only [signAt] at h
          split at h
          · cases h;exact ⟨by simp <;> omega,by simp⟩
          · split at h
            · cases h;exact ⟨by simp,by simp⟩
            · cases h
theorem scan_bd : ∀ (f : Nat) (free : Bool) (at' : Nat) (r : List UInt8) (l : List Tok),scan f free at' r = .ok l →
    (∃ t l',l = l' ++ [t] ∧ t.kind = 5) ∧ l.length ≤ f ∧ (∀ t ∈ l,t.text.length ≤ r.length + 64 ∧ (-9223372036854775808 ≤ t.num ∧ t.num ≤ 9223372036854775807))
  | 0,_,_,_,_,h => by simp [scan] at h
  | f + 1,free,at',[],l,h => by
    simp only [scan,Except.ok.injEq] at h;subst h;exact ⟨⟨_,[],rfl,rfl⟩,by simp,by simp⟩
  | f + 1,free,at',c :: r,l,h => by
    simp only [scan] at h
    split at h
    · obtain ⟨a,b,c'⟩ := scan_bd f _ _ _ _ h
      exact ⟨a,by omega,fun t ht => ⟨by have := (c' t ht).1;simp only [List.length_cons];omega,(c' t ht).2⟩⟩
    · split at h
      · obtain ⟨a,b,c'⟩ := scan_bd f _ _ _ _ h
        exact ⟨a,by omega,fun t ht => ⟨by have := (c' t ht).1;simp only [List.length_cons,List.length_drop] at this ⊢;omega,(c' t ht).2⟩⟩
      · cases ht : tokAt free (c :: r) with
        | none => rw [ht] at h;cases h
        | some x =>
          obtain ⟨t,n⟩ := x;rw [ht] at h;simp only at h;cases hs : scan f t.free (at' + n) ((c :: r).drop n) with
          | error a => rw [hs] at h;cases h
          | ok l' =>
            rw [hs] at h;simp only [Except.ok.injEq] at h;subst h;obtain ⟨⟨u,l2,rfl,hu⟩,b,c'⟩ := scan_bd f _ _ _ _ hs;have hb := tokAt_bd ht;refine ⟨⟨u,{ t with pos := at' } :: l2,rfl,hu⟩,by simp at b ⊢;omega,fun x hx => ?_⟩;rcases List.mem_cons.1 hx with rfl | hx
            · exact hb
            · have := c' x hx
              exact ⟨by have := this.1;simp only [List.length_drop] at this;omega,this.2⟩
def LX (s : ByteArray) : List Tok := if (lexAll s).2.1 = 0 then (lexAll s).1 else [⟨5,[],0,0⟩]
def PX (s : ByteArray) : PS := ⟨0,(lexAll s).2.1,(lexAll s).2.2,0⟩
theorem pw_begin (s : ByteArray) : PW (LX s) (PX s) := by
  have hz : ∀ e a : Int,PW [⟨5,[],0,0⟩] ⟨0,e,a,0⟩ := fun e a => ⟨⟨_,[],rfl,rfl⟩,by simp,by simp,by simp,by simp,by simp,by simp⟩
  unfold LX PX lexAll
  by_cases h : 16384 < s.size
  · rw [if_pos h];exact hz _ _
  · rw [if_neg h]
    cases hl : lexL true 0 (sl s 0) with
    | error a => exact hz _ _
    | ok l =>
      simp only [if_true];have hlen : (sl s 0).length = s.size := by rw [sl_length];omega
      obtain ⟨⟨u,l2,rfl,hu⟩,b,c⟩ := scan_bd _ _ _ _ _ hl;rw [hlen] at b c;exact ⟨⟨u,l2,rfl,hu⟩,by omega,by simp,by simp,by simp,fun t ht => by have := (c t ht).1;omega,fun t ht => (c t ht).2⟩
def PS.over (L : List Tok) (p : PS) : PS := if p.err = 0 ∧ (p.tok L).kind ≠ 5 then p.fail 14 (p.tok L).pos else p
def PS.done (L : List Tok) (p : PS) (e : Int) : PS := if e = 0 then p.over L else (p.over L).fail e 0
def tEvery : List UInt8 := [101,118,101,114,121]
def P1 (s : ByteArray) : PS := (PX s).need (LX s) tEvery
def EV (s : ByteArray) : Int := ((P1 s).token (LX s) 2).1.num
def P2 (s : ByteArray) : PS := ((P1 s).token (LX s) 2).2
def P3 (s : ByteArray) : PS := (P2 s).need (LX s) [58]
theorem pw1 (s : ByteArray) : PW (LX s) (P1 s) := (pw_begin s).need _
theorem pw2 (s : ByteArray) : PW (LX s) (P2 s) := (pw1 s).token 2 (by decide)
theorem pw3 (s : ByteArray) : PW (LX s) (P3 s) := (pw2 s).need _
def ZQ : List Value := [.int .i64 0,.int .i64 0,.int .i64 0,.int .i64 0,.int .i64 0,.string ⟨#[]⟩,.slice none 0 0,.int .i64 0,.slice none 0 0,.slice none 0 0]
structure QS (s : ByteArray) (w : World) (g : Nat) (pt : Option Addr) (cap : Nat) (p : PS) (W : World) : Prop where
  res : Blk W w.heap.size 42 ZQ
  flt : Blk W (w.heap.size + 1) 31 [.int .i64 0,.int .i64 0]
  pa : PA g pt cap (LX s) p W
  bel : Below w.heap.size w W
  gge : w.heap.size + 2 ≤ g
theorem QS.off {s : ByteArray} {w : World} {g : Nat} {pt : Option Addr} {cap : Nat} {p q : PS} {W X : World} (h : QS s w g pt cap p W) (hP : PA g pt cap (LX s) q X) (ho : Off g W X) : QS s w g pt cap q X :=
  have h1 := h.gge
  ⟨ho.blkX h.res (by omega),ho.blkX h.flt (by omega),hP,h.bel.trans (ho.below (by omega) h.bel.size),h.gge⟩
theorem QS.keep {s : ByteArray} {w : World} {g : Nat} {pt : Option Addr} {cap : Nat} {p : PS} {W X : World} (h : QS s w g pt cap p W) (hb : Below W.heap.size W X) : QS s w g pt cap p X :=
  ⟨h.res.keep hb,h.flt.keep hb,h.pa.keep hb,h.bel.trans (hb.mono h.bel.size),h.gge⟩
theorem QS.start {s : ByteArray} {w : World} {g : Nat} {pt : Option Addr} {cap : Nat} {p : PS} {X : World} (hg : ((w.alloc (.cells ZQ.toArray 42)).alloc (.cells ([.int .i64 0,.int .i64 0] : List Value).toArray 31)).heap.size ≤ g)
    (hP : PA g pt cap (LX s) p X) (hb : Below ((w.alloc (.cells ZQ.toArray 42)).alloc (.cells ([.int .i64 0,.int .i64 0] : List Value).toArray 31)).heap.size ((w.alloc (.cells ZQ.toArray 42)).alloc (.cells ([.int .i64 0,.int .i64 0] : List Value).toArray 31)) X) : QS s w g pt cap p X :=
  ⟨(two_at w _ _ _ _).keep hb,(two_at' w _ _ _).keep hb,hP,(two_below w _ _).trans (hb.mono (by simp;omega)),by simp at hg;omega⟩
def outer (m g b : Nat) : Nat → Prop := fun k => m + 2 ≤ k ∧ k ≠ g ∧ k ≠ b
structure QT (s : ByteArray) (w : World) (g : Nat) (pt : Option Addr) (cap : Nat) (b : Nat) (e : Ex) (cs : List Value) (p : PS) (W : World) : Prop where
  qs : QS s w g pt cap p W
  q : Blk W b 42 (.int .i64 (EV s) :: cs)
  ex : ExS (outer w.heap.size g b) W e cs
  bge : w.heap.size + 2 ≤ b
  bg : g < b
theorem QT.off {s : ByteArray} {w : World} {g : Nat} {pt : Option Addr} {cap b : Nat} {e : Ex} {cs : List Value} {p q : PS} {W X : World} (h : QT s w g pt cap b e cs p W) (hP : PA g pt cap (LX s) q X) (ho : Off g W X) : QT s w g pt cap b e cs q X :=
  ⟨h.qs.off hP ho,ho.blkX h.q (Nat.ne_of_gt h.bg),h.ex.off ho (fun k => k.2.1 rfl),h.bge,h.bg⟩
theorem QT.keep {s : ByteArray} {w : World} {g : Nat} {pt : Option Addr} {cap b : Nat} {e : Ex} {cs : List Value} {p : PS} {W X : World} (h : QT s w g pt cap b e cs p W) (hb : Below W.heap.size W X) : QT s w g pt cap b e cs p X :=
  ⟨h.qs.keep hb,h.q.keep hb,h.ex.below hb,h.bge,h.bg⟩
theorem QS.set {s : ByteArray} {w : World} {g : Nat} {pt : Option Addr} {cap : Nat} {p : PS} {W : World} (h : QS s w g pt cap p W) {k : Nat} (hk : g < k) (i : Nat) (u : Value) : QS s w g pt cap p (W.setCell ⟨k,i,none⟩ u) :=
  have h1 := h.gge
  ⟨h.res.far (show w.heap.size ≠ k by omega) u,h.flt.far (show w.heap.size + 1 ≠ k by omega) u,h.pa.setFar hk i u,h.bel.setCell (show w.heap.size ≤ k by omega) u,h.gge⟩
theorem QT.made {s : ByteArray} {w : World} {g : Nat} {pt : Option Addr} {cap b n : Nat} {e : Ex} {p : PS} {W : World} {v1 v2 v3 v4 v5 v6 v7 v8 v9 : Value} (h : QS s w g pt cap p W) (hB : Blk W b 42 (.int .i64 (EV s) :: ZX))
    (hx : ExS (fun k => n ≤ k) W e [v1,v2,v3,v4,v5,v6,v7,v8,v9]) (hbn : b < n) (hg : g < b) (hb : w.heap.size + 2 ≤ b) :
    QT s w g pt cap b e [v1,v2,v3,v4,v5,v6,v7,v8,v9] p (((((((((W.setCell ⟨b,1,none⟩ v1).setCell ⟨b,2,none⟩ v2).setCell ⟨b,3,none⟩ v3).setCell ⟨b,4,none⟩ v4).setCell ⟨b,5,none⟩ v5).setCell ⟨b,6,none⟩ v6).setCell ⟨b,7,none⟩ v7).setCell ⟨b,8,none⟩ v8).setCell ⟨b,9,none⟩ v9) := by
  have hx2 : ExS (outer w.heap.size g b) W e [v1,v2,v3,v4,v5,v6,v7,v8,v9] := hx.go (Nat.le_refl _) (fun k _ h => by have h : n ≤ k := h;exact ⟨by omega,by omega,by omega⟩) (fun _ _ _ => rfl)
  have hn : ¬ outer w.heap.size g b b := fun h => h.2.2 rfl
  exact ⟨((((((((h.set hg 1 v1).set hg 2 v2).set hg 3 v3).set hg 4 v4).set hg 5 v5).set hg 6 v6).set hg 7 v7).set hg 8 v8).set hg 9 v9,
    ((((((((hB.set_ 1 v1).set_ 2 v2).set_ 3 v3).set_ 4 v4).set_ 5 v5).set_ 6 v6).set_ 7 v7).set_ 8 v8).set_ 9 v9,
    ((((((((hx2.set hn 1 v1).set hn 2 v2).set hn 3 v3).set hn 4 v4).set hn 5 v5).set hn 6 v6).set hn 7 v7).set hn 8 v8).set hn 9 v9,hb,hg⟩
theorem bodyPost_agg2 {P : Program} {fn : Func} {R : Ending → World → Prop} {a : Act} {w : World} {p u : Tmp} {ty ty2 g g2 t t2 : Nat} {cs cs2 : Array Value} {fr fr2 : Nat × Nat} {d d2 : TypeDesc}
    (h : fn.results = #[.cell p ty,.cell u ty2]) (hp : a.tmps.getD p undef = .pointer (some ⟨g,0,none⟩)) (hg : w.heap[g]? = some (.cells cs t fr)) (hu : P.underlying ty = some d)
    (hd : aggD d = true) (hi : (P.info? ty).map (·.size) = some cs.size) (hp2 : a.tmps.getD u undef = .pointer (some ⟨g2,0,none⟩)) (hg2 : w.heap[g2]? = some (.cells cs2 t2 fr2)) (hu2 : P.underlying ty2 = some d2)
    (hd2 : aggD d2 = true) (hi2 : (P.info? ty2).map (·.size) = some cs2.size) (hdf : a.defers = []) (hR : R (.returned (.tuple #[.agg cs,.agg cs2])) w) :
    bodyPost P fn R .ret a w := by
  refine ⟨hdf,_,?_,hR⟩
  have hp' : a.tmps[p]?.getD undef = .pointer (some ⟨g,0,none⟩) := by rw [← hp];simp
  have hp2' : a.tmps[u]?.getD undef = .pointer (some ⟨g2,0,none⟩) := by rw [← hp2];simp
  simp only [results,h]
  simp [Sem.run_bind,Result.andThen,hp',hp2',asAddr,loadRow w g t ty cs fr d hg hu hd hi,loadRow w g2 t2 ty2 cs2 fr2 d2 hg2 hu2 hd2 hi2]
def QryR (s : ByteArray) (e : Ex) (q : PS) (w : World) (e' : Ending) (w' : World) : Prop := Below w.heap.size w w' ∧
  ((q.err = 0 ∧ ∃ cs,e' = .returned (.tuple #[.agg (.int .i64 (EV s) :: cs).toArray,.agg #[.int .i64 0,.int .i64 q.at']]) ∧ IsEx w'.heap.size w' e cs) ∨
   (q.err ≠ 0 ∧ e' = .returned (.tuple #[.agg ZQ.toArray,.agg #[.int .i64 q.err,.int .i64 q.at']])))
theorem tokAt_tw {free : Bool} {l : List UInt8} {t : Tok} {n : Nat} (h : tokAt free l = some (t,n)) : TW t := by
  match l,h with
  | [],h => cases h
  | c :: r,h =>
    simp only [tokAt] at h
    split at h
    · rename_i hc
      split at h
      · cases h
        exact ⟨fun _ => ⟨c,r.take (runN wordC r),by simp,hc⟩,fun h => by simp at h⟩
      · cases h
    · rename_i hc
      split at h
      · cases hh : textAt r with
        | none => rw [hh] at h;cases h
        | some y =>
          obtain ⟨y,m⟩ := y;rw [hh] at h;simp only at h
          split at h
          · cases h;exact ⟨fun h => by simp at h,fun h => by simp at h⟩
          · cases h
      · split at h
        · split at h
          · cases h;exact ⟨fun h => by simp at h,fun h => by simp at h⟩
          · cases h
        · simp only [signAt] at h
          have hc' : letC c = false := by simpa using hc
          split at h
          · cases h;exact ⟨fun h => by simp at h,fun _ => ⟨c,[61],rfl,hc'⟩⟩
          · split at h
            · cases h;exact ⟨fun h => by simp at h,fun _ => ⟨c,[],rfl,hc'⟩⟩
            · cases h
theorem scan_tw : ∀ (f : Nat) (free : Bool) (at' : Nat) (r : List UInt8) (l : List Tok),scan f free at' r = .ok l → ∀ t ∈ l,TW t
  | 0,_,_,_,_,h => by simp [scan] at h
  | f + 1,free,at',[],l,h => by
    simp only [scan,Except.ok.injEq] at h;subst h;intro t ht;simp only [List.mem_cons,List.not_mem_nil,or_false] at ht;subst ht;exact ⟨fun h => by simp at h,fun h => by simp at h⟩
  | f + 1,free,at',c :: r,l,h => by
    simp only [scan] at h
    split at h
    · exact scan_tw f _ _ _ _ h
    · split at h
      · exact scan_tw f _ _ _ _ h
      · cases ht : tokAt free (c :: r) with
        | none => rw [ht] at h;cases h
        | some x =>
          obtain ⟨t,n⟩ := x;rw [ht] at h;simp only at h;cases hs : scan f t.free (at' + n) ((c :: r).drop n) with
          | error a => rw [hs] at h;cases h
          | ok l' =>
            rw [hs] at h;simp only [Except.ok.injEq] at h;subst h;intro x hx;rcases List.mem_cons.1 hx with rfl | hx
            · have h3 := tokAt_tw ht;exact ⟨h3.1,h3.2⟩
            · exact scan_tw f _ _ _ _ hs x hx
theorem lexAll_cases (s : ByteArray) : ((lexAll s).2.1 = 0 ∧ (lexAll s).2.2 = 0 ∧ ∀ t ∈ (lexAll s).1,TW t) ∨ (lexAll s).2.1 ≠ 0 := by
  unfold lexAll
  split
  · right;show (3 : Int) ≠ 0;decide
  · cases hl : lexL true 0 (sl s 0) with
    | error a => right;show (13 : Int) ≠ 0;decide
    | ok l => left;exact ⟨rfl,rfl,scan_tw _ _ _ _ _ hl⟩
theorem qw_begin {s : ByteArray} (h0 : (lexAll s).2.1 = 0) : QW (LX s) (PX s) ∧ LX s = (lexAll s).1 := by
  have e : LX s = (lexAll s).1 := by unfold LX;rw [if_pos h0]
  refine ⟨⟨pw_begin s,?_,h0⟩,e⟩
  rcases lexAll_cases s with ⟨-,-,h⟩ | h
  · rw [e];exact h
  · exact absurd h0 h
def PS.fin (L : List Tok) (p : PS) : PS := (p.token L 5).2
def ReadR (q : PS) (zero : Value) (ok : Value → World → Prop) (w : World) (e' : Ending) (w' : World) : Prop :=
  (q.err = 0 → ∃ v,e' = .returned (.tuple #[v,.agg #[.int .i64 0,.int .i64 0]]) ∧ ok v w') ∧ (q.err ≠ 0 → e' = .returned (.tuple #[zero,.agg #[.int .i64 q.err,.int .i64 q.at']])) ∧ Below w.heap.size w w'
end Go.Proofs.YtpmbamfpmmdhcaaGreat
