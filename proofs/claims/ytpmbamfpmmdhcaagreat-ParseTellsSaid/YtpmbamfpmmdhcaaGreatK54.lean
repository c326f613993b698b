/- Two lists of tokens that are alike: what the parser reads of the one without a fault it reads of the other, unless too many brackets are open there. No program here. -/
import Derived.Test.YtpmbamfpmmdhcaaGreatK18
set_option maxRecDepth 100000
set_option maxHeartbeats 16000000
namespace Go.Proofs.YtpmbamfpmmdhcaaGreat
open Go.RowKit
set_option linter.unusedSimpArgs false
set_option linter.unusedVariables false
structure AlikeT (L M : List Tok) (d n : Nat) : Prop where
  same : ∀ i,i < n → (M.getD (i + d) ⟨5,[],0,0⟩).kind = (L.getD i ⟨5,[],0,0⟩).kind ∧ (M.getD (i + d) ⟨5,[],0,0⟩).text = (L.getD i ⟨5,[],0,0⟩).text ∧ (M.getD (i + d) ⟨5,[],0,0⟩).num = (L.getD i ⟨5,[],0,0⟩).num
  stop : (L.getD n ⟨5,[],0,0⟩).kind = 5
  shut : (M.getD (n + d) ⟨5,[],0,0⟩).kind = 5 ∨ ((M.getD (n + d) ⟨5,[],0,0⟩).kind = 4 ∧ (M.getD (n + d) ⟨5,[],0,0⟩).text = [41])
def Nr (d : Nat) (o : Int) (n : Nat) (p q : PS) : Prop := p.err = 0 ∧ q.err = 0 ∧ q.i = p.i + d ∧ q.opn = p.opn + o ∧ p.i ≤ n
def Ov (o : Int) (q : PS) : Prop := o ≠ 0 ∧ q.err = 3
theorem Ov.stay {o : Int} {q r : PS} (h : Ov o q) (k : St q r) : Ov o r := ⟨h.1,by rw [(k (by rw [h.2];decide)).1];exact h.2⟩
theorem Nr.on {d : Nat} {o : Int} {n : Nat} {p q : PS} (h : Nr d o n p q) (hi : p.i < n) : Nr d o n { p with i := p.i + 1 } { q with i := q.i + 1 } :=
  ⟨h.1,h.2.1,by show q.i + 1 = p.i + 1 + d;rw [h.2.2.1];omega,h.2.2.2.1,hi⟩
section
variable {L M : List Tok} {d n : Nat} {o : Int}
theorem AlikeT.tok (A : AlikeT L M d n) {p q : PS} (h : Nr d o n p q) (hi : p.i < n) : (q.tok M).kind = (p.tok L).kind ∧ (q.tok M).text = (p.tok L).text ∧ (q.tok M).num = (p.tok L).num := by
  unfold PS.tok;rw [h.2.2.1];exact A.same _ hi
theorem AlikeT.last (A : AlikeT L M d n) {p q : PS} (h : Nr d o n p q) (hi : ¬ p.i < n) : (p.tok L).kind = 5 ∧ ((q.tok M).kind = 5 ∨ ((q.tok M).kind = 4 ∧ (q.tok M).text = [41])) := by
  have e : p.i = n := by have := h.2.2.2.2;omega
  unfold PS.tok;rw [h.2.2.1,e];exact ⟨A.stop,A.shut⟩
theorem AlikeT.isT (A : AlikeT L M d n) {p q : PS} (h : Nr d o n p q) {s : List UInt8} (hs : s ≠ [41] ∨ p.i < n) : q.isT M s = p.isT L s := by
  unfold PS.isT
  rw [h.1,h.2.1]
  by_cases hi : p.i < n
  · obtain ⟨a,b,-⟩ := A.tok h hi
    rw [a,b]
  · have hs := hs.resolve_right hi
    obtain ⟨a,b | ⟨b,c⟩⟩ := A.last h hi
    · rw [a,b];rfl
    · rw [a,b,c]
      have e : ([41] == s) = false := by simpa using fun e => hs e.symm
      rw [e];rfl
theorem isT_lt (A : AlikeT L M d n) {p q : PS} (h : Nr d o n p q) {s : List UInt8} (ht : p.isT L s = true) : p.i < n := by
  by_cases hi : p.i < n
  · exact hi
  · obtain ⟨a,-⟩ := A.last h hi
    unfold PS.isT at ht;rw [a] at ht
    simp at ht
theorem take_sim (A : AlikeT L M d n) {p q : PS} (h : Nr d o n p q) {s : List UInt8} (h1 : s ≠ [41] ∨ p.i < n) (h2 : s ≠ [40]) : (q.take M s).1 = (p.take L s).1 ∧ Nr d o n (p.take L s).2 (q.take M s).2 := by
  unfold PS.take
  rw [A.isT h h1]
  by_cases ht : p.isT L s = true
  · have hi := isT_lt A h ht
    rw [if_pos ht,if_pos ht,if_neg h2,if_neg h2]
    split
    · exact ⟨rfl,h.1,h.2.1,by show q.i + 1 = p.i + 1 + d;rw [h.2.2.1];omega,by show q.opn - 1 = p.opn - 1 + o;rw [h.2.2.2.1];omega,hi⟩
    · exact ⟨rfl,h.on hi⟩
  · rw [if_neg ht,if_neg ht];exact ⟨rfl,h⟩
theorem take_open (A : AlikeT L M d n) {p q : PS} (h : Nr d o n p q) (he : (p.take L [40]).2.err = 0) :
    ((q.take M [40]).1 = (p.take L [40]).1 ∧ Nr d o n (p.take L [40]).2 (q.take M [40]).2) ∨ ((q.take M [40]).1 = false ∧ Ov o (q.take M [40]).2) := by
  unfold PS.take at he ⊢
  rw [A.isT h (Or.inl (by decide))]
  by_cases ht : p.isT L [40] = true
  · have hi := isT_lt A h ht
    rw [if_pos ht,if_pos rfl] at he;rw [if_pos ht,if_pos ht,if_pos rfl,if_pos rfl]
    by_cases h64 : p.opn = 64
    · rw [if_pos h64] at he
      unfold PS.fail at he;rw [if_pos h.1] at he;exact absurd (show (3 : Int) = 0 from he) (by decide)
    · rw [if_neg h64]
      by_cases k64 : q.opn = 64
      · rw [if_pos k64]
        refine Or.inr ⟨rfl,?_,?_⟩
        · have := h.2.2.2.1;omega
        · unfold PS.fail;rw [if_pos h.2.1]
      · rw [if_neg k64]
        exact Or.inl ⟨rfl,h.1,h.2.1,by show q.i + 1 = p.i + 1 + d;rw [h.2.2.1];omega,by show q.opn + 1 = p.opn + 1 + o;rw [h.2.2.2.1];omega,hi⟩
  · rw [if_neg ht,if_neg ht];exact Or.inl ⟨rfl,h⟩
theorem need_ok {p : PS} {s : List UInt8} (h : (p.need L s).err = 0) : (p.take L s).1 = true ∧ p.need L s = (p.take L s).2 := by
  unfold PS.need at h ⊢
  by_cases ht : (p.take L s).1 = true
  · rw [if_pos ht];exact ⟨ht,rfl⟩
  · rw [if_neg ht] at h
    obtain ⟨a,-⟩ := Za.fail _ _ _ (by decide) h;unfold PS.fail at h;rw [if_pos a] at h;exact absurd (show (14 : Int) = 0 from h) (by decide)
theorem take_lt (A : AlikeT L M d n) {p q : PS} (h : Nr d o n p q) {s : List UInt8} (ht : (p.take L s).1 = true) : p.i < n := by
  refine isT_lt A h (s := s) ?_
  unfold PS.take at ht
  by_cases hT : p.isT L s = true
  · exact hT
  · rw [if_neg hT] at ht;cases ht
theorem need_sim (A : AlikeT L M d n) {p q : PS} (h : Nr d o n p q) {s : List UInt8} (h2 : s ≠ [40]) (he : (p.need L s).err = 0) : Nr d o n (p.need L s) (q.need M s) := by
  obtain ⟨ht,e⟩ := need_ok he
  obtain ⟨a,b⟩ := take_sim A h (s := s) (Or.inr (take_lt A h ht)) h2
  rw [e];unfold PS.need;rw [a,if_pos ht];exact b
theorem need_open (A : AlikeT L M d n) {p q : PS} (h : Nr d o n p q) (he : (p.need L [40]).err = 0) : Nr d o n (p.need L [40]) (q.need M [40]) ∨ Ov o (q.need M [40]) := by
  obtain ⟨ht,e⟩ := need_ok he
  obtain ⟨a,b⟩ | ⟨a,b⟩ := take_open A h (by rw [← e];exact he)
  · rw [e];unfold PS.need;rw [a,if_pos ht];exact Or.inl b
  · refine Or.inr ?_
    unfold PS.need;rw [a,if_neg (by decide)];exact b.stay (.fail _ _ _)
theorem token_sim (A : AlikeT L M d n) {p q : PS} (h : Nr d o n p q) {k : Int} (hk : k ≠ 5) (he : (p.token L k).2.err = 0) :
    (q.token M k).1.text = (p.token L k).1.text ∧ (q.token M k).1.num = (p.token L k).1.num ∧ Nr d o n (p.token L k).2 (q.token M k).2 := by
  unfold PS.token at he ⊢
  by_cases hc : p.err = 0 ∧ (p.tok L).kind = k
  · have hi : p.i < n := by
      by_cases hi : p.i < n
      · exact hi
      · exact absurd ((A.last h hi).1.symm.trans hc.2).symm hk
    obtain ⟨a,b,c⟩ := A.tok h hi;rw [if_pos hc,if_pos ⟨h.2.1,a.trans hc.2⟩];exact ⟨b,c,h.on hi⟩
  · rw [if_neg hc] at he
    unfold PS.fail at he;rw [if_pos h.1] at he;exact absurd (show (14 : Int) = 0 from he) (by decide)
theorem namesF_sim (A : AlikeT L M d n) : ∀ (f : Nat) (p : PS) (out r : List (List UInt8)) (p' : PS),namesF L f p out = some (r,p') → p'.err = 0 → ∀ (g : Nat) (q : PS) (r2 : List (List UInt8)) (q' : PS),Nr d o n p q → namesF M g q out = some (r2,q') → r2 = r ∧ Nr d o n p' q'
  | 0,p,out,r,p',h,_,_,_,_,_,_,_ => by simp [namesF] at h
  | f + 1,p,out,r,p',h,he,0,q,r2,q',hn,k => by simp [namesF] at k
  | f + 1,p,out,r,p',h,he,g + 1,q,r2,q',hn,k => by
    rw [namesF,if_pos hn.1] at h;rw [namesF,if_pos hn.2.1] at k;simp only at h k;have e1 : (p.token L 1).2.err = 0 := by
      split at h
      · exact ((Za.take L _ _).trans (Za.namesF L f _ _ _ _ h) he).1
      · simp only [Option.some.injEq,Prod.mk.injEq] at h
        obtain ⟨-,rfl⟩ := h;exact (Za.take L _ _ he).1
    obtain ⟨a,-,b⟩ := token_sim A hn (by decide) e1;obtain ⟨c,c'⟩ := take_sim A b (s := [44]) (Or.inl (by decide)) (by decide);rw [a,c] at k
    split at h
    · rename_i ht
      rw [if_pos ht] at k;exact namesF_sim A f _ _ _ _ h he g _ _ _ c' k
    · rename_i ht
      rw [if_neg ht] at k;simp only [Option.some.injEq,Prod.mk.injEq] at h k;obtain ⟨rfl,rfl⟩ := h;obtain ⟨rfl,rfl⟩ := k;exact ⟨rfl,c'⟩
theorem pNames_sim (A : AlikeT L M d n) {f : Nat} {p : PS} {r : List (List UInt8)} {p' : PS} (h : pNames L f p = some (r,p')) (he : p'.err = 0) {g : Nat} {q : PS} {r2 : List (List UInt8)} {q' : PS} (hn : Nr d o n p q) (k : pNames M g q = some (r2,q')) :
    (r2 = r ∧ Nr d o n p' q') ∨ Ov o q' := by
  unfold pNames at h k
  simp only at h k
  have e1 : (p.need L [40]).err = 0 := by
    split at h
    · simp only [Option.some.injEq,Prod.mk.injEq] at h
      obtain ⟨-,rfl⟩ := h;exact (Za.take L _ _ he).1
    · obtain ⟨⟨r0,p0⟩,h0,h2⟩ := Option.map_eq_some_iff.1 h
      simp only [Prod.mk.injEq] at h2;obtain ⟨-,rfl⟩ := h2;exact (((Za.take L _ _).trans (Za.namesF L f _ _ _ _ h0)).trans (.need _ _ _) he).1
  rcases need_open A hn e1 with hb | hb
  · by_cases hi : (p.need L [40]).i < n
    · obtain ⟨c,c'⟩ := take_sim A hb (s := [41]) (Or.inr hi) (by decide)
      rw [c] at k
      split at h
      · rename_i ht
        rw [if_pos ht] at k;simp only [Option.some.injEq,Prod.mk.injEq] at h k;obtain ⟨rfl,rfl⟩ := h;obtain ⟨rfl,rfl⟩ := k;exact Or.inl ⟨rfl,c'⟩
      · rename_i ht
        rw [if_neg ht] at k;obtain ⟨⟨r0,p0⟩,h0,h2⟩ := Option.map_eq_some_iff.1 h;obtain ⟨⟨r1,p1⟩,k0,k2⟩ := Option.map_eq_some_iff.1 k;simp only [Prod.mk.injEq] at h2 k2;obtain ⟨rfl,rfl⟩ := h2;obtain ⟨rfl,rfl⟩ := k2;obtain ⟨rfl,hd⟩ := namesF_sim A f _ _ _ _ h0 (Za.need L _ _ he).1 g _ _ _ c' k0;exact Or.inl ⟨rfl,need_sim A hd (by decide) he⟩
    · exfalso
      have hl := (A.last hb hi).1;have hT : ((p.need L [40]).take L [41]).1 = false := by
        cases ht : ((p.need L [40]).take L [41]).1 with
        | false => rfl
        | true => exact absurd (take_lt A hb ht) hi
      have h2 : ((p.need L [40]).take L [41]).2 = p.need L [40] := by
        unfold PS.take at hT ⊢
        by_cases hTT : (p.need L [40]).isT L [41] = true
        · exact absurd (isT_lt A hb hTT) hi
        · rw [if_neg hTT]
      rw [hT,h2,if_neg (by decide)] at h;obtain ⟨⟨r0,p0⟩,h0,h3⟩ := Option.map_eq_some_iff.1 h;simp only [Prod.mk.injEq] at h3;obtain ⟨-,rfl⟩ := h3;have h4 := (Za.need L _ _ he).1;cases f with
      | zero => simp [namesF] at h0
      | succ f =>
        rw [namesF,if_pos hb.1] at h0;simp only at h0;have e5 : ((p.need L [40]).token L 1).2.err = 0 := by
          split at h0
          · exact ((Za.take L _ _).trans (Za.namesF L f _ _ _ _ h0) h4).1
          · simp only [Option.some.injEq,Prod.mk.injEq] at h0
            obtain ⟨-,rfl⟩ := h0;exact (Za.take L _ _ h4).1
        unfold PS.token at e5;rw [if_neg (by rw [hl];rintro ⟨-,h⟩;exact absurd h (by decide))] at e5;unfold PS.fail at e5;rw [if_pos hb.1] at e5;exact absurd (show (14 : Int) = 0 from e5) (by decide)
  · refine Or.inr ?_
    split at k
    · simp only [Option.some.injEq,Prod.mk.injEq] at k
      obtain ⟨-,rfl⟩ := k;exact hb.stay (.take _ _ _)
    · obtain ⟨⟨r0,p0⟩,k0,k2⟩ := Option.map_eq_some_iff.1 k
      simp only [Prod.mk.injEq] at k2;obtain ⟨-,rfl⟩ := k2;exact hb.stay (((St.take M _ _).trans (St.namesF M g _ _ _ _ k0)).trans (.need _ _ _))
theorem pOne_sim (A : AlikeT L M d n) {p q : PS} (hn : Nr d o n p q) (he : (pOne L p).2.err = 0) : (pOne M q).1 = (pOne L p).1 ∧ Nr d o n (pOne L p).2 (pOne M q).2 := by
  unfold pOne at he ⊢
  simp only at he ⊢
  have e3 := (Za.token L _ _ he).1
  have e1 : (p.token L 1).2.err = 0 := by
    split at e3
    · exact (Za.take L _ _ e3).1
    · exact ((Za.take L _ _).trans (.need _ _ _) e3).1
  obtain ⟨a,-,b⟩ := token_sim A hn (by decide) e1
  obtain ⟨c,c'⟩ := take_sim A b (s := [33,61]) (Or.inl (by decide)) (by decide)
  rw [a,c]
  by_cases ht : ((p.token L 1).2.take L [33,61]).1 = true
  · rw [if_pos ht] at he e3 ⊢
    rw [if_pos ht];obtain ⟨x,-,y⟩ := token_sim A c' (by decide) he;simp only [ht,if_true];exact ⟨by rw [x],y⟩
  · rw [if_neg ht] at he e3 ⊢
    rw [if_neg ht];obtain ⟨x,-,y⟩ := token_sim A (need_sim A c' (by decide) e3) (by decide) he;simp only [ht,Bool.false_eq_true,if_false];exact ⟨by rw [x],y⟩
theorem matsF_sim (A : AlikeT L M d n) : ∀ (f : Nat) (p : PS) (out r : List Mat) (p' : PS),matsF L f p out = some (r,p') → p'.err = 0 → ∀ (g : Nat) (q : PS) (r2 : List Mat) (q' : PS),Nr d o n p q → matsF M g q out = some (r2,q') → r2 = r ∧ Nr d o n p' q'
  | 0,p,out,r,p',h,_,_,_,_,_,_,_ => by simp [matsF] at h
  | f + 1,p,out,r,p',h,he,0,q,r2,q',hn,k => by simp [matsF] at k
  | f + 1,p,out,r,p',h,he,g + 1,q,r2,q',hn,k => by
    rw [matsF,if_pos hn.1] at h;rw [matsF,if_pos hn.2.1] at k;simp only at h k;have e1 : (pOne L p).2.err = 0 := by
      split at h
      · exact ((Za.take L _ _).trans (Za.matsF L f _ _ _ _ h) he).1
      · simp only [Option.some.injEq,Prod.mk.injEq] at h
        obtain ⟨-,rfl⟩ := h;exact (Za.take L _ _ he).1
    obtain ⟨a,b⟩ := pOne_sim A hn e1;obtain ⟨c,c'⟩ := take_sim A b (s := [44]) (Or.inl (by decide)) (by decide);rw [a,c] at k
    split at h
    · rename_i ht
      rw [if_pos ht] at k;exact matsF_sim A f _ _ _ _ h he g _ _ _ c' k
    · rename_i ht
      rw [if_neg ht] at k;simp only [Option.some.injEq,Prod.mk.injEq] at h k;obtain ⟨rfl,rfl⟩ := h;obtain ⟨rfl,rfl⟩ := k;exact ⟨rfl,c'⟩
theorem pMatch_sim (A : AlikeT L M d n) {f : Nat} {p : PS} {r : List Mat} {p' : PS} (h : pMatch L f p = some (r,p')) (he : p'.err = 0) {g : Nat} {q : PS} {r2 : List Mat} {q' : PS} (hn : Nr d o n p q) (k : pMatch M g q = some (r2,q')) :
    r2 = r ∧ Nr d o n p' q' := by
  unfold pMatch at h k
  simp only at h k
  obtain ⟨a,a'⟩ := take_sim A hn (s := [123]) (Or.inl (by decide)) (by decide)
  rw [a] at k
  split at h
  · rename_i ht
    rw [if_pos ht] at k;obtain ⟨b,b'⟩ := take_sim A a' (s := [125]) (Or.inl (by decide)) (by decide);rw [b] at k
    split at h
    · rename_i hu
      rw [if_pos hu] at k;simp only [Option.some.injEq,Prod.mk.injEq] at h k;obtain ⟨rfl,rfl⟩ := h;obtain ⟨rfl,rfl⟩ := k;exact ⟨rfl,b'⟩
    · rename_i hu
      rw [if_neg hu] at k;obtain ⟨⟨r0,p0⟩,h0,h2⟩ := Option.map_eq_some_iff.1 h;obtain ⟨⟨r1,p1⟩,k0,k2⟩ := Option.map_eq_some_iff.1 k;simp only [Prod.mk.injEq] at h2 k2;obtain ⟨rfl,rfl⟩ := h2;obtain ⟨rfl,rfl⟩ := k2;obtain ⟨rfl,hd⟩ := matsF_sim A f _ _ _ _ h0 (Za.need L _ _ he).1 g _ _ _ b' k0;exact ⟨rfl,need_sim A hd (by decide) he⟩
  · rename_i ht
    rw [if_neg ht] at k;simp only [Option.some.injEq,Prod.mk.injEq] at h k;obtain ⟨rfl,rfl⟩ := h;obtain ⟨rfl,rfl⟩ := k;exact ⟨rfl,a'⟩
theorem pCmp_sim (A : AlikeT L M d n) : ∀ (l : List (List UInt8)) (k : Int) (p q : PS),(∀ s ∈ l,s ≠ [40] ∧ s ≠ [41]) → Nr d o n p q → (pCmp M l k q).1 = (pCmp L l k p).1 ∧ Nr d o n (pCmp L l k p).2 (pCmp M l k q).2
  | [],k,p,q,_,h => ⟨rfl,h⟩
  | s :: r,k,p,q,hl,h => by
    obtain ⟨a,b⟩ := take_sim A h (s := s) (Or.inl (hl s (by simp)).2) (hl s (by simp)).1;unfold pCmp;rw [a]
    by_cases ht : (p.take L s).1 = true
    · rw [if_pos ht,if_pos ht];exact ⟨rfl,b⟩
    · rw [if_neg ht,if_neg ht];exact pCmp_sim A r (k + 1) _ _ (fun s hs => hl s (by simp [hs])) b
end
theorem St.rest {L : List Tok} {f : Nat} {p : PS} {ex : PS → Option (Ex × PS)} {e : Ex} {p' : PS} (hx : ∀ p e p',ex p = some (e,p') → St p p') (h : atomRest L f p ex = some (e,p')) : St p p' := by
  unfold atomRest at h
  split at h
  · simp only [Option.some.injEq,Prod.mk.injEq] at h
    obtain ⟨-,rfl⟩ := h;exact .fail _ _ _
  · split at h
    · exact (St.on _).trans (.window h)
    · cases hn : pNames L f (PS.need L { p with i := p.i + 1 } [98,121]) with
      | none => rw [hn] at h;cases h
      | some y =>
        obtain ⟨ns,q⟩ := y;rw [hn] at h;obtain ⟨⟨e0,q2⟩,h0,h1⟩ := Option.map_eq_some_iff.1 h;simp only [Prod.mk.injEq] at h1;obtain ⟨-,rfl⟩ := h1;exact (((((St.on _).trans (.need _ _ _)).trans (.names hn)).trans (.need _ _ _)).trans (hx _ _ _ h0)).trans (.need _ _ _)
theorem Za.rest {L : List Tok} {f : Nat} {p : PS} {ex : PS → Option (Ex × PS)} {e : Ex} {p' : PS} (hx : ∀ p e p',ex p = some (e,p') → Za p p') (h : atomRest L f p ex = some (e,p')) : Za p p' := by
  unfold atomRest at h
  split at h
  · simp only [Option.some.injEq,Prod.mk.injEq] at h
    obtain ⟨-,rfl⟩ := h;exact .fail _ _ _ (by decide)
  · split at h
    · exact (Za.on _).trans (.window h)
    · cases hn : pNames L f (PS.need L { p with i := p.i + 1 } [98,121]) with
      | none => rw [hn] at h;cases h
      | some y =>
        obtain ⟨ns,q⟩ := y;rw [hn] at h;obtain ⟨⟨e0,q2⟩,h0,h1⟩ := Option.map_eq_some_iff.1 h;simp only [Prod.mk.injEq] at h1;obtain ⟨-,rfl⟩ := h1;exact (((((Za.on _).trans (.need _ _ _)).trans (.names hn)).trans (.need _ _ _)).trans (hx _ _ _ h0)).trans (.need _ _ _)
section
variable {L M : List Tok} {d n : Nat} {o : Int}
def Nx (d : Nat) (o : Int) (n : Nat) {α : Type} (x : α) (p : PS) (y : α) (q : PS) : Prop := (y = x ∧ Nr d o n p q) ∨ Ov o q
theorem pWindow_sim (A : AlikeT L M d n) {f : Nat} {fn : Int} {p : PS} {e : Ex} {p' : PS} (h : pWindow L f fn p = some (e,p')) (he : p'.err = 0) {g : Nat} {q : PS} {e2 : Ex} {q' : PS} (hn : Nr d o n p q) (k : pWindow M g fn q = some (e2,q')) :
    Nx d o n e p' e2 q' := by
  unfold pWindow at h k
  obtain ⟨⟨ms,q4⟩,hm,hr⟩ := Option.map_eq_some_iff.1 h
  obtain ⟨⟨mt,r4⟩,km,kr⟩ := Option.map_eq_some_iff.1 k
  simp only [Prod.mk.injEq] at hr kr
  obtain ⟨rfl,rfl⟩ := hr
  obtain ⟨rfl,rfl⟩ := kr
  have e1 := (Za.need L _ _ he).1
  have e2 := (Za.need L _ _ e1).1
  have e3 := (Za.token L _ _ e2).1
  have e4 := (Za.need L _ _ e3).1
  have e5 := (Za.match' hm e4).1
  have e6 := (Za.token L _ _ e5).1
  rcases need_open A hn e6 with hb | hb
  · obtain ⟨a,-,b⟩ := token_sim A hb (by decide) e5
    obtain ⟨rfl,c⟩ := pMatch_sim A hm e4 b km;obtain ⟨-,a2,b2⟩ := token_sim A (need_sim A c (by decide) e3) (by decide) e2;exact Or.inl ⟨by rw [a,a2],need_sim A (need_sim A b2 (by decide) e1) (by decide) he⟩
  · exact Or.inr (hb.stay ((((((St.token M _ _).trans (.match' km)).trans (.need _ _ _)).trans (.token _ _ _)).trans (.need _ _ _)).trans (.need _ _ _)))
theorem atomRest_sim (A : AlikeT L M d n) {f g : Nat} {p q : PS} {ex ey : PS → Option (Ex × PS)} {e e2 : Ex} {p' q' : PS}
    (hz : ∀ p e p',ex p = some (e,p') → Za p p') (hs : ∀ p e p',ey p = some (e,p') → St p p')
    (hx : ∀ p e p',ex p = some (e,p') → p'.err = 0 → ∀ q e2 q',Nr d o n p q → ey q = some (e2,q') → Nx d o n e p' e2 q')
    (h : atomRest L f p ex = some (e,p')) (he : p'.err = 0) (hn : Nr d o n p q) (k : atomRest M g q ey = some (e2,q')) : Nx d o n e p' e2 q' := by
  unfold atomRest at h k
  by_cases hi : p.i < n
  · obtain ⟨a,b,-⟩ := A.tok hn hi
    rw [a,b] at k
    split at h
    · simp only [Option.some.injEq,Prod.mk.injEq] at h
      obtain ⟨-,rfl⟩ := h;unfold PS.fail at he;rw [if_pos hn.1] at he;exact absurd (show (14 : Int) = 0 from he) (by decide)
    · rename_i kk fn heq
      rw [heq] at k;simp only at k
      split at h
      · rename_i h1
        rw [if_pos h1] at k;exact pWindow_sim A h he (hn.on hi) k
      · rename_i h1
        rw [if_neg h1] at k;cases hN : pNames L f (PS.need L { p with i := p.i + 1 } [98,121]) with
        | none => rw [hN] at h;cases h
        | some y =>
          cases kN : pNames M g (PS.need M { q with i := q.i + 1 } [98,121]) with
          | none => rw [kN] at k;cases k
          | some z =>
            obtain ⟨ns,u⟩ := y;obtain ⟨nt,v⟩ := z;rw [hN] at h;rw [kN] at k;obtain ⟨⟨e0,p2⟩,h0,h2⟩ := Option.map_eq_some_iff.1 h;obtain ⟨⟨e3,q2⟩,k0,k2⟩ := Option.map_eq_some_iff.1 k;simp only [Prod.mk.injEq] at h2 k2;obtain ⟨rfl,rfl⟩ := h2;obtain ⟨rfl,rfl⟩ := k2;have z1 := (Za.need L _ _ he).1;have z2 := (hz _ _ _ h0 z1).1;have z3 := (Za.need L _ _ z2).1;have z4 := (Za.names hN z3).1;rcases pNames_sim A hN z3 (need_sim A (hn.on hi) (by decide) z4) kN with ⟨rfl,c⟩ | c
            · rcases need_open A c z2 with c | c
              · rcases hx _ _ _ h0 z1 _ _ _ c k0 with ⟨rfl,c⟩ | c
                · exact Or.inl ⟨rfl,need_sim A c (by decide) he⟩
                · exact Or.inr (c.stay (.need _ _ _))
              · exact Or.inr (c.stay ((hs _ _ _ k0).trans (.need _ _ _)))
            · exact Or.inr (c.stay (((St.need M _ _).trans (hs _ _ _ k0)).trans (.need _ _ _)))
  · exfalso
    rw [(A.last hn hi).1,if_neg (by decide)] at h;simp only [Option.some.injEq,Prod.mk.injEq] at h;obtain ⟨-,rfl⟩ := h;unfold PS.fail at he;rw [if_pos hn.1] at he;exact absurd (show (14 : Int) = 0 from he) (by decide)
structure Sims (L M : List Tok) (d n : Nat) (o : Int) (f : Nat) : Prop where
  atom : ∀ p e p',pAtom L f p = some (e,p') → p'.err = 0 → ∀ g q e2 q',Nr d o n p q → pAtom M g q = some (e2,q') → Nx d o n e p' e2 q'
  step : ∀ op x b p e p',pStep L f op x b p = some (e,p') → p'.err = 0 → ∀ g q e2 q',Nr d o n p q → pStep M g op x b q = some (e2,q') → Nx d o n e p' e2 q'
  term : ∀ p e p',pTerm L f p = some (e,p') → p'.err = 0 → ∀ g q e2 q',Nr d o n p q → pTerm M g q = some (e2,q') → Nx d o n e p' e2 q'
  terms : ∀ x p e p',pTerms L f x p = some (e,p') → p'.err = 0 → ∀ g q e2 q',Nr d o n p q → pTerms M g x q = some (e2,q') → Nx d o n e p' e2 q'
  sum : ∀ p e p',pSum L f p = some (e,p') → p'.err = 0 → ∀ g q e2 q',Nr d o n p q → pSum M g q = some (e2,q') → Nx d o n e p' e2 q'
  sums : ∀ x p e p',pSums L f x p = some (e,p') → p'.err = 0 → ∀ g q e2 q',Nr d o n p q → pSums M g x q = some (e2,q') → Nx d o n e p' e2 q'
  expr : ∀ p e p',pExpr L f p = some (e,p') → p'.err = 0 → ∀ g q e2 q',Nr d o n p q → pExpr M g q = some (e2,q') → Nx d o n e p' e2 q'
theorem cmp_plain : ∀ s ∈ cmpSigns,s ≠ [40] ∧ s ≠ [41] := by decide
theorem sims (A : AlikeT L M d n) : ∀ f,Sims L M d n o f := by
  intro f
  induction f with
  | zero => exact ⟨fun p e p' h => by simp [pAtom] at h,fun op x b p e p' h => by simp [pStep] at h,fun p e p' h => by simp [pTerm] at h,fun x p e p' h => by simp [pTerms] at h,fun p e p' h => by simp [pSum] at h,fun x p e p' h => by simp [pSums] at h,fun p e p' h => by simp [pExpr] at h⟩
  | succ f ih =>
    have zf := zas L f;refine ⟨?_,?_,?_,?_,?_,?_,?_⟩
    · intro p e p' h he g q e2 q' hn k
      cases g with
      | zero => simp [pAtom] at k
      | succ g =>
      have sg := sts M g;rw [pAtom] at h k;have e1 : (p.take L [40]).2.err = 0 := by
        split at h
        · obtain ⟨⟨e0,q0⟩,h0,h1⟩ := Option.map_eq_some_iff.1 h
          simp only [Prod.mk.injEq] at h1;obtain ⟨-,rfl⟩ := h1;exact ((zf.expr _ _ _ h0).trans (.need _ _ _) he).1
        · exact (Za.rest (fun p e p' h => zf.expr p e p' h) h he).1
      rcases take_open A hn e1 with ⟨a,b⟩ | ⟨a,b⟩
      · rw [a] at k
        split at h
        · rename_i ht
          rw [if_pos ht] at k;obtain ⟨⟨e0,p0⟩,h0,h2⟩ := Option.map_eq_some_iff.1 h;obtain ⟨⟨e3,q0⟩,k0,k2⟩ := Option.map_eq_some_iff.1 k;simp only [Prod.mk.injEq] at h2 k2;obtain ⟨rfl,rfl⟩ := h2;obtain ⟨rfl,rfl⟩ := k2;rcases ih.expr _ _ _ h0 (Za.need L _ _ he).1 g _ _ _ b k0 with ⟨rfl,c⟩ | c
          · exact Or.inl ⟨rfl,need_sim A c (by decide) he⟩
          · exact Or.inr (c.stay (.need _ _ _))
        · rename_i ht
          rw [if_neg ht] at k;exact atomRest_sim A (fun p e p' h => zf.expr p e p' h) (fun p e p' h => sg.expr p e p' h) (fun p e p' h he q e2 q' hn k => ih.expr p e p' h he g q e2 q' hn k) h he b k
      · rw [a,if_neg (by decide)] at k
        exact Or.inr (b.stay (St.rest (fun p e p' h => sg.expr p e p' h) k))
    · intro op x b p e p' h he g q e2 q' hn k
      cases g with
      | zero => simp [pStep] at k
      | succ g =>
      have sg := sts M g;rw [pStep] at h k
      by_cases hi : p.i < n
      · obtain ⟨a,-,a3⟩ := A.tok hn hi
        rw [a,a3] at k
        split at h
        · rename_i hc
          rw [if_pos ⟨hn.2.1,hc.2⟩] at k;simp only [Option.some.injEq,Prod.mk.injEq] at h k;obtain ⟨rfl,rfl⟩ := h;obtain ⟨rfl,rfl⟩ := k;exact Or.inl ⟨rfl,hn.on hi⟩
        · rename_i hc
          rw [if_neg (fun h => hc ⟨hn.1,h.2⟩)] at k
          (try simp only at h);(try simp only at k)
          obtain ⟨c,c'⟩ := take_sim A hn (s := [111,110]) (Or.inl (by decide)) (by decide);rw [c] at k;cases hN : (if (p.take L [111,110]).1 then pNames L f (p.take L [111,110]).2 else some ([],(p.take L [111,110]).2)) with
          | none => rw [hN] at h;cases h
          | some y =>
            cases kN : (if (p.take L [111,110]).1 then pNames M g (q.take M [111,110]).2 else some ([],(q.take M [111,110]).2)) with
            | none => rw [kN] at k;cases k
            | some z =>
              obtain ⟨ns,u⟩ := y;obtain ⟨nt,v⟩ := z;rw [hN] at h;rw [kN] at k;obtain ⟨⟨e0,p2⟩,h0,h2⟩ := Option.map_eq_some_iff.1 h;obtain ⟨⟨e3,q2⟩,k0,k2⟩ := Option.map_eq_some_iff.1 k;simp only [Prod.mk.injEq] at h2 k2;obtain ⟨rfl,rfl⟩ := h2;obtain ⟨rfl,rfl⟩ := k2;have z2 : u.err = 0 := by
                split at h0
                · exact (zf.term _ _ _ h0 he).1
                · exact (zf.atom _ _ _ h0 he).1
              have hu : Nx d o n ns u nt v := by
                split at hN
                · rename_i ht
                  rw [if_pos ht] at kN;exact pNames_sim A hN z2 c' kN
                · rename_i ht
                  rw [if_neg ht] at kN;simp only [Option.some.injEq,Prod.mk.injEq] at hN kN;obtain ⟨rfl,rfl⟩ := hN;obtain ⟨rfl,rfl⟩ := kN;exact Or.inl ⟨rfl,c'⟩
              rcases hu with ⟨rfl,hu⟩ | hu
              · split at h0
                · rename_i hb
                  rw [if_pos hb] at k0;rcases ih.term _ _ _ h0 he g _ _ _ hu k0 with ⟨rfl,c⟩ | c
                  · exact Or.inl ⟨rfl,c⟩
                  · exact Or.inr c
                · rename_i hb
                  rw [if_neg hb] at k0;rcases ih.atom _ _ _ h0 he g _ _ _ hu k0 with ⟨rfl,c⟩ | c
                  · exact Or.inl ⟨rfl,c⟩
                  · exact Or.inr c
              · refine Or.inr (hu.stay ?_)
                split at k0
                · exact sg.term _ _ _ k0
                · exact sg.atom _ _ _ k0
      · exfalso
        have hl := (A.last hn hi).1;rw [if_neg (by rw [hl];rintro ⟨-,h⟩;exact absurd h (by decide))] at h;simp only at h;have hT : (p.take L [111,110]).1 = false := by
          cases ht : (p.take L [111,110]).1 with
          | false => rfl
          | true => exact absurd (take_lt A hn ht) hi
        have h2 : (p.take L [111,110]).2 = p := by
          unfold PS.take
          by_cases hTT : p.isT L [111,110] = true
          · exact absurd (isT_lt A hn hTT) hi
          · rw [if_neg hTT]
        rw [hT,h2,if_neg (by decide)] at h;simp only at h;obtain ⟨⟨e0,p2⟩,h0,h3⟩ := Option.map_eq_some_iff.1 h;simp only [Prod.mk.injEq] at h3;obtain ⟨-,rfl⟩ := h3;have hatom : ∀ f e0 p2,pAtom L f p = some (e0,p2) → p2.err ≠ 0 := by
          intro f e0 p2 h0 he;cases f with
          | zero => simp [pAtom] at h0
          | succ f =>
            rw [pAtom] at h0;have hT4 : (p.take L [40]).1 = false := by
              cases ht : (p.take L [40]).1 with
              | false => rfl
              | true => exact absurd (take_lt A hn ht) hi
            have h24 : (p.take L [40]).2 = p := by
              unfold PS.take
              by_cases hTT : p.isT L [40] = true
              · exact absurd (isT_lt A hn hTT) hi
              · rw [if_neg hTT]
            rw [hT4,h24,if_neg (by decide)] at h0;unfold atomRest at h0;rw [hl,if_neg (by decide)] at h0;simp only [Option.some.injEq,Prod.mk.injEq] at h0;obtain ⟨-,rfl⟩ := h0;unfold PS.fail at he;rw [if_pos hn.1] at he;exact absurd (show (14 : Int) = 0 from he) (by decide)
        split at h0
        · cases f with
          | zero => simp [pTerm] at h0
          | succ f =>
            rw [pTerm] at h0;cases ha : pAtom L f p with
            | none => rw [ha] at h0;cases h0
            | some y =>
              rw [ha] at h0;exact hatom f _ _ ha ((zas L f).terms _ _ _ _ h0 he).1
        · exact hatom f _ _ h0 he
    · intro p e p' h he g q e2 q' hn k
      cases g with
      | zero => simp [pTerm] at k
      | succ g =>
      have sg := sts M g;rw [pTerm] at h k;cases ha : pAtom L f p with
      | none => rw [ha] at h;cases h
      | some y =>
        cases ka : pAtom M g q with
        | none => rw [ka] at k;cases k
        | some z =>
          obtain ⟨x,u⟩ := y;obtain ⟨x2,v⟩ := z;rw [ha] at h;rw [ka] at k;rcases ih.atom _ _ _ ha (zf.terms _ _ _ _ h he).1 g _ _ _ hn ka with ⟨rfl,c⟩ | c
          · exact ih.terms _ _ _ _ h he g _ _ _ c k
          · exact Or.inr (c.stay (sg.terms _ _ _ _ k))
    · intro x p e p' h he g q e2 q' hn k
      cases g with
      | zero => simp [pTerms] at k
      | succ g =>
      have sg := sts M g;rw [pTerms] at h k
      (try simp only at h);(try simp only at k)
      obtain ⟨c,c'⟩ := take_sim A hn (s := [42]) (Or.inl (by decide)) (by decide);rw [c] at k
      split at h
      · rename_i ht
        rw [if_pos ht] at k;cases hs : pStep L f 3 x false (p.take L [42]).2 with
        | none => rw [hs] at h;cases h
        | some y =>
          cases ks : pStep M g 3 x false (q.take M [42]).2 with
          | none => rw [ks] at k;cases k
          | some z =>
            obtain ⟨x1,u⟩ := y;obtain ⟨x2,v⟩ := z;rw [hs] at h;rw [ks] at k;rcases ih.step _ _ _ _ _ _ hs (zf.terms _ _ _ _ h he).1 g _ _ _ c' ks with ⟨rfl,c⟩ | c
            · exact ih.terms _ _ _ _ h he g _ _ _ c k
            · exact Or.inr (c.stay (sg.terms _ _ _ _ k))
      · rename_i ht
        rw [if_neg ht] at k;simp only [Option.some.injEq,Prod.mk.injEq] at h k;obtain ⟨rfl,rfl⟩ := h;obtain ⟨rfl,rfl⟩ := k;exact Or.inl ⟨rfl,c'⟩
    · intro p e p' h he g q e2 q' hn k
      cases g with
      | zero => simp [pSum] at k
      | succ g =>
      have sg := sts M g;rw [pSum] at h k;cases ha : pTerm L f p with
      | none => rw [ha] at h;cases h
      | some y =>
        cases ka : pTerm M g q with
        | none => rw [ka] at k;cases k
        | some z =>
          obtain ⟨x,u⟩ := y;obtain ⟨x2,v⟩ := z;rw [ha] at h;rw [ka] at k;rcases ih.term _ _ _ ha (zf.sums _ _ _ _ h he).1 g _ _ _ hn ka with ⟨rfl,c⟩ | c
          · exact ih.sums _ _ _ _ h he g _ _ _ c k
          · exact Or.inr (c.stay (sg.sums _ _ _ _ k))
    · intro x p e p' h he g q e2 q' hn k
      cases g with
      | zero => simp [pSums] at k
      | succ g =>
      have sg := sts M g;rw [pSums] at h k
      (try simp only at h);(try simp only at k)
      obtain ⟨c,c'⟩ := take_sim A hn (s := [43]) (Or.inl (by decide)) (by decide);obtain ⟨b,b'⟩ := take_sim A c' (s := [45]) (Or.inl (by decide)) (by decide);rw [c] at k
      split at h
      · rename_i ht
        rw [if_pos ht] at k;cases hs : pStep L f 1 x true (p.take L [43]).2 with
        | none => rw [hs] at h;cases h
        | some y =>
          cases ks : pStep M g 1 x true (q.take M [43]).2 with
          | none => rw [ks] at k;cases k
          | some z =>
            obtain ⟨x1,u⟩ := y;obtain ⟨x2,v⟩ := z;rw [hs] at h;rw [ks] at k;rcases ih.step _ _ _ _ _ _ hs (zf.sums _ _ _ _ h he).1 g _ _ _ c' ks with ⟨rfl,c⟩ | c
            · exact ih.sums _ _ _ _ h he g _ _ _ c k
            · exact Or.inr (c.stay (sg.sums _ _ _ _ k))
      · rename_i ht
        rw [if_neg ht,b] at k
        split at h
        · rename_i hu
          rw [if_pos hu] at k;cases hs : pStep L f 2 x true ((p.take L [43]).2.take L [45]).2 with
          | none => rw [hs] at h;cases h
          | some y =>
            cases ks : pStep M g 2 x true ((q.take M [43]).2.take M [45]).2 with
            | none => rw [ks] at k;cases k
            | some z =>
              obtain ⟨x1,u⟩ := y;obtain ⟨x2,v⟩ := z;rw [hs] at h;rw [ks] at k;rcases ih.step _ _ _ _ _ _ hs (zf.sums _ _ _ _ h he).1 g _ _ _ b' ks with ⟨rfl,c⟩ | c
              · exact ih.sums _ _ _ _ h he g _ _ _ c k
              · exact Or.inr (c.stay (sg.sums _ _ _ _ k))
        · rename_i hu
          rw [if_neg hu] at k;simp only [Option.some.injEq,Prod.mk.injEq] at h k;obtain ⟨rfl,rfl⟩ := h;obtain ⟨rfl,rfl⟩ := k;exact Or.inl ⟨rfl,b'⟩
    · intro p e p' h he g q e2 q' hn k
      cases g with
      | zero => simp [pExpr] at k
      | succ g =>
      rw [pExpr] at h k;cases ha : pSum L f p with
      | none => rw [ha] at h;cases h
      | some y =>
        cases ka : pSum M g q with
        | none => rw [ka] at k;cases k
        | some z =>
          obtain ⟨x,u⟩ := y;obtain ⟨x2,v⟩ := z;rw [ha] at h;rw [ka] at k
          (try simp only at h);(try simp only at k)
          have zu : u.err = 0 := by
            have h2 := Za.cmp L cmpSigns 4 u;cases hc : pCmp L cmpSigns 4 u with
            | mk o q2 =>
              rw [hc] at h h2;cases o with
              | none =>
                simp only [Option.some.injEq,Prod.mk.injEq] at h;obtain ⟨-,rfl⟩ := h;exact (h2 he).1
              | some op =>
                simp only [Option.some.injEq,Prod.mk.injEq] at h;obtain ⟨-,rfl⟩ := h;exact (h2.trans (.token _ _ _) he).1
          rcases ih.sum _ _ _ ha zu g _ _ _ hn ka with ⟨rfl,c⟩ | c
          · obtain ⟨b,b'⟩ := pCmp_sim A cmpSigns 4 u v cmp_plain c
            cases hc : pCmp L cmpSigns 4 u with
            | mk o1 u2 =>
              cases kc : pCmp M cmpSigns 4 v with
              | mk o2 v2 =>
                rw [hc] at h b b';rw [kc] at k b b';obtain rfl : o2 = o1 := b;cases o2 with
                | none =>
                  simp only [Option.some.injEq,Prod.mk.injEq] at h k;obtain ⟨rfl,rfl⟩ := h;obtain ⟨rfl,rfl⟩ := k;exact Or.inl ⟨rfl,b'⟩
                | some op =>
                  simp only [Option.some.injEq,Prod.mk.injEq] at h k;obtain ⟨rfl,rfl⟩ := h;obtain ⟨rfl,rfl⟩ := k;obtain ⟨-,a2,a3⟩ := token_sim A b' (by decide) he;exact Or.inl ⟨by rw [a2],a3⟩
          · refine Or.inr (c.stay ?_)
            have k2 := St.cmp M cmpSigns 4 v;cases kc : pCmp M cmpSigns 4 v with
            | mk o2 v2 =>
              rw [kc] at k k2;cases o2 with
              | none =>
                simp only [Option.some.injEq,Prod.mk.injEq] at k;obtain ⟨-,rfl⟩ := k;exact k2
              | some op =>
                simp only [Option.some.injEq,Prod.mk.injEq] at k;obtain ⟨-,rfl⟩ := k;exact k2.trans (.token _ _ _)
end
def Quiet (M : List Tok) (q : PS) : Prop := q.err ≠ 0 ∨ (q.tok M).kind = 5
theorem take_quiet {M : List Tok} {q : PS} (h : Quiet M q) (s : List UInt8) : q.take M s = (false,q) := by
  have e : q.isT M s = false := by
    unfold PS.isT;rcases h with h | h
    · rw [show (q.err == 0) = false by simpa using h];rfl
    · rw [h];simp
  unfold PS.take
  rw [e,if_neg (by decide)]
theorem pSums_quiet {M : List Tok} {q : PS} (h : Quiet M q) (f : Nat) (x : Ex) : pSums M (f + 1) x q = some (x,q) := by
  rw [pSums];simp only [take_quiet h];rw [if_neg (by decide),if_neg (by decide)]
theorem pCmp_quiet {M : List Tok} {q : PS} (h : Quiet M q) : ∀ (l : List (List UInt8)) (k : Int),pCmp M l k q = (none,q)
  | [],_ => rfl
  | s :: r,k => by unfold pCmp;rw [take_quiet h,if_neg (show ¬ (false,q).1 = true from Bool.false_ne_true)];exact pCmp_quiet h r (k + 1)
theorem pExpr_of_sum {M : List Tok} {q q' : PS} {x : Ex} {f : Nat} (h : pSum M f q = some (x,q')) (hq : Quiet M q') : pExpr M (f + 1) q = some (x,q') := by
  rw [pExpr,h];simp only [pCmp_quiet hq]
structure Reads (L : List Tok) (p : PS) (x : Ex) : Prop where
  run : ∃ f p4,pExpr L f p = some (x,p4) ∧ p4.err = 0 ∧ (p4.tok L).kind = 5
  ok : checkExpr x = 0
theorem done_ok {L : List Tok} {p : PS} {c : Int} (h : (p.done L c).err = 0) : c = 0 ∧ p.err = 0 ∧ (p.tok L).kind = 5 := by
  have hov : (p.over L).err = 0 → p.err = 0 ∧ (p.tok L).kind = 5 := by
    intro h;unfold PS.over at h
    by_cases h0 : p.err = 0
    · by_cases hk : (p.tok L).kind = 5
      · exact ⟨h0,hk⟩
      · rw [if_pos ⟨h0,hk⟩] at h
        unfold PS.fail at h;rw [if_pos h0] at h;exact absurd (show (14 : Int) = 0 from h) (by decide)
    · rw [if_neg (fun h => h0 h.1)] at h;exact absurd h h0
  unfold PS.done at h
  by_cases hc : c = 0
  · rw [if_pos hc] at h;exact ⟨hc,hov h⟩
  · rw [if_neg hc] at h
    obtain ⟨a,-⟩ := Za.fail _ _ _ hc h;unfold PS.fail at h;rw [if_pos a] at h;exact absurd h hc
theorem done_end {L : List Tok} {p : PS} (h : p.err = 0) (hk : (p.tok L).kind = 5) : p.done L 0 = p := by
  unfold PS.done PS.over;rw [if_pos rfl,if_neg (fun h => h.2 hk)]
theorem done_bad {L : List Tok} {p : PS} (h : p.err ≠ 0) (c : Int) : (p.done L c).err = p.err := by
  have ho : p.over L = p := by unfold PS.over;rw [if_neg (fun k => h k.1)]
  unfold PS.done
  rw [ho]
  split
  · rfl
  · unfold PS.fail;rw [if_neg h]
theorem reads_of {L : List Tok} {p p4 : PS} {x : Ex} {f : Nat} (h : pExpr L f p = some (x,p4)) (hd : (p4.done L (checkExpr x)).err = 0) : Reads L p x := by
  obtain ⟨a,b,c⟩ := done_ok hd
  exact ⟨⟨f,p4,h,b,c⟩,a⟩
def EndsAt (L : List Tok) (n : Nat) : Prop := (∀ i,i < n → (L.getD i ⟨5,[],0,0⟩).kind ≠ 5) ∧ (L.getD n ⟨5,[],0,0⟩).kind = 5
theorem reads_sim {L M : List Tok} {d n : Nat} {o : Int} (A : AlikeT L M d n) (hE : EndsAt L n) {p q : PS} {x : Ex} (h : Reads L p x) (hn : Nr d o n p q) {g : Nat} {y : Ex} {q4 : PS} (k : pExpr M g q = some (y,q4)) :
    (y = x ∧ q4.err = 0 ∧ q4.i = n + d) ∨ Ov o q4 := by
  obtain ⟨⟨f,p4,hr,h0,hk⟩,-⟩ := h
  rcases (sims A f).expr _ _ _ hr h0 g _ _ _ hn k with ⟨rfl,c⟩ | c
  · refine Or.inl ⟨rfl,c.2.1,?_⟩
    rw [c.2.2.1];have h1 : ¬ p4.i < n := fun hi => hE.1 _ hi hk
    have := c.2.2.2.2;omega
  · exact Or.inr c
def twoX (op : Int) (a b : Ex) : Ex := .mk 3 0 op 0 ⟨#[]⟩ [] 0 [] [a,b]
def SignAt (M : List Tok) (j : Nat) (s : List UInt8) : Prop := (M.getD j ⟨5,[],0,0⟩).kind = 4 ∧ (M.getD j ⟨5,[],0,0⟩).text = s
def EndAt (M : List Tok) (j : Nat) : Prop := (M.getD j ⟨5,[],0,0⟩).kind = 5
theorem sign_isT {M : List Tok} {j : Nat} {s : List UInt8} (h : SignAt M j s) {q : PS} (h0 : q.err = 0) (hi : q.i = j) (t : List UInt8) : q.isT M t = (s == t) := by
  unfold PS.isT PS.tok
  rw [hi,h.1,h.2,h0];rfl
theorem take_signX {M : List Tok} {j : Nat} {s : List UInt8} (h : SignAt M j s) {q : PS} (h0 : q.err = 0) (hi : q.i = j) (h1 : s ≠ [40]) (h2 : s ≠ [41]) : q.take M s = (true,{ q with i := q.i + 1 }) := by
  unfold PS.take
  rw [sign_isT h h0 hi,if_pos (by simp),if_neg h1,if_neg h2]
theorem take_other {M : List Tok} {j : Nat} {s : List UInt8} (h : SignAt M j s) {q : PS} (h0 : q.err = 0) (hi : q.i = j) {t : List UInt8} (ht : s ≠ t) : q.take M t = (false,q) := by
  unfold PS.take
  rw [sign_isT h h0 hi,if_neg (by simpa using ht)]
theorem take_end {M : List Tok} {j : Nat} (h : EndAt M j) {q : PS} (hi : q.i = j) (t : List UInt8) : q.take M t = (false,q) :=
  take_quiet (Or.inr (by unfold PS.tok;rw [hi];exact h)) t
def NotAt (M : List Tok) (j : Nat) (t : List UInt8) : Prop := EndAt M j ∨ ∃ s,SignAt M j s ∧ s ≠ t
theorem take_not {M : List Tok} {j : Nat} {t : List UInt8} (h : NotAt M j t) {q : PS} (h0 : q.err = 0) (hi : q.i = j) : q.take M t = (false,q) := by
  rcases h with h | ⟨s,h,hs⟩
  · exact take_end h hi t
  · exact take_other h h0 hi hs
def AtomAt (M : List Tok) (j j' : Nat) (x : Ex) : Prop := ∀ (g : Nat) (q : PS) (y : Ex) (q4 : PS),q.err = 0 → q.i = j → pAtom M g q = some (y,q4) → (y = x ∧ q4.err = 0 ∧ q4.i = j') ∨ q4.err = 3
def TermAt (M : List Tok) (j j' : Nat) (x : Ex) : Prop := ∀ (g : Nat) (q : PS) (y : Ex) (q4 : PS),q.err = 0 → q.i = j → pTerm M g q = some (y,q4) → (y = x ∧ q4.err = 0 ∧ q4.i = j') ∨ q4.err = 3
def SumsAt (M : List Tok) (j j' : Nat) (x z : Ex) : Prop := ∀ (g : Nat) (q : PS) (y : Ex) (q4 : PS),q.err = 0 → q.i = j → pSums M g x q = some (y,q4) → (y = z ∧ q4.err = 0 ∧ q4.i = j') ∨ q4.err = 3
theorem stays {p q : PS} (h : p.err = 3) (k : St p q) : q.err = 3 := by rw [(k (by rw [h];decide)).1];exact h
theorem atom_br {L M : List Tok} {j n : Nat} {p : PS} {x : Ex} (A : AlikeT L M (j + 1) n) (hE : EndsAt L n) (hR : Reads L p x) (hp : p.err = 0) (hpi : p.i = 0) (ho : SignAt M j [40]) (hc : SignAt M (n + (j + 1)) [41]) : AtomAt M j (n + (j + 1) + 1) x := by
  intro g q y q4 h0 hi k
  cases g with
  | zero => simp [pAtom] at k
  | succ g =>
    rw [pAtom] at k;have hT : q.isT M [40] = true := by rw [sign_isT ho h0 hi];rfl
    by_cases h64 : q.opn = 64
    · have e : q.take M [40] = (false,q.fail 3 (q.tok M).pos) := by unfold PS.take;rw [if_pos hT,if_pos rfl,if_pos h64]
      rw [e] at k;rw [if_neg (show ¬ (false,q.fail 3 (q.tok M).pos).1 = true from Bool.false_ne_true)] at k;refine Or.inr (stays ?_ (St.rest (fun p e p' h => (sts M g).expr p e p' h) k))
      show (q.fail 3 (q.tok M).pos).err = 3
      unfold PS.fail;rw [if_pos h0]
    · have e : q.take M [40] = (true,{ q with i := q.i + 1,opn := q.opn + 1 }) := by unfold PS.take;rw [if_pos hT,if_pos rfl,if_neg h64]
      rw [e] at k;rw [if_pos (show (true,({ q with i := q.i + 1,opn := q.opn + 1 } : PS)).1 = true from rfl)] at k;obtain ⟨⟨y0,q2⟩,k0,k1⟩ := Option.map_eq_some_iff.1 k;simp only [Prod.mk.injEq] at k1;obtain ⟨rfl,rfl⟩ := k1;have hn : Nr (j + 1) (q.opn + 1 - p.opn) n p { q with i := q.i + 1,opn := q.opn + 1 } := ⟨hp,h0,by show q.i + 1 = p.i + (j + 1);omega,by show q.opn + 1 = p.opn + (q.opn + 1 - p.opn);omega,by omega⟩;rcases reads_sim A hE hR hn k0 with ⟨rfl,a,b⟩ | c
      · have hT2 : q2.isT M [41] = true := by rw [sign_isT hc a b];rfl
        have e2 : q2.take M [41] = (true,{ q2 with i := q2.i + 1,opn := q2.opn - 1 }) := by unfold PS.take;rw [if_pos hT2,if_neg (by decide),if_pos rfl]
        refine Or.inl ⟨rfl,?_,?_⟩
        · unfold PS.need;rw [e2];exact a
        · unfold PS.need;rw [e2];show q2.i + 1 = _;rw [b]
      · exact Or.inr (stays c.2 (.need _ _ _))
theorem term_atom {M : List Tok} {j j' : Nat} {x : Ex} (h : AtomAt M j j' x) (hn : NotAt M j' [42]) : TermAt M j j' x := by
  intro g q y q4 h0 hi k
  cases g with
  | zero => simp [pTerm] at k
  | succ g =>
    rw [pTerm] at k;cases ha : pAtom M g q with
    | none => rw [ha] at k;cases k
    | some z =>
      obtain ⟨y1,q1⟩ := z;rw [ha] at k
      replace k : pTerms M g y1 q1 = some (y,q4) := k
      rcases h g q y1 q1 h0 hi ha with ⟨rfl,a,b⟩ | c
      · cases g with
        | zero => simp [pTerms] at k
        | succ g =>
          rw [pTerms] at k;simp only [take_not hn a b] at k;rw [if_neg (by decide)] at k;simp only [Option.some.injEq,Prod.mk.injEq] at k;obtain ⟨rfl,rfl⟩ := k;exact Or.inl ⟨rfl,a,b⟩
      · exact Or.inr (stays c ((sts M g).terms _ _ _ _ k))
theorem step_at {M : List Tok} {j j' : Nat} {op : Int} {x y : Ex} {deep : Bool} (ho : SignAt M j [40]) (ht : deep = true → TermAt M j j' y) (ha : deep = false → AtomAt M j j' y) :
    ∀ (g : Nat) (q : PS) (z : Ex) (q4 : PS),q.err = 0 → q.i = j → pStep M g op x deep q = some (z,q4) → (z = twoX op x y ∧ q4.err = 0 ∧ q4.i = j') ∨ q4.err = 3 := by
  intro g q z q4 h0 hi k
  cases g with
  | zero => simp [pStep] at k
  | succ g =>
    rw [pStep] at k;have hk : (q.tok M).kind = 4 := by unfold PS.tok;rw [hi];exact ho.1
    rw [if_neg (by rw [hk];rintro ⟨-,h⟩;exact absurd h (by decide))] at k;simp only [take_other ho h0 hi (show ([40] : List UInt8) ≠ [111,110] by decide)] at k;rw [if_neg (by decide)] at k;simp only at k;obtain ⟨⟨y1,q1⟩,k0,k1⟩ := Option.map_eq_some_iff.1 k;simp only [Prod.mk.injEq] at k1;obtain ⟨rfl,rfl⟩ := k1;cases deep with
    | true =>
      rw [if_pos rfl] at k0;rcases ht rfl g _ _ _ h0 hi k0 with ⟨rfl,a,b⟩ | c
      · exact Or.inl ⟨rfl,a,b⟩
      · exact Or.inr c
    | false =>
      rw [if_neg (by decide)] at k0;rcases ha rfl g _ _ _ h0 hi k0 with ⟨rfl,a,b⟩ | c
      · exact Or.inl ⟨rfl,a,b⟩
      · exact Or.inr c
theorem term_mul {M : List Tok} {j j1 j2 : Nat} {x y : Ex} (h : AtomAt M j j1 x) (hs : SignAt M j1 [42]) (ho : SignAt M (j1 + 1) [40]) (h2 : AtomAt M (j1 + 1) j2 y) (hn : NotAt M j2 [42]) : TermAt M j j2 (twoX 3 x y) := by
  intro g q z q4 h0 hi k
  cases g with
  | zero => simp [pTerm] at k
  | succ g =>
    rw [pTerm] at k;cases ha : pAtom M g q with
    | none => rw [ha] at k;cases k
    | some u =>
      obtain ⟨y1,q1⟩ := u;rw [ha] at k
      replace k : pTerms M g y1 q1 = some (z,q4) := k
      rcases h g q y1 q1 h0 hi ha with ⟨rfl,a,b⟩ | c
      · cases g with
        | zero => simp [pTerms] at k
        | succ g =>
          rw [pTerms] at k;simp only [take_signX hs a b (by decide) (by decide)] at k;rw [if_pos trivial] at k;cases hst : pStep M g 3 y1 false { q1 with i := q1.i + 1 } with
          | none => rw [hst] at k;cases k
          | some v =>
            obtain ⟨y2,q2⟩ := v;rw [hst] at k
            replace k : pTerms M g y2 q2 = some (z,q4) := k
            rcases step_at (op := 3) (x := y1) (deep := false) ho (fun h => by cases h) (fun _ => h2) g { q1 with i := q1.i + 1 } _ _ a (by show q1.i + 1 = j1 + 1;omega) hst with ⟨rfl,a2,b2⟩ | c
            · cases g with
              | zero => simp [pTerms] at k
              | succ g =>
                rw [pTerms] at k;simp only [take_not hn a2 b2] at k;rw [if_neg (by decide)] at k;simp only [Option.some.injEq,Prod.mk.injEq] at k;obtain ⟨rfl,rfl⟩ := k;exact Or.inl ⟨rfl,a2,b2⟩
            · exact Or.inr (stays c ((sts M g).terms _ _ _ _ k))
      · exact Or.inr (stays c ((sts M g).terms _ _ _ _ k))
theorem sums_end {M : List Tok} {j : Nat} {x : Ex} (h : EndAt M j) : SumsAt M j j x x := by
  intro g q y q4 h0 hi k
  cases g with
  | zero => simp [pSums] at k
  | succ g =>
    rw [pSums_quiet (Or.inr (by unfold PS.tok;rw [hi];exact h))] at k;simp only [Option.some.injEq,Prod.mk.injEq] at k;obtain ⟨rfl,rfl⟩ := k;exact Or.inl ⟨rfl,h0,hi⟩
theorem sums_step {M : List Tok} {j j1 j' : Nat} {op : Int} {s : List UInt8} {x y z : Ex} (hop : (op = 1 ∧ s = [43]) ∨ (op = 2 ∧ s = [45])) (hs : SignAt M j s) (ho : SignAt M (j + 1) [40]) (ht : TermAt M (j + 1) j1 y) (hr : SumsAt M j1 j' (twoX op x y) z) : SumsAt M j j' x z := by
  intro g q w q4 h0 hi k
  cases g with
  | zero => simp [pSums] at k
  | succ g =>
    rw [pSums] at k;rcases hop with ⟨rfl,rfl⟩ | ⟨rfl,rfl⟩
    · simp only [take_signX hs h0 hi (by decide) (by decide)] at k
      rw [if_pos trivial] at k;cases hst : pStep M g 1 x true { q with i := q.i + 1 } with
      | none => rw [hst] at k;cases k
      | some v =>
        obtain ⟨y2,q2⟩ := v;rw [hst] at k
        replace k : pSums M g y2 q2 = some (w,q4) := k
        rcases step_at (op := 1) (x := x) (deep := true) ho (fun _ => ht) (fun h => by cases h) g { q with i := q.i + 1 } _ _ h0 (by show q.i + 1 = j + 1;omega) hst with ⟨rfl,a,b⟩ | c
        · exact hr g _ _ _ a b k
        · exact Or.inr (stays c ((sts M g).sums _ _ _ _ k))
    · simp only [take_other hs h0 hi (show ([45] : List UInt8) ≠ [43] by decide),take_signX hs h0 hi (by decide) (by decide)] at k
      rw [if_neg (by decide),if_pos trivial] at k;cases hst : pStep M g 2 x true { q with i := q.i + 1 } with
      | none => rw [hst] at k;cases k
      | some v =>
        obtain ⟨y2,q2⟩ := v;rw [hst] at k
        replace k : pSums M g y2 q2 = some (w,q4) := k
        rcases step_at (op := 2) (x := x) (deep := true) ho (fun _ => ht) (fun h => by cases h) g { q with i := q.i + 1 } _ _ h0 (by show q.i + 1 = j + 1;omega) hst with ⟨rfl,a,b⟩ | c
        · exact hr g _ _ _ a b k
        · exact Or.inr (stays c ((sts M g).sums _ _ _ _ k))
theorem expr_at {M : List Tok} {j j1 j' : Nat} {x z : Ex} (ht : TermAt M j j1 x) (hs : SumsAt M j1 j' x z) (he : EndAt M j') {g : Nat} {q : PS} {y : Ex} {q4 : PS} (h0 : q.err = 0) (hi : q.i = j) (k : pExpr M g q = some (y,q4)) :
    (y = z ∧ q4.err = 0 ∧ (q4.tok M).kind = 5) ∨ q4.err = 3 := by
  cases g with
  | zero => simp [pExpr] at k
  | succ g =>
    have hcmp : ∀ {x1 : Ex} {q1 : PS},Quiet M q1 → pSum M g q = some (x1,q1) → y = x1 ∧ q4 = q1 := by
      intro x1 q1 hq h;rw [pExpr_of_sum h hq] at k;simp only [Option.some.injEq,Prod.mk.injEq] at k;exact ⟨k.1.symm,k.2.symm⟩
    cases hsum : pSum M g q with
    | none => rw [pExpr,hsum] at k;cases k
    | some v =>
      obtain ⟨x1,q1⟩ := v;have main : (x1 = z ∧ q1.err = 0 ∧ q1.i = j') ∨ q1.err = 3 := by
        cases g with
        | zero => simp [pSum] at hsum
        | succ g =>
          rw [pSum] at hsum;cases hterm : pTerm M g q with
          | none => rw [hterm] at hsum;cases hsum
          | some u =>
            obtain ⟨x0,q0⟩ := u;rw [hterm] at hsum
            replace hsum : pSums M g x0 q0 = some (x1,q1) := hsum
            rcases ht g _ _ _ h0 hi hterm with ⟨rfl,a,b⟩ | c
            · exact hs g _ _ _ a b hsum
            · exact Or.inr (stays c ((sts M g).sums _ _ _ _ hsum))
      rcases main with ⟨rfl,a,b⟩ | c
      · have hk : (q1.tok M).kind = 5 := by unfold PS.tok;rw [b];exact he
        obtain ⟨rfl,rfl⟩ := hcmp (Or.inr hk) hsum;exact Or.inl ⟨rfl,a,hk⟩
      · obtain ⟨rfl,rfl⟩ := hcmp (Or.inl (by rw [c];decide)) hsum
        exact Or.inr c
end Go.Proofs.YtpmbamfpmmdhcaaGreat
