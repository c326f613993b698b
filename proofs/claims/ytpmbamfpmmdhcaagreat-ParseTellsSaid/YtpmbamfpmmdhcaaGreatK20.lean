/- Names sorted and compacted are the names put each in its place. No program here. -/
import Derived.Test.YtpmbamfpmmdhcaaGreatK15
import Derived.Lib.SlicesCompact
import Derived.Sort.Walk0
set_option maxRecDepth 100000
set_option maxHeartbeats 16000000
namespace Go.Proofs.YtpmbamfpmmdhcaaGreat
open Go.RowKit
set_option linter.unusedSimpArgs false
set_option linter.unusedVariables false
def Asc (l : List (List UInt8)) : Prop := l.Pairwise (fun a b => Op.bytesLess a b = true)
theorem bl_asymm {a b : List UInt8} (h : Op.bytesLess a b = true) : Op.bytesLess b a = false := by
  cases h' : Op.bytesLess b a with
  | false => rfl
  | true => have := bl_trans _ _ _ h h';rw [bl_irrefl] at this;cases this
theorem asc_ext : ∀ (l m : List (List UInt8)),Asc l → Asc m → (∀ x,x ∈ l ↔ x ∈ m) → l = m
  | [],[],_,_,_ => rfl
  | [],y :: m,_,_,h => by have := (h y).2 (by simp);simp at this
  | x :: l,[],_,_,h => by have := (h x).1 (by simp);simp at this
  | x :: l,y :: m,hl,hm,h => by
    obtain ⟨hl1,hl2⟩ := List.pairwise_cons.1 hl;obtain ⟨hm1,hm2⟩ := List.pairwise_cons.1 hm;have e : x = y := by
      rcases List.mem_cons.1 ((h x).1 (by simp)) with e | e
      · exact e
      · rcases List.mem_cons.1 ((h y).2 (by simp)) with e' | e'
        · exact e'.symm
        · have a := hm1 x e;have b := hl1 y e'
          rw [bl_asymm a] at b;cases b
    subst e;rw [asc_ext l m hl2 hm2 (fun z => by
      constructor
      · intro hz
        rcases List.mem_cons.1 ((h z).1 (by simp [hz])) with e | e
        · subst e;have := hl1 z hz;rw [bl_irrefl] at this;cases this
        · exact e
      · intro hz
        rcases List.mem_cons.1 ((h z).2 (by simp [hz])) with e | e
        · subst e;have := hm1 z hz;rw [bl_irrefl] at this;cases this
        · exact e)]
theorem putName_mem : ∀ (out : List (List UInt8)) (w x : List UInt8),x ∈ putName out w ↔ x ∈ out ∨ x = w
  | [],w,x => by simp [putName]
  | y :: r,w,x => by
    have ih := putName_mem r w x;unfold putName
    split
    · simp only [List.mem_cons,ih];constructor
      · rintro (h | h | h)
        · exact .inl (.inl h)
        · exact .inl (.inr h)
        · exact .inr h
      · rintro ((h | h) | h)
        · exact .inl h
        · exact .inr (.inl h)
        · exact .inr (.inr h)
    · split
      · rename_i e;subst e;simp only [List.mem_cons];constructor
        · exact .inl
        · rintro (h | h)
          · exact h
          · exact .inl h
      · simp only [List.mem_cons];constructor
        · rintro (h | h | h)
          · exact .inr h
          · exact .inl (.inl h)
          · exact .inl (.inr h)
        · rintro ((h | h) | h)
          · exact .inr (.inl h)
          · exact .inr (.inr h)
          · exact .inl h
theorem putName_asc : ∀ (out : List (List UInt8)) (w : List UInt8),Asc out → Asc (putName out w)
  | [],w,_ => by simp [putName,Asc]
  | y :: r,w,h => by
    obtain ⟨h1,h2⟩ := List.pairwise_cons.1 h;unfold putName
    split
    · rename_i hy
      refine List.pairwise_cons.2 ⟨fun z hz => ?_,putName_asc r w h2⟩;rcases (putName_mem r w z).1 hz with hz | rfl
      · exact h1 z hz
      · exact hy
    · split
      · exact h
      · rename_i hy hne
        have hwy : Op.bytesLess w y = true := by
          rcases bl_tri w y with a | a | a
          · exact a
          · exact absurd a.symm hne
          · exact absurd a hy
        refine List.pairwise_cons.2 ⟨fun z hz => ?_,h⟩;rcases List.mem_cons.1 hz with rfl | hz
        · exact hwy
        · exact bl_trans _ _ _ hwy (h1 z hz)
def putAll (l : List (List UInt8)) : List (List UInt8) := l.foldl putName []
theorem putAll_snoc (l : List (List UInt8)) (w : List UInt8) : putAll (l ++ [w]) = putName (putAll l) w := by simp [putAll]
theorem putFold : ∀ (l out : List (List UInt8)),Asc out → Asc (l.foldl putName out) ∧ ∀ x,x ∈ l.foldl putName out ↔ x ∈ out ∨ x ∈ l
  | [],out,h => ⟨h,fun x => by simp⟩
  | w :: l,out,h => by
    obtain ⟨a,b⟩ := putFold l (putName out w) (putName_asc out w h);refine ⟨a,fun x => ?_⟩;rw [List.foldl_cons,b x,putName_mem];simp only [List.mem_cons]
    constructor
    · rintro ((h | h) | h)
      · exact .inl h
      · exact .inr (.inl h)
      · exact .inr (.inr h)
    · rintro (h | h | h)
      · exact .inl (.inl h)
      · exact .inl (.inr h)
      · exact .inr h
theorem compact_asc (d : Array (List UInt8)) (hd : ∀ i j,i ≤ j → j < d.size → Op.bytesLess d[j]! d[i]! = false) : ∀ m,m ≤ d.size → Asc (Lib.compactUpTo d m) ∧ ∀ x,x ∈ Lib.compactUpTo d m ↔ ∃ j,j < m ∧ d[j]! = x
  | 0,_ => ⟨List.Pairwise.nil,fun x => by simp [Lib.compactUpTo]⟩
  | m + 1,hm => by
    obtain ⟨a,b⟩ := compact_asc d hd m (by omega);rw [Lib.compactUpTo_succ];cases hk : Lib.keeps d m with
    | true =>
      simp only [if_true];refine ⟨List.pairwise_append.2 ⟨a,by simp,fun x hx y hy => ?_⟩,fun x => ?_⟩
      · obtain rfl : y = d[m]! := by simpa using hy
        obtain ⟨j,hj,rfl⟩ := (b x).1 hx;simp only [Lib.keeps,decide_eq_true_eq] at hk;rcases hk with rfl | hk
        · omega
        · have h1 := hd j (m - 1) (by omega) (by omega)
          have h2 := hd (m - 1) m (by omega) (by omega);have h3 : Op.bytesLess d[m - 1]! d[m]! = true := by
            rcases bl_tri d[m - 1]! d[m]! with t | t | t
            · exact t
            · exact absurd t.symm hk
            · rw [t] at h2;cases h2
          rcases bl_tri d[j]! d[m - 1]! with t | t | t
          · exact bl_trans _ _ _ t h3
          · rw [t];exact h3
          · rw [t] at h1;cases h1
      · rw [List.mem_append,b x]
        constructor
        · rintro (⟨j,hj,e⟩ | e)
          · exact ⟨j,by omega,e⟩
          · exact ⟨m,by omega,by simpa [eq_comm] using e⟩
        · rintro ⟨j,hj,e⟩
          by_cases hjm : j = m
          · right;subst hjm;simp [e]
          · exact .inl ⟨j,by omega,e⟩
    | false =>
      simp only [Bool.false_eq_true,if_false,List.append_nil];refine ⟨a,fun x => ?_⟩;rw [b x];simp only [Lib.keeps,decide_eq_false_iff_not,not_or,Decidable.not_not] at hk
      constructor
      · rintro ⟨j,hj,e⟩;exact ⟨j,by omega,e⟩
      · rintro ⟨j,hj,e⟩
        by_cases hjm : j = m
        · subst hjm;exact ⟨j - 1,by omega,hk.2.symm.trans e⟩
        · exact ⟨j,by omega,e⟩
theorem sort_compact (l : List (List UInt8)) : Lib.compact (l.mergeSort fun x y => decide (x ≤ y)) = putAll l := by
  obtain ⟨p1,p2⟩ := putFold l [] List.Pairwise.nil
  have hle : ∀ x y : List UInt8,decide (x ≤ y) = !Op.bytesLess y x := fun x y => by
    rw [bytesLess_eq,← decide_not]
    congr 1
  have hs : (l.mergeSort fun x y => decide (x ≤ y)).Pairwise (fun x y => Op.bytesLess y x = false) := by
    have := List.pairwise_mergeSort (le := fun x y : List UInt8 => decide (x ≤ y)) (fun a b c h1 h2 => by
      rw [hle] at *;cases h : Op.bytesLess c a with
      | false => rfl
      | true =>
        exfalso
        rcases bl_tri a b with t | t | t
        · have := bl_trans _ _ _ h t;rw [this] at h2;cases h2
        · subst t;rw [h] at h2;cases h2
        · rw [t] at h1;cases h1) (fun a b => by
      rw [hle,hle];rcases bl_tri a b with t | t | t
      · rw [bl_asymm t];rfl
      · subst t;rw [bl_irrefl];rfl
      · rw [bl_asymm t];simp) l
    exact this.imp (fun {x y} h => by rw [hle] at h;simpa using h)
  have hm : ∀ x,x ∈ (l.mergeSort fun x y => decide (x ≤ y)) ↔ x ∈ l := fun x => List.mem_mergeSort
  generalize (l.mergeSort fun x y => decide (x ≤ y)) = m at hs hm
  obtain ⟨c1,c2⟩ := compact_asc m.toArray (fun i j hij hj => by
    have hj' : j < m.length := by simpa using hj
    rw [getElem!_pos m.toArray j hj,getElem!_pos m.toArray i (by omega)];rcases Nat.lt_or_ge i j with h | h
    · have := List.pairwise_iff_getElem.1 hs i j (by omega) hj' h
      simpa using this
    · obtain rfl : i = j := by omega
      exact bl_irrefl _) m.length (by simp)
  refine asc_ext _ _ c1 p1 (fun x => ?_)
  show x ∈ Lib.compactUpTo m.toArray m.length ↔ x ∈ l.foldl putName []
  rw [c2 x,p2 x]
  simp only [List.not_mem_nil,false_or]
  rw [← hm x]
  constructor
  · rintro ⟨j,hj,e⟩
    rw [getElem!_pos m.toArray j (by simpa using hj)] at e;rw [← e];simp
  · intro h
    obtain ⟨j,hj,e⟩ := List.getElem_of_mem h;exact ⟨j,hj,by rw [getElem!_pos m.toArray j (by simpa using hj)];simpa using e⟩
end Go.Proofs.YtpmbamfpmmdhcaaGreat
