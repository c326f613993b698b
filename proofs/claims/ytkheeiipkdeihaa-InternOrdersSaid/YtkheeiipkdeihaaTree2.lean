/- Functions on expressions: how many parts, how deep, all parts in order; what is light. -/
import Derived.Test.YtkheeiipkdeihaaTree
namespace Go.Proofs.Ytkheeiipkdeihaa
open Go.RowKit
set_option linter.unusedSimpArgs false
set_option linter.unusedVariables false

theorem Ex.ind {P : Ex → Prop} (h : ∀ e : Ex, (∀ k ∈ e.kids, P k) → P e) : ∀ e, P e := by
  have key : ∀ n : Nat, ∀ e : Ex, SizeOf.sizeOf e ≤ n → P e := by
    intro n
    induction n with
    | zero => intro e he; cases e; simp at he
    | succ n ih =>
      intro e he
      refine h e fun k hk => ih k ?_
      cases e with
      | mk a b c d f g i j ks =>
        have := List.sizeOf_lt_of_mem hk
        simp only [Ex.kids] at this
        simp at he
        omega
  exact fun e => key _ e (Nat.le_refl _)

theorem snoc_ind {α : Type} {P : List α → Prop} (l : List α) (nil : P []) (snoc : ∀ l x, P l → P (l ++ [x])) : P l := by
  have : ∀ r : List α, P r.reverse := by
    intro r
    induction r with
    | nil => exact nil
    | cons x r ih => rw [List.reverse_cons]; exact snoc _ _ ih
  have h := this l.reverse
  rwa [List.reverse_reverse] at h

noncomputable instance : DecidableEq Ex := fun a b => Classical.propDecidable (a = b)

mutual
/-- How many parts. -/
def Ex.size : Ex → Nat
  | .mk _ _ _ _ _ _ _ _ ks => 1 + sizes ks
def sizes : List Ex → Nat
  | [] => 0
  | k :: ks => k.size + sizes ks
end
mutual
/-- How deep. -/
def Ex.deep : Ex → Nat
  | .mk _ _ _ _ _ _ _ _ ks => deeps ks + 1
def deeps : List Ex → Nat
  | [] => 0
  | k :: ks => max k.deep (deeps ks)
end
mutual
/-- All parts, in order. -/
def Ex.flat : Ex → List Ex
  | .mk a b c d e f g h ks => .mk a b c d e f g h ks :: flats ks
def flats : List Ex → List Ex
  | [] => []
  | k :: ks => k.flat ++ flats ks
end
theorem Ex.size_eq (e : Ex) : e.size = 1 + sizes e.kids := by cases e; simp [Ex.size, Ex.kids]
theorem Ex.deep_eq (e : Ex) : e.deep = deeps e.kids + 1 := by cases e; simp [Ex.deep, Ex.kids]
theorem Ex.flat_eq (e : Ex) : e.flat = e :: flats e.kids := by cases e; simp [Ex.flat, Ex.kids]
theorem Ex.eq_mk (e : Ex) : e = .mk e.kind e.fn e.op e.num e.metric e.mats e.span e.names e.kids := by cases e; rfl
theorem Ex.ext {a b : Ex} (h1 : a.kind = b.kind) (h2 : a.fn = b.fn) (h3 : a.op = b.op) (h4 : a.num = b.num) (h5 : a.metric = b.metric) (h6 : a.mats = b.mats) (h7 : a.span = b.span)
    (h8 : a.names = b.names) (h9 : a.kids = b.kids) : a = b := by
  cases a; cases b
  simp only [Ex.kind, Ex.fn, Ex.op, Ex.num, Ex.metric, Ex.mats, Ex.span, Ex.names, Ex.kids] at *
  subst h1 h2 h3 h4 h5 h6 h7 h8 h9
  rfl
theorem sizes_append (a b : List Ex) : sizes (a ++ b) = sizes a + sizes b := by
  induction a with
  | nil => simp [sizes]
  | cons k a ih => simp only [List.cons_append, sizes, ih]; omega
theorem deeps_append (a b : List Ex) : deeps (a ++ b) = max (deeps a) (deeps b) := by
  induction a with
  | nil => simp [deeps]
  | cons k a ih => simp only [List.cons_append, deeps, ih]; omega
theorem flats_append (a b : List Ex) : flats (a ++ b) = flats a ++ flats b := by
  induction a with
  | nil => simp [flats]
  | cons k a ih => simp only [List.cons_append, flats, ih, List.append_assoc]
theorem sizes_step {l : List Ex} {k : Nat} (h : k < l.length) : sizes (l.take (k + 1)) = sizes (l.take k) + l[k].size := by
  rw [List.take_succ_eq_append_getElem h, sizes_append]; simp [sizes]
theorem deeps_step {l : List Ex} {k : Nat} (h : k < l.length) : deeps (l.take (k + 1)) = max (deeps (l.take k)) l[k].deep := by
  rw [List.take_succ_eq_append_getElem h, deeps_append]; simp [deeps]
theorem flats_step {l : List Ex} {k : Nat} (h : k < l.length) : flats (l.take (k + 1)) = flats (l.take k) ++ l[k].flat := by
  rw [List.take_succ_eq_append_getElem h, flats_append]; simp [flats]
theorem size_le_sizes {l : List Ex} {k : Ex} (h : k ∈ l) : k.size ≤ sizes l := by
  induction l with
  | nil => simp at h
  | cons x l ih =>
    simp only [sizes]
    rcases List.mem_cons.1 h with rfl | h
    · omega
    · have := ih h; omega
theorem sizes_take_le (l : List Ex) (k : Nat) : sizes (l.take k) ≤ sizes l := by
  have := sizes_append (l.take k) (l.drop k)
  rw [List.take_append_drop] at this
  omega
theorem length_le_sizes (l : List Ex) : l.length ≤ sizes l := by
  induction l with
  | nil => simp [sizes]
  | cons x l ih => simp only [sizes, List.length_cons]; have := x.size_eq; omega
theorem Ex.size_pos (e : Ex) : 1 ≤ e.size := by have := e.size_eq; omega
theorem flat_length : ∀ e : Ex, e.flat.length = e.size := by
  refine Ex.ind fun e ih => ?_
  rw [Ex.flat_eq, Ex.size_eq, List.length_cons]
  have : ∀ l : List Ex, (∀ k ∈ l, k.flat.length = k.size) → (flats l).length = sizes l := by
    intro l
    induction l with
    | nil => intro _; simp [flats, sizes]
    | cons x l ih => intro h; simp only [flats, sizes, List.length_append]; rw [h x (by simp), ih (fun k hk => h k (by simp [hk]))]
  rw [this _ ih]; omega
theorem flats_length (l : List Ex) : (flats l).length = sizes l := by
  induction l with
  | nil => simp [flats, sizes]
  | cons x l ih => simp only [flats, sizes, List.length_append, ih, flat_length]
theorem deep_le_size : ∀ e : Ex, e.deep ≤ e.size := by
  refine Ex.ind fun e ih => ?_
  rw [Ex.deep_eq, Ex.size_eq]
  have : ∀ l : List Ex, (∀ k ∈ l, k.deep ≤ k.size) → deeps l ≤ sizes l := by
    intro l
    induction l with
    | nil => intro _; simp [deeps, sizes]
    | cons x l ih => intro h; simp only [deeps, sizes]; have h1 := h x (by simp); have h2 := ih (fun k hk => h k (by simp [hk])); omega
  have := this _ ih; omega
theorem deeps_le_sizes (l : List Ex) : deeps l ≤ sizes l := by
  induction l with
  | nil => simp [deeps, sizes]
  | cons x l ih => simp only [deeps, sizes]; have := deep_le_size x; omega

/-- All numbers are of 64 bits. -/
def Ex.num64 (e : Ex) : Prop := ∀ x ∈ e.flat, -9223372036854775808 ≤ x.num ∧ x.num ≤ 9223372036854775807
theorem flats_iff {x : Ex} : ∀ {l : List Ex}, x ∈ flats l ↔ ∃ k ∈ l, x ∈ k.flat
  | [] => by simp [flats]
  | y :: l => by simp only [flats, List.mem_append, flats_iff (l := l), List.mem_cons, exists_eq_or_imp]
theorem Ex.num64.self {e : Ex} (h : e.num64) : -9223372036854775808 ≤ e.num ∧ e.num ≤ 9223372036854775807 := h e (by rw [Ex.flat_eq]; exact List.mem_cons_self)
theorem Ex.num64.kid {e k : Ex} (h : e.num64) (hk : k ∈ e.kids) : k.num64 := fun x hx => h x (by rw [Ex.flat_eq]; exact List.mem_cons_of_mem _ (flats_iff.2 ⟨k, hk, hx⟩))
theorem Ex.num64_of {e : Ex} (h : -9223372036854775808 ≤ e.num ∧ e.num ≤ 9223372036854775807) (hk : ∀ k ∈ e.kids, k.num64) : e.num64 := fun x hx => by
  rw [Ex.flat_eq] at hx
  rcases List.mem_cons.1 hx with rfl | hx
  · exact h
  · obtain ⟨k, h1, h2⟩ := flats_iff.1 hx
    exact hk k h1 x h2

/-- waterwheelkit.weigh. -/
def weigh : Nat → Ex → Int → Int
  | 0, _, most => most + 1
  | d + 1, e, most => e.kids.foldl (fun n k => if n ≤ most then n + weigh d k (most - n) else n) (1 + min (e.mats.length : Int) most + min (e.names.length : Int) most)
/-- weigh's count after these kids. -/
def weighTo (d : Nat) (e : Ex) (most : Int) (ks : List Ex) : Int :=
  ks.foldl (fun n k => if n ≤ most then n + weigh d k (most - n) else n) (1 + min (e.mats.length : Int) most + min (e.names.length : Int) most)
theorem weigh_eq (d : Nat) (e : Ex) (most : Int) : weigh (d + 1) e most = weighTo d e most e.kids := rfl
theorem weighTo_step (d : Nat) (e : Ex) (most : Int) {l : List Ex} {k : Nat} (h : k < l.length) :
    weighTo d e most (l.take (k + 1)) = if weighTo d e most (l.take k) ≤ most then weighTo d e most (l.take k) + weigh d l[k] (most - weighTo d e most (l.take k)) else weighTo d e most (l.take k) := by
  rw [List.take_succ_eq_append_getElem h]; simp only [weighTo, List.foldl_append]; rfl
theorem weighTo_stuck (d : Nat) (e : Ex) (most : Int) (a b : List Ex) (h : most < weighTo d e most a) : weighTo d e most (a ++ b) = weighTo d e most a := by
  unfold weighTo at *
  rw [List.foldl_append]
  generalize List.foldl _ _ a = n at *
  induction b with
  | nil => rfl
  | cons k b ih => rw [List.foldl_cons, if_neg (by omega)]; exact ih
theorem weigh_bd : ∀ (d : Nat) (e : Ex) (most : Int), 0 ≤ most → 1 ≤ weigh d e most ∧ weigh d e most ≤ 2 * most + 2 := by
  intro d
  induction d with
  | zero => intro e most h; simp only [weigh]; omega
  | succ d ih =>
    intro e most h
    rw [weigh_eq]
    unfold weighTo
    generalize hs : (1 + min (e.mats.length : Int) most + min (e.names.length : Int) most) = s
    have h0 : 1 ≤ s ∧ s ≤ 2 * most + 2 := by omega
    clear hs
    generalize e.kids = ks
    induction ks generalizing s with
    | nil => exact h0
    | cons k ks ihk =>
      rw [List.foldl_cons]
      refine ihk _ ?_
      split
      · have := ih k (most - s) (by omega); omega
      · exact h0
theorem weighTo_bd (d : Nat) (e : Ex) (most : Int) (ks : List Ex) (h : 0 ≤ most) : 1 ≤ weighTo d e most ks ∧ weighTo d e most ks ≤ 2 * most + 2 := by
  have := weigh_bd (d + 1) (.mk 0 0 0 0 e.metric e.mats 0 e.names ks) most h
  exact this

/-- What is light has few parts. -/
theorem weigh_size : ∀ (d : Nat) (e : Ex) (most : Int), 0 ≤ most → weigh d e most ≤ most → (e.size : Int) ≤ weigh d e most := by
  intro d
  induction d with
  | zero => intro e most h hw; simp only [weigh] at hw; omega
  | succ d ih =>
    intro e most h hw
    rw [weigh_eq] at hw ⊢
    rw [Ex.size_eq]
    have key : ∀ (l : List Ex), weighTo d e most l ≤ most → 1 + (sizes l : Int) ≤ weighTo d e most l := by
      intro l
      induction l using snoc_ind with
      | nil => intro _; simp [weighTo, sizes]; omega
      | snoc l k ihl =>
        intro hl
        have hs : weighTo d e most (l ++ [k]) = if weighTo d e most l ≤ most then weighTo d e most l + weigh d k (most - weighTo d e most l) else weighTo d e most l := by
          simp only [weighTo, List.foldl_append]; rfl
        rw [hs] at hl ⊢
        by_cases hle : weighTo d e most l ≤ most
        · rw [if_pos hle] at hl ⊢
          have h1 := ihl hle
          have h2 := ih k (most - weighTo d e most l) (by omega) (by omega)
          rw [sizes_append]
          simp only [sizes]
          omega
        · rw [if_neg hle] at hl; omega
    have := key _ hw
    omega

def matShort (m : Mat) : Bool := decide (m.name.size ≤ 300) && decide (m.text.size ≤ 300)
mutual
/-- waterwheelkit.short. -/
def Ex.short : Ex → Bool
  | .mk _ _ _ _ me ms _ ns ks => decide (me.size ≤ 300) && ms.all matShort && ns.all (fun s => decide (s.size ≤ 300)) && shorts ks
def shorts : List Ex → Bool
  | [] => true
  | k :: ks => k.short && shorts ks
end
theorem Ex.short_eq (e : Ex) : e.short = (decide (e.metric.size ≤ 300) && e.mats.all matShort && e.names.all (fun s => decide (s.size ≤ 300)) && shorts e.kids) := by
  cases e; rfl
theorem shorts_append (a b : List Ex) : shorts (a ++ b) = (shorts a && shorts b) := by
  induction a with
  | nil => simp [shorts]
  | cons k a ih => simp only [List.cons_append, shorts, ih, Bool.and_assoc]
theorem shorts_step {l : List Ex} {k : Nat} (h : k < l.length) : shorts (l.take (k + 1)) = (shorts (l.take k) && l[k].short) := by
  rw [List.take_succ_eq_append_getElem h, shorts_append]; simp [shorts]
/-- waterwheelkit.LightExpr. -/
def light (e : Ex) (most : Int) : Bool := decide (weigh 40 e most ≤ most) && e.short
theorem light_size {e : Ex} {most : Int} (h : light e most = true) (hm : 0 ≤ most) : (e.size : Int) ≤ most := by
  unfold light at h
  simp only [Bool.and_eq_true, decide_eq_true_eq] at h
  have := weigh_size 40 e most hm h.1
  omega

end Go.Proofs.Ytkheeiipkdeihaa
