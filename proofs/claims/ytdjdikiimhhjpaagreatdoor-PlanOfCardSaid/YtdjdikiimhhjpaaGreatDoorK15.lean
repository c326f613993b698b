/- ast.Leaves. -/
import Derived.Test.YtdjdikiimhhjpaaGreatDoorK11
import Derived.RegionIn
import Derived.Deep.MidRow
import Derived.Test.YtdjdikiimhhjpaaGreatDoorK9
set_option maxRecDepth 100000
set_option maxHeartbeats 16000000
namespace Go.Proofs.YtdjdikiimhhjpaaGreatDoor
open Go.Shelf
open Go.RowKit
set_option linter.unusedSimpArgs false
set_option linter.unusedVariables false
attribute [local go_sem] Oper.semAt_some
theorem regPhase {F : Fence} {m : Nat} {P : Program} {md : Region.Mode} {ops : Array Oper} {Q : Exit → Act → World → Prop} {fuel : Nat} {listed : Array Bool} {a : Act} {w : World} (n4 : Nat) (l4 : Array Bool) (a4 : Act) (w4 : World)
    (h4 : wpAnyIn F m P md ops Q n4 l4 a4 w4) (h : (∀ f l, f = n4 → l = l4 → wpAnyIn F m P md ops Q f l a4 w4) → wpAnyIn F m P md ops Q fuel listed a w) : wpAnyIn F m P md ops Q fuel listed a w :=
  h (fun f l hf hl => by rw [hf, hl]; exact h4)
def LvI (n base c : Nat) (l : List Ex) (W : World) : Prop := ∃ v, Boxed W c 35 v ∧ Own n base W v l
theorem LvI.own {n base c B : Nat} (hn : n ≤ B) (hcc : n ≤ c) : OwnFrom B (fun (l : List Ex) W => LvI n base c l W) := fun l W W' row ⟨v, hb, rows, h1, h2, h3⟩ hg hr => by
  have hno : ∀ (k : Nat) (cs : Array Value) (e : TypeId), W.heap[k]? = some (.cells cs e (0, 0)) → some k ≠ row := by
    intro k cs e hk ek; obtain ⟨_, o, ho, hc⟩ := hr k ek.symm; rw [hk] at ho; cases ho; cases hc
  refine ⟨v, hb.kept hg (hno _ _ _ hb), rows, h1.kept hg ?_, h2, fun k r e hr' he => (h3 k r e hr' he).mono ⟨hg.os, hg.tape, hg.output, hg.size, fun k hk => ?_⟩ (Nat.le_refl _)⟩
  · cases ho : v.ownBlock with
    | none => exact .inl rfl
    | some g =>
      obtain ⟨cs, hcs⟩ := ownsRow_cells h1 g ho; exact .inr (hno _ _ _ hcs)
  · exact hg.block k (by have := hb.lt; omega) (fun e => by have := (hr k e.symm).1; omega)
theorem lvEnd {n base B : Nat} {pre : List Ex} {x : Ex} {w W W' : World} {v : Value} {l : List Ex} {rows : List (List Value)} {k : Nat} (h : Post1 n base (base + 1) v.ownBlock (l ++ [x]) W W') (hn : n ≤ base) (hb : Below base w W) (hbx : Boxed W (base + 1) 35 v)
    (ho : W.ownsRow base 37 9 v k rows.flatten) (hbase : base ≤ W.heap.size) (hf : pre.filter (fun x => decide (x.kind = 1)) = l ++ [x]) :
    KeepsFrom B W W' ∧ KpX (Vl n (base + 1) 35) (Xl (base + 1)) W W' ∧ LvI n base (base + 1) (pre.filter (fun x => decide (x.kind = 1))) W' ∧ Below base w W' := by
  obtain ⟨v', h1, h2, h3, h4⟩ := h
  obtain ⟨rows', g1, g2, g3⟩ := h2
  have h5 := two_post (n₀ := n) (B := B) h3 hbx h1 ho g1 h4 (by omega) hn
  exact ⟨h5.1, h5.2, ⟨v', h1, by rw [hf]; exact ⟨rows', g1, g2, g3⟩⟩, h3.below hb hbase (by omega) (fun k hk => (ownsRow_block ho k hk).1)⟩
end Go.Proofs.YtdjdikiimhhjpaaGreatDoor
namespace Go.Proofs.YtdjdikiimhhjpaaGreatDoor
open Go.RowKit
set_option linter.unusedSimpArgs false
set_option linter.unusedVariables false
def hor : List Ex → Int
  | [] => 0
  | x :: l => max x.span (hor l)
def horTo (l : List Ex) : Int := l.foldl (fun n x => max n x.span) 0
theorem horTo_step {l : List Ex} {k : Nat} (h : k < l.length) : horTo (l.take (k + 1)) = max (horTo (l.take k)) l[k].span := by
  rw [List.take_succ_eq_append_getElem h]; simp only [horTo, List.foldl_append, List.foldl_cons, List.foldl_nil]
theorem horTo_bd (l : List Ex) : 0 ≤ horTo l := by
  unfold horTo
  have : ∀ (l : List Ex) (a : Int), a ≤ l.foldl (fun n x => max n x.span) a := by
    intro l
    induction l with
    | nil => intro a; simp
    | cons x l ih => intro a; rw [List.foldl_cons]; have := ih (max a x.span); omega
  exact this l 0
def Ex.hor (e : Ex) : Int := horTo e.leaves
end Go.Proofs.YtdjdikiimhhjpaaGreatDoor
namespace Go.Proofs.YtdjdikiimhhjpaaGreatDoor
open Go.RowKit
set_option linter.unusedSimpArgs false
set_option linter.unusedVariables false
/-! ### parts of an expression -/
theorem kid_part {e k : Ex} (h : k ∈ e.kids) : ∀ x ∈ k.flat, x ∈ e.flat := by
  intro x hx
  rw [Ex.flat_eq]
  refine List.mem_cons_of_mem _ ?_
  have : ∀ ks : List Ex, k ∈ ks → x ∈ flats ks := by
    intro ks
    induction ks with
    | nil => intro h; simp at h
    | cons c ks ih =>
      intro h; simp only [flats, List.mem_append]; rcases List.mem_cons.1 h with rfl | h
      · exact Or.inl hx
      · exact Or.inr (ih h)
  exact this e.kids h
theorem flat_self (e : Ex) : e ∈ e.flat := by rw [Ex.flat_eq]; simp
theorem in_flats {ks : List Ex} {x : Ex} (h : x ∈ flats ks) : ∃ k ∈ ks, x ∈ k.flat := by
  induction ks with
  | nil => simp [flats] at h
  | cons c ks ih =>
    simp only [flats, List.mem_append] at h; rcases h with h | h
    · exact ⟨c, by simp, h⟩
    · obtain ⟨k, h1, h2⟩ := ih h
      exact ⟨k, by simp [h1], h2⟩
theorem flat_cases {e x : Ex} (h : x ∈ e.flat) : x = e ∨ ∃ k ∈ e.kids, x ∈ k.flat := by
  rw [Ex.flat_eq] at h
  rcases List.mem_cons.1 h with h | h
  · exact Or.inl h
  · exact Or.inr (in_flats h)
theorem flat_trans : ∀ (e x : Ex), x ∈ e.flat → ∀ y ∈ x.flat, y ∈ e.flat := by
  refine Ex.ind fun e ih => ?_
  intro x hx y hy
  rcases flat_cases hx with rfl | ⟨k, hk, h⟩
  · exact hy
  · exact kid_part hk y (ih k hk x h y hy)
theorem deep_kid {k : Ex} : ∀ {ks : List Ex}, k ∈ ks → k.deep ≤ deeps ks
  | c :: ks, h => by
    rcases List.mem_cons.1 h with rfl | h
    · rw [deeps]; omega
    · have := deep_kid h; rw [deeps]; omega
theorem flat_deep : ∀ (e : Ex), ∀ x ∈ e.flat, x.deep ≤ e.deep := by
  refine Ex.ind fun e ih => ?_
  intro x hx
  rcases flat_cases hx with rfl | ⟨k, hk, h⟩
  · exact Nat.le_refl _
  · have h1 := ih k hk x h
    have h2 := deep_kid hk; rw [e.deep_eq]; omega
theorem check_parts {ev : Int} {e : Ex} (h : checkQuery ev e = 0) : (1 ≤ ev ∧ ev ≤ 1073741824) ∧ e.size ≤ 200 ∧ e.deep ≤ 16 ∧ e.flat.all rightB = true := by
  unfold checkQuery at h
  split at h
  · rename_i hev
    refine ⟨hev, ?_⟩; unfold checkExpr at h
    split at h
    · exact absurd h (by decide)
    · rename_i h1
      split at h
      · rename_i h2; exact ⟨by omega, by omega, h2⟩
      · exact absurd h (by decide)
  · exact absurd h (by decide)
theorem check_of {ev : Int} {e : Ex} (h1 : 1 ≤ ev ∧ ev ≤ 1073741824) (h2 : e.size ≤ 200) (h3 : e.deep ≤ 16) (h4 : e.flat.all rightB = true) : checkQuery ev e = 0 := by
  unfold checkQuery
  rw [if_pos h1, checkExpr_ok (by omega) h4]
theorem check_flat {ev : Int} {e : Ex} (h : checkQuery ev e = 0) {x : Ex} (hx : x ∈ e.flat) : checkQuery ev x = 0 := by
  obtain ⟨a, b, c, d⟩ := check_parts h
  refine check_of a (Nat.le_trans (flat_size e x hx) b) (Nat.le_trans (flat_deep e x hx) c) ?_
  rw [List.all_eq_true] at d ⊢
  exact fun y hy => d y (flat_trans e x hx y hy)
theorem firstBad_ok : ∀ {l : List (Int × Ex)}, firstBad l = 0 → ∀ q ∈ l, checkQuery q.1 q.2 = 0
  | [], _, q, h => by simp at h
  | a :: r, h, q, hq => by
    unfold firstBad at h
    split at h
    · rename_i h1
      rcases List.mem_cons.1 hq with rfl | hq
      · exact h1
      · exact firstBad_ok h q hq
    · rename_i h1; exact absurd h h1
theorem firstBad_of : ∀ {l : List (Int × Ex)}, (∀ q ∈ l, checkQuery q.1 q.2 = 0) → firstBad l = 0
  | [], _ => rfl
  | a :: r, h => by unfold firstBad; rw [if_pos (h a (by simp))]; exact firstBad_of fun q hq => h q (by simp [hq])
def Valid (L : List NX) : Prop := ∀ x ∈ L, checkQuery x.every x.full = 0
theorem putQs_valid {l : List (Int × Ex)} (h : ∀ q ∈ l, checkQuery q.1 q.2 = 0) : Valid (putQs l []).1 := by
  intro x hx
  rcases putQs_new l [] x hx with h1 | ⟨q, h1, h2, h3⟩
  · simp at h1
  · rw [h2]; exact check_flat (h q h1) h3
/-! ### horizons -/
def spanAt (p : List Nd) (i : Int) : Int := match p[i.toNat - 1]? with
  | some x => x.ex.span
  | none => 0
def maxTo (l : List Int) : Int := l.foldl (fun h x => max h x) 0
noncomputable def ndHorizon (p : List Nd) (n : Int) : Int := open Classical in if ndCheck p = 0 ∧ 1 ≤ n ∧ n ≤ (p.length : Int) then maxTo ((numsOf (usedL p [n]) 0).map (spanAt p)) else 0
theorem maxTo_le {l : List Int} {b : Int} (hb : 0 ≤ b) : maxTo l ≤ b ↔ ∀ x ∈ l, x ≤ b := by
  have key : ∀ (l : List Int) (a : Int), l.foldl (fun h x => max h x) a ≤ b ↔ a ≤ b ∧ ∀ x ∈ l, x ≤ b := by
    intro l
    induction l with
    | nil => intro a; simp
    | cons c l ih =>
      intro a; rw [List.foldl_cons, ih]; simp only [List.mem_cons, forall_eq_or_imp]
      constructor
      · rintro ⟨h1, h2⟩; exact ⟨by omega, by omega, h2⟩
      · rintro ⟨h1, h2, h3⟩; exact ⟨by omega, h3⟩
  unfold maxTo
  rw [key]; simp [hb]
theorem maxTo_0 (l : List Int) : 0 ≤ maxTo l := by
  have key : ∀ (l : List Int) (a : Int), a ≤ l.foldl (fun h x => max h x) a := by
    intro l
    induction l with
    | nil => intro a; simp
    | cons c l ih => intro a; rw [List.foldl_cons]; have := ih (max a c); omega
  exact key l 0
theorem horTo_eq (l : List Ex) : horTo l = maxTo (l.map Ex.span) := by unfold horTo maxTo; rw [List.foldl_map]
theorem numsOf_mem : ∀ (m : List Bool) (i : Int) (n : Int), n ∈ numsOf m i ↔ ∃ k : Nat, k < m.length ∧ m.getD k false = true ∧ n = i + 1 + k
  | [], i, n => by simp [numsOf]
  | b :: r, i, n => by
    have ih := numsOf_mem r (i + 1) n; have h1 : n ∈ numsOf (b :: r) i ↔ (b = true ∧ n = i + 1) ∨ n ∈ numsOf r (i + 1) := by
      cases b <;> simp [numsOf]
    rw [h1, ih]
    constructor
    · rintro (⟨h, rfl⟩ | ⟨k, h2, h3, rfl⟩)
      · exact ⟨0, by simp, by simpa using h, by simp⟩
      · exact ⟨k + 1, by simpa using h2, by simpa using h3, by omega⟩
    · rintro ⟨k, h2, h3, rfl⟩
      cases k with
      | zero => exact Or.inl ⟨by simpa using h3, by simp⟩
      | succ k => exact Or.inr ⟨k, by simpa using h2, by simpa using h3, by omega⟩
section
variable {L : List NX}
theorem nd_at (L : List NX) (i : Nat) : (L.map NX.nd)[i]? = (L[i]?).map NX.nd := List.getElem?_map ..
theorem insAt_nd {i : Nat} {x : NX} (h : L[i]? = some x) : insAt (L.map NX.nd) i = x.ins := by unfold insAt; rw [nd_at, h]; rfl
theorem marked_in (hL : Inv L) (hA : Ahead (L.map NX.nd)) {ev : Int} {e : Ex} {n : Int} (h : Rep L ev e n) : ∀ (d i : Nat) (x : NX), L.length - i ≤ d → L[i]? = some x → (usedL (L.map NX.nd) [n]).getD i false = true → x.every = ev ∧ x.full ∈ e.flat := by
  intro d
  induction d with
  | zero => intro i x hd hx; have := (List.getElem?_eq_some_iff.1 hx).1; omega
  | succ d ih =>
    intro i x hd hx hm; have hi := (List.getElem?_eq_some_iff.1 hx).1; have hl : (markRoots (L.map NX.nd).length [n] (List.replicate (L.map NX.nd).length false)).length = L.length := by rw [markRoots_len, List.length_replicate, List.length_map]
    rcases usedF_why hA _ _ i (by rw [hl, List.length_map]; exact Nat.le_refl _) (by omega) hm with h1 | ⟨j, m, h1, h2, h3, h4⟩
    · rcases (markRoots_get _ _ _ i (by simpa using hi)).1 h1 with h1 | ⟨r, hr, h1, h2⟩
      · simp only [List.getD_eq_getElem?_getD, List.getElem?_replicate] at h1
        split at h1 <;> simp at h1
      · simp only [List.mem_singleton] at hr
        subst hr; obtain ⟨k, y, k1, k2, k3, k4⟩ := h; obtain rfl : k = i := by omega
        rw [hx] at k1; cases k1; exact ⟨k3, by rw [k4]; exact flat_self e⟩
    · have hj : j < L.length := by rw [List.length_map] at h1; exact h1
      obtain ⟨y, hy⟩ : ∃ y, L[j]? = some y := ⟨_, List.getElem?_eq_getElem hj⟩; have hm2 := hA j m h3; rw [insAt_nd hy] at h3; obtain ⟨e1, e2⟩ := ih j y (by omega) hy h2; obtain ⟨k, hk, hr⟩ := (hL.kids j y hy).drop.mem m h3; obtain ⟨c, z, c1, c2, c3, c4⟩ := hr; obtain rfl : c = i := by omega
      rw [hx] at c1; cases c1; exact ⟨c3.trans e1, by rw [c4]; exact flat_trans e _ e2 _ (kid_part hk _ (flat_self k))⟩
theorem marked_of (hL : Inv L) (hA : Ahead (L.map NX.nd)) {roots : List Int} {ev : Int} : ∀ (e : Ex) (i : Nat) (x : NX), L[i]? = some x → x.every = ev → x.full = e → (usedL (L.map NX.nd) roots).getD i false = true →
    ∀ y ∈ e.flat, ∃ (j : Nat) (z : NX), L[j]? = some z ∧ z.every = ev ∧ z.full = y ∧ (usedL (L.map NX.nd) roots).getD j false = true := by
  refine Ex.ind fun e ih => ?_
  intro i x hx hev hf hm y hy
  rcases flat_cases hy with rfl | ⟨k, hk, h⟩
  · exact ⟨i, x, hx, hev, hf, hm⟩
  · have hR := (hL.kids i x hx).drop
    rw [hf, hev] at hR; have key : ∀ (es : List Ex) (ns : List Int), Reps L ev es ns → k ∈ es → ∃ m ∈ ns, Rep L ev k m := by
      intro es
      induction es with
      | nil => intro ns _ h; simp at h
      | cons c es ih2 =>
        intro ns hh h; cases ns with
        | nil => exact hh.elim
        | cons m ns =>
          rcases List.mem_cons.1 h with rfl | h
          · exact ⟨m, by simp, hh.1⟩
          · obtain ⟨m', h1, h2⟩ := ih2 ns hh.2 h
            exact ⟨m', by simp [h1], h2⟩
    obtain ⟨m, h1, c, z, c1, c2, c3, c4⟩ := key _ _ hR hk; have hi := (List.getElem?_eq_some_iff.1 hx).1; have hl : (markRoots (L.map NX.nd).length roots (List.replicate (L.map NX.nd).length false)).length = L.length := by rw [markRoots_len, List.length_replicate, List.length_map]
    have hz := usedF_shut hA _ _ i (by rw [hl, List.length_map]; exact Nat.le_refl _) (by rw [List.length_map]; exact hi) hm m (by rw [insAt_nd hx]; exact h1); rw [show m.toNat - 1 = c by omega] at hz; exact ih k hk c z c1 c3 c4 hz y h
end
theorem leaves_in : ∀ (e : Ex), ∀ x ∈ e.leaves, x ∈ e.flat := by
  refine Ex.ind fun e ih => ?_
  intro x hx
  rw [Ex.leaves_eq, List.mem_append] at hx
  rcases hx with hx | hx
  · split at hx
    · simp only [List.mem_singleton] at hx; rw [hx]; exact flat_self e
    · simp at hx
  · have : ∀ ks : List Ex, x ∈ leavess ks → ∃ k ∈ ks, x ∈ k.leaves := by
      intro ks
      induction ks with
      | nil => intro h; simp [leavess] at h
      | cons c ks ih2 =>
        intro h; simp only [leavess, List.mem_append] at h; rcases h with h | h
        · exact ⟨c, by simp, h⟩
        · obtain ⟨k, h1, h2⟩ := ih2 h
          exact ⟨k, by simp [h1], h2⟩
    obtain ⟨k, h1, h2⟩ := this _ hx; exact kid_part h1 x (ih k h1 x h2)
theorem leaf_of : ∀ (e : Ex), ∀ x ∈ e.flat, x.kind = 1 → x ∈ e.leaves := by
  refine Ex.ind fun e ih => ?_
  intro x hx hk
  rw [Ex.leaves_eq, List.mem_append]
  rcases flat_cases hx with rfl | ⟨k, h1, h2⟩
  · left; rw [if_pos hk]; simp
  · right
    have h3 := ih k h1 x h2 hk; have : ∀ ks : List Ex, k ∈ ks → x ∈ leavess ks := by
      intro ks
      induction ks with
      | nil => intro h; simp at h
      | cons c ks ih2 =>
        intro h; simp only [leavess, List.mem_append]; rcases List.mem_cons.1 h with rfl | h
        · exact Or.inl h3
        · exact Or.inr (ih2 h)
    exact this _ h1
theorem span_0 {x : Ex} (h : rightB x = true) (hk : x.kind ≠ 1) : x.span = 0 := by
  unfold rightB at h
  rw [Bool.and_eq_true] at h
  obtain ⟨h1, h2⟩ := h
  have h1' : 1 ≤ x.kind ∧ x.kind ≤ 5 := by simpa [kindOk] using h1
  generalize x.kind = k at *
  obtain rfl | rfl | rfl | rfl | rfl : k = 1 ∨ k = 2 ∨ k = 3 ∨ k = 4 ∨ k = 5 := by omega
  · exact absurd rfl hk
  all_goals (unfold rightH at h2; simp only [Bool.and_eq_true] at h2; have := h2.2; simpa [hasOf] using this)
theorem plan_horizon {L : List NX} (hL : Inv L) (hv : Valid L) (hn : L.length ≤ 1000) {ev : Int} {e : Ex} {n : Int} (h : Rep L ev e n) : ndHorizon (L.map NX.nd) n = e.hor := by
  have hok := plan_ok hL hv
  have hA := hok.ahead
  have hc := ndCheck_ok (p := L.map NX.nd) (by rw [List.length_map]; exact hn) hok
  have hb := h.bd
  unfold ndHorizon
  rw [if_pos ⟨hc, hb.1, by rw [List.length_map]; exact hb.2⟩]
  unfold Ex.hor
  rw [horTo_eq]
  have hval : checkQuery ev e = 0 := by
    obtain ⟨i, x, h1, -, rfl, rfl⟩ := h; exact hv x (List.mem_of_getElem? h1)
  obtain ⟨-, -, -, hall⟩ := check_parts hval
  rw [List.all_eq_true] at hall
  apply Int.le_antisymm
  · rw [maxTo_le (maxTo_0 _)]
    intro s hs; obtain ⟨m, hm, rfl⟩ := List.mem_map.1 hs; obtain ⟨k, k1, k2, rfl⟩ := (numsOf_mem _ _ _).1 hm; rw [usedL_len, List.length_map] at k1; obtain ⟨x, hx⟩ : ∃ x, L[k]? = some x := ⟨_, List.getElem?_eq_getElem k1⟩; obtain ⟨-, h2⟩ := marked_in hL hA h L.length k x (by omega) hx k2; have e1 : spanAt (L.map NX.nd) (0 + 1 + (k : Int)) = x.full.span := by
      unfold spanAt; rw [show (0 + 1 + (k : Int)).toNat - 1 = k by omega, nd_at, hx]; rfl
    rw [e1]
    by_cases h1 : x.full.kind = 1
    · exact (maxTo_le (maxTo_0 _)).1 (Int.le_refl _) _ (List.mem_map.2 ⟨_, leaf_of e _ h2 h1, rfl⟩)
    · rw [span_0 (hall _ h2) h1]; exact maxTo_0 _
  · rw [maxTo_le (maxTo_0 _)]
    intro s hs; obtain ⟨y, hy, rfl⟩ := List.mem_map.1 hs; obtain ⟨i, x, h1, h2, h3, h4⟩ := h; have hi := (List.getElem?_eq_some_iff.1 h1).1; have hm : (usedL (L.map NX.nd) [n]).getD i false = true := by
      unfold usedL; refine usedF_more _ _ _ (by rw [markRoots_len, List.length_replicate, List.length_map]; exact hi) ((markRoots_get _ _ _ _ (by simpa using hi)).2 (Or.inr ⟨n, by simp, ⟨by omega, by rw [List.length_map]; omega⟩, by omega⟩))
    obtain ⟨j, z, z1, z2, z3, z4⟩ := marked_of hL hA e i x h1 h3 h4 hm y (leaves_in e y hy); have hj := (List.getElem?_eq_some_iff.1 z1).1; refine (maxTo_le (maxTo_0 _)).1 (Int.le_refl _) _ (List.mem_map.2 ⟨0 + 1 + (j : Int), (numsOf_mem _ _ _).2 ⟨j, by rw [usedL_len, List.length_map]; exact hj, z4, rfl⟩, ?_⟩); unfold spanAt; rw [show (0 + 1 + (j : Int)).toNat - 1 = j by omega, nd_at, z1, ← z3]; rfl
end Go.Proofs.YtdjdikiimhhjpaaGreatDoor
namespace Go.Proofs.YtdjdikiimhhjpaaGreatDoor
open Go.RowKit
set_option linter.unusedSimpArgs false
set_option linter.unusedVariables false
def toAt (tt : List Int) (n : Int) : Int := tt.getD (n.toNat - 1) 0
def onlyF : List Nd → List Bool → List Nd → List Int → List Nd × List Int
  | [], _, q, tt => (q, tt)
  | x :: r, m, q, tt => if m.headD false then onlyF r m.tail (q ++ [⟨x.every, x.ex, x.ins.map (toAt tt)⟩]) (tt ++ [(q.length : Int) + 1]) else onlyF r m.tail q (tt ++ [0])
noncomputable def ndOnly (p : List Nd) (roots : List Int) : List Nd × List Int × Int := open Classical in
  if ndCheck p = 0 then (if ∀ r ∈ roots, 1 ≤ r ∧ r ≤ (p.length : Int) then ((onlyF p (usedL p roots) [] []).1, (onlyF p (usedL p roots) [] []).2, 0) else ([], [], 2)) else ([], [], ndCheck p)
def onlyX : List NX → List Bool → List NX → List Int → List NX × List Int
  | [], _, q, tt => (q, tt)
  | x :: r, m, q, tt => if m.headD false then onlyX r m.tail (q ++ [⟨x.every, x.full, x.ins.map (toAt tt)⟩]) (tt ++ [(q.length : Int) + 1]) else onlyX r m.tail q (tt ++ [0])
theorem only_nd : ∀ (r : List NX) (m : List Bool) (q : List NX) (tt : List Int), onlyF (r.map NX.nd) m (q.map NX.nd) tt = ((onlyX r m q tt).1.map NX.nd, (onlyX r m q tt).2)
  | [], m, q, tt => rfl
  | x :: r, m, q, tt => by
    rw [List.map_cons, onlyF, onlyX]
    split
    · have := only_nd r m.tail (q ++ [⟨x.every, x.full, x.ins.map (toAt tt)⟩]) (tt ++ [(q.length : Int) + 1])
      rw [List.map_append] at this
      simpa [NX.nd] using this
    · exact only_nd r m.tail q (tt ++ [0])
structure OnlyI (A : List NX) (m : List Bool) (q : List NX) (tt : List Int) : Prop where
  len : tt.length = A.length
  inv : Inv q
  one : ∀ (i : Nat) (x : NX), A[i]? = some x → m.getD i false = true → ∃ k : Nat, tt[i]? = some ((k : Int) + 1) ∧ q[k]? = some ⟨x.every, x.full, x.ins.map (toAt tt)⟩
  back : ∀ (k : Nat), k < q.length → ∃ (i : Nat) (x : NX), A[i]? = some x ∧ m.getD i false = true ∧ tt[i]? = some ((k : Int) + 1)
theorem toAt_app {tt : List Int} {n : Int} (z : List Int) (h : n.toNat - 1 < tt.length) : toAt (tt ++ z) n = toAt tt n := by
  unfold toAt
  simp [List.getD_eq_getElem?_getD, List.getElem?_append_left h]
theorem only_inv {L : List NX} (hL : Inv L) {m : List Bool} (hm : ∀ (j : Nat) (x : NX), L[j]? = some x → m.getD j false = true → ∀ n ∈ x.ins, m.getD (n.toNat - 1) false = true) :
    ∀ (r : List NX) (A : List NX) (q : List NX) (tt : List Int), L = A ++ r → OnlyI A m q tt → OnlyI L m (onlyX r (m.drop A.length) q tt).1 (onlyX r (m.drop A.length) q tt).2
  | [], A, q, tt, h, hI => by rw [h, List.append_nil]; exact hI
  | x :: r, A, q, tt, h, hI => by
    have hx : L[A.length]? = some x := by rw [h]; simp
    have hd : (m.drop A.length).headD false = m.getD A.length false := by
      rw [List.getD_eq_getElem?_getD]; cases hh : m[A.length]? with
      | none => rw [List.drop_eq_nil_of_le (by simpa using hh)]; rfl
      | some b => rw [List.drop_eq_getElem_cons (List.getElem?_eq_some_iff.1 hh).1, List.headD_cons]; simpa using (List.getElem?_eq_some_iff.1 hh).2
    have ht : (m.drop A.length).tail = m.drop (A ++ [x]).length := by rw [List.tail_drop]; simp
    have hR := hL.kids A.length x hx; have hA : L.take A.length = A := by rw [h]; simp
    rw [hA] at hR; have hins : ∀ n ∈ x.ins, n.toNat - 1 < A.length := by
      intro n hn; obtain ⟨e, -, hr⟩ := hR.mem n hn; have := hr.bd; omega
    have hold : ∀ (z : Int) (i : Nat) (y : NX), A[i]? = some y → y.ins.map (toAt (tt ++ [z])) = y.ins.map (toAt tt) := by
      intro z i y hy; refine List.map_congr_left fun n hn => toAt_app _ ?_
      have hi := (List.getElem?_eq_some_iff.1 hy).1; have hLy : L[i]? = some y := by rw [h, List.getElem?_append_left hi]; exact hy
      obtain ⟨e, -, hr⟩ := (hL.kids i y hLy).mem n hn; have := hr.bd; rw [List.length_take] at this; rw [hI.len]; omega
    rw [onlyX, hd, ht]
    by_cases hk : m.getD A.length false = true
    · rw [if_pos hk]
      refine only_inv hL hm r (A ++ [x]) _ _ (by rw [h]; simp) ?_; have hreps : Reps q x.every x.full.kids (x.ins.map (toAt tt)) := by
        have key : ∀ (es : List Ex) (ns : List Int), (∀ n ∈ ns, m.getD (n.toNat - 1) false = true) → Reps A x.every es ns → Reps q x.every es (ns.map (toAt tt)) := by
          intro es
          induction es with
          | nil => intro ns _ hh; cases ns with
            | nil => trivial
            | cons _ _ => exact hh.elim
          | cons e es ih =>
            intro ns hmk hh; cases ns with
            | nil => exact hh.elim
            | cons n ns =>
              refine ⟨?_, ih ns (fun n hn => hmk n (by simp [hn])) hh.2⟩; obtain ⟨i, y, h1, h2, h3, h4⟩ := hh.1; have hmi := hmk n (by simp); rw [show n.toNat - 1 = i by omega] at hmi; obtain ⟨k, k1, k2⟩ := hI.one i y h1 hmi; refine ⟨k, _, k2, ?_, h3, h4⟩; unfold toAt; rw [show n.toNat - 1 = i by omega, List.getD_eq_getElem?_getD, k1]; rfl
        exact key _ _ (hm A.length x hx hk) hR
      refine ⟨by simp [hI.len], ⟨fun i y hy => ?_, fun i j y z hy hz e1 e2 => ?_⟩, fun i y hy hmy => ?_, fun k hkl => ?_⟩
      · by_cases hi : i < q.length
        · rw [List.getElem?_append_left hi] at hy
          rw [List.take_append_of_le_length (Nat.le_of_lt hi)]; exact hI.inv.kids i y hy
        · have hl := (List.getElem?_eq_some_iff.1 hy).1
          simp at hl
          obtain rfl : i = q.length := by omega
          simp at hy
          subst hy; rw [List.take_left]; exact hreps
      · have key : ∀ (i : Nat) (y : NX), (q ++ [⟨x.every, x.full, x.ins.map (toAt tt)⟩])[i]? = some y → (i < q.length ∧ q[i]? = some y) ∨ (i = q.length ∧ y = ⟨x.every, x.full, x.ins.map (toAt tt)⟩) := by
          intro i y hy
          by_cases hh : i < q.length
          · rw [List.getElem?_append_left hh] at hy; exact Or.inl ⟨hh, hy⟩
          · have hl := (List.getElem?_eq_some_iff.1 hy).1
            simp at hl
            obtain rfl : i = q.length := by omega
            simp at hy
            exact Or.inr ⟨rfl, hy.symm⟩
        have far : ∀ (i : Nat) (y : NX), q[i]? = some y → ¬ (y.every = x.every ∧ y.full = x.full) := by
          rintro i y hy ⟨e1, e2⟩; obtain ⟨a, u, a1, a2, a3⟩ := hI.back i (List.getElem?_eq_some_iff.1 hy).1; obtain ⟨k, k1, k2⟩ := hI.one a u a1 a2; rw [a3] at k1; have : k = i := by
            have := Option.some.inj k1; omega
          subst this; rw [hy] at k2; cases k2; have ha := (List.getElem?_eq_some_iff.1 a1).1; have := hL.one a A.length u x (by rw [h, List.getElem?_append_left ha]; exact a1) hx e1 e2; omega
        rcases key i y hy with ⟨a, b⟩ | ⟨a, rfl⟩ <;> rcases key j z hz with ⟨c, d⟩ | ⟨c, rfl⟩
        · exact hI.inv.one i j y z b d e1 e2
        · exact absurd ⟨e1, e2⟩ (far i y b)
        · exact absurd ⟨e1.symm, e2.symm⟩ (far j z d)
        · omega
      · by_cases hi : i < A.length
        · rw [List.getElem?_append_left hi] at hy
          obtain ⟨k, k1, k2⟩ := hI.one i y hy hmy; refine ⟨k, by rw [List.getElem?_append_left (by rw [hI.len]; exact hi)]; exact k1, ?_⟩; rw [List.getElem?_append_left (List.getElem?_eq_some_iff.1 k2).1, k2, hold _ i y hy]
        · have hl := (List.getElem?_eq_some_iff.1 hy).1
          simp at hl
          obtain rfl : i = A.length := by omega
          simp at hy
          subst hy; refine ⟨q.length, by rw [← hI.len]; simp, ?_⟩; have : x.ins.map (toAt (tt ++ [(q.length : Int) + 1])) = x.ins.map (toAt tt) := List.map_congr_left fun n hn => toAt_app _ (by rw [hI.len]; exact hins n hn)
          rw [this]; simp
      · by_cases hi : k < q.length
        · obtain ⟨i, y, a, b, c⟩ := hI.back k hi
          have ha := (List.getElem?_eq_some_iff.1 a).1; exact ⟨i, y, by rw [List.getElem?_append_left ha]; exact a, b, by rw [List.getElem?_append_left (by rw [hI.len]; exact ha)]; exact c⟩
        · rw [List.length_append, List.length_singleton] at hkl
          obtain rfl : k = q.length := by omega
          exact ⟨A.length, x, by simp, hk, by rw [← hI.len]; simp⟩
    · rw [if_neg hk]
      refine only_inv hL hm r (A ++ [x]) _ _ (by rw [h]; simp) ?_; refine ⟨by simp [hI.len], hI.inv, fun i y hy hmy => ?_, fun k hkl => ?_⟩
      · by_cases hi : i < A.length
        · rw [List.getElem?_append_left hi] at hy
          obtain ⟨k, k1, k2⟩ := hI.one i y hy hmy; refine ⟨k, by rw [List.getElem?_append_left (by rw [hI.len]; exact hi)]; exact k1, ?_⟩; rw [k2, hold _ i y hy]
        · have hl := (List.getElem?_eq_some_iff.1 hy).1
          simp at hl
          obtain rfl : i = A.length := by omega
          exact absurd hmy hk
      · obtain ⟨i, y, a, b, c⟩ := hI.back k hkl
        have ha := (List.getElem?_eq_some_iff.1 a).1; exact ⟨i, y, by rw [List.getElem?_append_left ha]; exact a, b, by rw [List.getElem?_append_left (by rw [hI.len]; exact ha)]; exact c⟩
theorem OnlyI.start (m : List Bool) : OnlyI [] m [] [] := ⟨rfl, Inv.nil, fun i x h => by simp at h, fun k h => by simp at h⟩
theorem plan_only {L : List NX} (hL : Inv L) (hv : Valid L) (hn : L.length ≤ 1000) {roots : List Int} (hr : ∀ r ∈ roots, 1 ≤ r ∧ r ≤ (L.length : Int)) :
    ∃ (Q : List NX) (tt : List Int), ndOnly (L.map NX.nd) roots = (Q.map NX.nd, tt, 0) ∧ tt.length = L.length ∧ Inv Q ∧ Valid Q ∧ Q.length ≤ L.length ∧
      (∀ (ev : Int) (e : Ex) (n : Int), n ∈ roots → Rep L ev e n → Rep Q ev e (toAt tt n)) ∧ AllUsed (Q.map NX.nd) (roots.map (toAt tt)) := by
  have hok := plan_ok hL hv
  have hA := hok.ahead
  have hc := ndCheck_ok (p := L.map NX.nd) (by rw [List.length_map]; exact hn) hok
  have hl : (markRoots (L.map NX.nd).length roots (List.replicate (L.map NX.nd).length false)).length = L.length := by rw [markRoots_len, List.length_replicate, List.length_map]
  have hI := only_inv hL (m := usedL (L.map NX.nd) roots) (fun j x hx hm n hn => by
    have hj := (List.getElem?_eq_some_iff.1 hx).1; exact usedF_shut hA _ _ j (by rw [hl, List.length_map]; exact Nat.le_refl _) (by rw [List.length_map]; exact hj) hm n (by rw [insAt_nd hx]; exact hn)) L [] [] [] rfl (OnlyI.start _)
  rw [List.length_nil, List.drop_zero] at hI
  have e1 := only_nd L (usedL (L.map NX.nd) roots) [] []
  rw [List.map_nil] at e1
  have hroot : ∀ r ∈ roots, ∃ i : Nat, r = (i : Int) + 1 ∧ i < L.length ∧ (usedL (L.map NX.nd) roots).getD i false = true := by
    intro r h; have := hr r h; refine ⟨r.toNat - 1, by omega, by omega, ?_⟩; unfold usedL; exact usedF_more _ _ _ (by rw [hl]; omega) ((markRoots_get _ _ _ _ (by rw [List.length_replicate, List.length_map]; omega)).2 (Or.inr ⟨r, h, ⟨by omega, by rw [List.length_map]; omega⟩, rfl⟩))
  refine ⟨(onlyX L (usedL (L.map NX.nd) roots) [] []).1, (onlyX L (usedL (L.map NX.nd) roots) [] []).2, ?_, hI.len, hI.inv, ?_, ?_, ?_, ?_⟩
  · unfold ndOnly
    rw [if_pos hc, if_pos (by rw [List.length_map]; exact hr), e1]
  · intro y hy
    obtain ⟨k, hk, rfl⟩ := List.getElem_of_mem hy; obtain ⟨i, x, a, b, c⟩ := hI.back k hk; obtain ⟨k', k1, k2⟩ := hI.one i x a b; rw [c] at k1; have : k' = k := by have := Option.some.inj k1; omega
    subst this; rw [List.getElem?_eq_getElem hk] at k2; rw [Option.some.inj k2]; exact hv x (List.mem_of_getElem? a)
  · -- each node left comes from one that was there
    have hlen : ∀ (d : Nat) (r : List NX) (m : List Bool) (q : List NX) (tt : List Int), r.length = d → (onlyX r m q tt).1.length ≤ q.length + d := by
      intro d
      induction d with
      | zero => intro r m q tt h; obtain rfl := List.eq_nil_of_length_eq_zero h; simp [onlyX]
      | succ d ih =>
        intro r m q tt h
        match r, h with
        | x :: r, h =>
          rw [onlyX]
          split
          · have := ih r m.tail (q ++ [⟨x.every, x.full, x.ins.map (toAt tt)⟩]) (tt ++ [(q.length : Int) + 1]) (by simpa using h)
            simp at this; omega
          · have := ih r m.tail q (tt ++ [0]) (by simpa using h); omega
    have := hlen L.length L (usedL (L.map NX.nd) roots) [] [] rfl
    simpa using this
  · intro ev e n hn' h
    obtain ⟨i, hi, -, hm⟩ := hroot n hn'; obtain ⟨j, x, a, b, c, d⟩ := h; obtain rfl : j = i := by omega
    obtain ⟨k, k1, k2⟩ := hI.one j x a hm; refine ⟨k, _, k2, ?_, c, d⟩; unfold toAt; rw [show n.toNat - 1 = j by omega, List.getD_eq_getElem?_getD, k1]; rfl
  · intro k hk
    rw [List.length_map] at hk; obtain ⟨i, x, a, b, c⟩ := hI.back k hk; have hi := (List.getElem?_eq_some_iff.1 a).1; rcases usedF_why hA _ _ i (by rw [hl, List.length_map]; exact Nat.le_refl _) (by omega) b with h1 | ⟨j, n, h1, h2, h3, h4⟩
    · rcases (markRoots_get _ _ _ i (by simpa using hi)).1 h1 with h1 | ⟨r, hr', h1, h2⟩
      · simp only [List.getD_eq_getElem?_getD, List.getElem?_replicate] at h1
        split at h1 <;> simp at h1
      · left
        refine List.mem_map.2 ⟨r, hr', ?_⟩; unfold toAt; rw [h2, List.getD_eq_getElem?_getD, c]; rfl
    · have hj : j < L.length := by rw [List.length_map] at h1; exact h1
      obtain ⟨y, hy⟩ : ∃ y, L[j]? = some y := ⟨_, List.getElem?_eq_getElem hj⟩; rw [insAt_nd hy] at h3; obtain ⟨kj, k1, k2⟩ := hI.one j y hy h2; have hto : toAt (onlyX L (usedL (L.map NX.nd) roots) [] []).2 n = (k : Int) + 1 := by
        unfold toAt; rw [h4, List.getD_eq_getElem?_getD, c]; rfl
      have hmem : (k : Int) + 1 ∈ y.ins.map (toAt (onlyX L (usedL (L.map NX.nd) roots) [] []).2) := List.mem_map.2 ⟨n, h3, hto⟩; obtain ⟨e', -, hrep⟩ := (hI.inv.kids kj _ k2).mem _ hmem; have hbd := hrep.bd; rw [List.length_take] at hbd; refine Or.inr ⟨kj, (k : Int) + 1, by omega, by rw [List.length_map]; exact (List.getElem?_eq_some_iff.1 k2).1, ?_, rfl⟩; rw [insAt_nd k2]; exact hmem
end Go.Proofs.YtdjdikiimhhjpaaGreatDoor
namespace Go.Proofs.YtdjdikiimhhjpaaGreatDoor
open Go.RowKit
set_option linter.unusedSimpArgs false
set_option linter.unusedVariables false
def everyAt (p : List Nd) (n : Int) : Int := match p[n.toNat - 1]? with
  | some x => x.every
  | none => 0
def exprAt (p : List Nd) (n : Int) : Ex := exprN p p.length (n.toNat - 1)
noncomputable def ndQuery (p : List Nd) (n : Int) : Int × Ex × Int := open Classical in
  if ndCheck p = 0 then (if 1 ≤ n ∧ n ≤ (p.length : Int) then (if 200 < (exprAt p n).size ∨ 16 < (exprAt p n).deep then (0, noX, 3) else (everyAt p n, exprAt p n, 0)) else (0, noX, 2)) else (0, noX, ndCheck p)
section
variable {p : List Nd}
theorem exprN_fuel (hA : Ahead p) : ∀ (f g i : Nat), i < f → i < g → exprN p f i = exprN p g i := by
  intro f
  induction f with
  | zero => intro g i h; omega
  | succ f ih =>
    intro g i hf hg; cases g with
    | zero => omega
    | succ g =>
      rw [exprN, exprN]; cases hx : p[i]? with
      | none => rfl
      | some x =>
        simp only
        congr 1
        refine List.map_congr_left fun n hn => ih g _ ?_ ?_
        all_goals
          have := hA i n (by unfold insAt; rw [hx]; exact hn); omega
theorem whole_right {p : List Nd} {i : Nat} {x : Nd} (h : OkNd p i x) : (1 ≤ x.every ∧ x.every ≤ 1073741824) ∧ rightB (wholeX 120 x.ex) = true := by
  obtain ⟨a, -, -, d⟩ := check_parts h.whole
  refine ⟨a, ?_⟩
  rw [List.all_eq_true] at d
  exact d _ (flat_self _)
theorem node_right {p : List Nd} {i : Nat} {x : Nd} (h : OkNd p i x) {ks : List Ex} (hk : ks.length = x.ins.length) : rightB (x.ex.withKids ks) = true := by
  rw [← (whole_right h).2]
  refine rightB_len ?_
  rw [List.length_replicate, hk]
  have := h.len
  omega
theorem exprN_right (hp : OkPlan p) : ∀ (f i : Nat) (x : Nd), i < f → p[i]? = some x → ∀ y ∈ (exprN p f i).flat, rightB y = true := by
  intro f
  induction f with
  | zero => intro i x h; omega
  | succ f ih =>
    intro i x hf hx y hy; rw [exprN, hx] at hy; simp only at hy; rcases flat_cases hy with rfl | ⟨k, hk, h⟩
    · exact node_right (hp i x hx) (by simp)
    · obtain ⟨n, hn, rfl⟩ := List.mem_map.1 hk
      obtain ⟨a, b, z, c, -⟩ := (hp i x hx).ins n hn; exact ih _ z (by omega) c y h
theorem expr_check (hp : OkPlan p) {n : Int} (hn : 1 ≤ n ∧ n ≤ (p.length : Int)) (hs : (exprAt p n).size ≤ 200) (hd : (exprAt p n).deep ≤ 16) : checkQuery (everyAt p n) (exprAt p n) = 0 := by
  obtain ⟨x, hx⟩ : ∃ x, p[n.toNat - 1]? = some x := ⟨_, List.getElem?_eq_getElem (by omega)⟩
  refine check_of ?_ hs hd ?_
  · unfold everyAt
    rw [hx]; exact (whole_right (hp _ x hx)).1
  · rw [List.all_eq_true]
    exact exprN_right hp _ _ x (by omega) hx
end
theorem plan_query {L : List NX} (hL : Inv L) (hv : Valid L) (hn : L.length ≤ 1000) {ev : Int} {e : Ex} {n : Int} (h : Rep L ev e n) : ndQuery (L.map NX.nd) n = (ev, e, 0) := by
  have hok := plan_ok hL hv
  have hc := ndCheck_ok (p := L.map NX.nd) (by rw [List.length_map]; exact hn) hok
  have hb := h.bd
  have hval : checkQuery ev e = 0 := by
    obtain ⟨i, x, h1, -, rfl, rfl⟩ := h; exact hv x (List.mem_of_getElem? h1)
  obtain ⟨-, h1, h2, -⟩ := check_parts hval
  obtain ⟨i, x, a, b, c, d⟩ := h
  have hi := (List.getElem?_eq_some_iff.1 a).1
  have e1 : exprAt (L.map NX.nd) n = e := by
    unfold exprAt; rw [show n.toNat - 1 = i by omega, exprN_full hL _ i x (by rw [List.length_map]; exact hi) a, d]
  have e2 : everyAt (L.map NX.nd) n = ev := by
    unfold everyAt; rw [show n.toNat - 1 = i by omega, nd_at, a]; exact c
  unfold ndQuery
  rw [if_pos hc, if_pos ⟨hb.1, by rw [List.length_map]; exact hb.2⟩, e1, e2, if_neg (by omega)]
/-! ### sizes, up to a bound -/
theorem min_sum (C : Nat) : ∀ (l : List Nat) (a : Nat), min C (a + (l.map (min C)).sum) = min C (a + l.sum)
  | [], a => rfl
  | x :: l, a => by
    have h := min_sum C l (a + x); have h2 := min_sum C l (a + min C x); simp only [List.map_cons, List.sum_cons] at h h2 ⊢; have : (l.map (min C)).sum ≤ l.sum := by
      clear h h2
      induction l with
      | nil => simp
      | cons y l ih => simp only [List.map_cons, List.sum_cons]; omega
    by_cases hx : x ≤ C
    · rw [Nat.min_eq_right hx]
      rw [show a + (x + (l.map (min C)).sum) = a + x + (l.map (min C)).sum by omega, h]; congr 1; omega
    · omega
theorem sizes_sum (ks : List Ex) : sizes ks = (ks.map Ex.size).sum := by
  induction ks with
  | nil => rfl
  | cons k ks ih => simp [sizes, ih]
/-! ### what the laws say -/
section
variable {l : List (Int × Ex)}
theorem of_plan (h0 : firstBad l = 0) (hn : (putQs l []).1.length ≤ 1000) : planOf l = ((putQs l []).1.map NX.nd, (putQs l []).2, 0) := by
  unfold planOf; rw [if_pos h0, if_pos hn]
theorem firstBad_app {a b : List (Int × Ex)} (ha : firstBad a = 0) (hb : firstBad b = 0) : firstBad (a ++ b) = 0 :=
  firstBad_of fun q hq => by
    rcases List.mem_append.1 hq with h | h
    · exact firstBad_ok ha q h
    · exact firstBad_ok hb q h
theorem plan_twice (h0 : firstBad l = 0) (hn : (putQs l []).1.length ≤ 1000) : planOf (l ++ l) = ((putQs l []).1.map NX.nd, (putQs l []).2 ++ (putQs l []).2, 0) := by
  have hL := putQs_inv l [] Inv.nil
  have hr := putQs_rep l [] Inv.nil
  have e1 : putQs (l ++ l) [] = ((putQs l []).1, (putQs l []).2 ++ (putQs l []).2) := by rw [putQs_app, putQs_found hL l _ hr]
  unfold planOf
  rw [if_pos (firstBad_app h0 h0), e1, if_pos hn]
theorem plan_check (h0 : firstBad l = 0) (hn : (putQs l []).1.length ≤ 1000) : ndCheck ((putQs l []).1.map NX.nd) = 0 :=
  ndCheck_ok (by rw [List.length_map]; exact hn) (plan_ok (putQs_inv l [] Inv.nil) (putQs_valid (firstBad_ok h0)))
theorem plan_used (h0 : firstBad l = 0) (hn : (putQs l []).1.length ≤ 1000) : (ndUsed ((putQs l []).1.map NX.nd) (putQs l []).2).length = (putQs l []).1.length := by
  rw [used_len (plan_check h0 hn) (feeds_all (putQs_feeds l [] Inv.nil)), List.length_map]
theorem plan_root (h0 : firstBad l = 0) (hn : (putQs l []).1.length ≤ 1000) {i : Nat} {q : Int × Ex} (hq : l[i]? = some q) :
    ∃ n, (putQs l []).2[i]? = some n ∧ Rep (putQs l []).1 q.1 q.2 n ∧ ndQuery ((putQs l []).1.map NX.nd) n = (q.1, q.2, 0) ∧ ndHorizon ((putQs l []).1.map NX.nd) n = q.2.hor := by
  have hL := putQs_inv l [] Inv.nil
  have hv := putQs_valid (firstBad_ok h0)
  obtain ⟨-, h⟩ := (putQs_rep l [] Inv.nil).get
  obtain ⟨n, h1, h2⟩ := h i q hq
  exact ⟨n, h1, h2, plan_query hL hv hn h2, plan_horizon hL hv hn h2⟩
theorem plan_front (h0 : firstBad l = 0) (k : Nat) : firstBad (l.take k) = 0 ∧ (∃ R, (putQs l []).1 = (putQs (l.take k) []).1 ++ R) ∧ (putQs (l.take k) []).2 = (putQs l []).2.take k := by
  refine ⟨firstBad_of fun q hq => firstBad_ok h0 q (List.mem_of_mem_take hq), ?_⟩
  have e1 : putQs l [] = putQs (l.take k ++ l.drop k) [] := by rw [List.take_append_drop]
  rw [e1, putQs_app]
  obtain ⟨R, hR⟩ := putQs_grow (l.drop k) (putQs (l.take k) []).1
  refine ⟨⟨R, hR⟩, ?_⟩
  have h1 := (putQs_rep (l.take k) [] Inv.nil).get.1
  rw [List.length_take] at h1
  by_cases hk : k ≤ l.length
  · rw [List.take_append_of_le_length (by omega), List.take_of_length_le (l := (putQs (List.take k l) []).2) (by omega)]
  · rw [List.drop_eq_nil_of_le (by omega)]
    simp only [putQs, List.append_nil]; rw [List.take_of_length_le (l := (putQs (List.take k l) []).2) (by omega)]
theorem plan_part (h0 : firstBad l = 0) (hn : (putQs l []).1.length ≤ 1000) {q : Int × Ex} {n : Int} (hr : Rep (putQs l []).1 q.1 q.2 n) : planOf (l ++ [q]) = ((putQs l []).1.map NX.nd, (putQs l []).2 ++ [n], 0) := by
  have hL := putQs_inv l [] Inv.nil
  have hv := putQs_valid (firstBad_ok h0)
  have hq : checkQuery q.1 q.2 = 0 := by
    obtain ⟨i, x, h1, -, h3, h4⟩ := hr; rw [← h3, ← h4]; exact hv x (List.mem_of_getElem? h1)
  have e1 : putQs (l ++ [q]) [] = ((putQs l []).1, (putQs l []).2 ++ [n]) := by rw [putQs_app, putQs_found hL [q] [n] ⟨hr, trivial⟩]
  unfold planOf
  rw [if_pos (firstBad_app h0 (firstBad_of (l := [q]) (by simpa using hq))), e1, if_pos hn]
end
end Go.Proofs.YtdjdikiimhhjpaaGreatDoor
