/- ast.Leaves. -/
import Derived.Test.YtdjdikiimhhjpaaDoorK11
import Derived.RegionIn
import Derived.Deep.MidRow
import Derived.Test.YtdjdikiimhhjpaaDoorK9
set_option maxRecDepth 100000
set_option maxHeartbeats 16000000
namespace Go.Proofs.YtdjdikiimhhjpaaDoor
open Go.Shelf
open Go.RowKit
set_option linter.unusedSimpArgs false
set_option linter.unusedVariables false
attribute [local go_sem] Oper.semAt_some
def LvI (n base c : Nat) (l : List Ex) (W : World) : Prop := ∃ v, Boxed W c 36 v ∧ Own n base W v l
theorem LvI.own {n base c B : Nat} (hn : n ≤ B) (hcc : n ≤ c) : OwnFrom B (fun (l : List Ex) W => LvI n base c l W) := fun l W W' row ⟨v, hb, rows, h1, h2, h3⟩ hg hr => by
  have hno : ∀ (k : Nat) (cs : Array Value) (e : TypeId), W.heap[k]? = some (.cells cs e (0, 0)) → some k ≠ row := by
    intro k cs e hk ek; obtain ⟨_, o, ho, hc⟩ := hr k ek.symm; rw [hk] at ho; cases ho; cases hc
  refine ⟨v, hb.kept hg (hno _ _ _ hb), rows, h1.kept hg ?_, h2, fun k r e hr' he => (h3 k r e hr' he).mono ⟨hg.os, hg.tape, hg.output, hg.size, fun k hk => ?_⟩ (Nat.le_refl _)⟩
  · cases ho : v.ownBlock with
    | none => exact .inl rfl
    | some g =>
      obtain ⟨cs, hcs⟩ := ownsRow_cells h1 g ho; exact .inr (hno _ _ _ hcs)
  · exact hg.block k (by have := hb.lt; omega) (fun e => by have := (hr k e.symm).1; omega)
end Go.Proofs.YtdjdikiimhhjpaaDoor
namespace Go.Proofs.YtdjdikiimhhjpaaDoor
open Go.RowKit
set_option linter.unusedSimpArgs false
set_option linter.unusedVariables false
def hor : List Ex → Int
  | [] => 0
  | x :: l => max x.span (hor l)
def horTo (l : List Ex) : Int := l.foldl (fun n x => max n x.span) 0
def Ex.hor (e : Ex) : Int := horTo e.leaves
end Go.Proofs.YtdjdikiimhhjpaaDoor
namespace Go.Proofs.YtdjdikiimhhjpaaDoor
open Go.RowKit
set_option linter.unusedSimpArgs false
set_option linter.unusedVariables false
/-! ### parts of an expression -/
theorem kid_part {e k : Ex} (h : k ∈ e.kids) : ∀ x ∈ k.flat, x ∈ e.flat := by
  intro x hx
  rw [Ex.flat_eq]
  refine List.mem_cons_of_mem _ ?_
  have : ∀ ks : List Ex, k ∈ ks → x ∈ flats ks := by
    intro ks
    induction ks with
    | nil => intro h; simp at h
    | cons c ks ih =>
      intro h; simp only [flats, List.mem_append]; rcases List.mem_cons.1 h with rfl | h
      · exact Or.inl hx
      · exact Or.inr (ih h)
  exact this e.kids h
theorem flat_self (e : Ex) : e ∈ e.flat := by rw [Ex.flat_eq]; simp
theorem in_flats {ks : List Ex} {x : Ex} (h : x ∈ flats ks) : ∃ k ∈ ks, x ∈ k.flat := by
  induction ks with
  | nil => simp [flats] at h
  | cons c ks ih =>
    simp only [flats, List.mem_append] at h; rcases h with h | h
    · exact ⟨c, by simp, h⟩
    · obtain ⟨k, h1, h2⟩ := ih h
      exact ⟨k, by simp [h1], h2⟩
theorem flat_cases {e x : Ex} (h : x ∈ e.flat) : x = e ∨ ∃ k ∈ e.kids, x ∈ k.flat := by
  rw [Ex.flat_eq] at h
  rcases List.mem_cons.1 h with h | h
  · exact Or.inl h
  · exact Or.inr (in_flats h)
theorem flat_trans : ∀ (e x : Ex), x ∈ e.flat → ∀ y ∈ x.flat, y ∈ e.flat := by
  refine Ex.ind fun e ih => ?_
  intro x hx y hy
  rcases flat_cases hx with rfl | ⟨k, hk, h⟩
  · exact hy
  · exact kid_part hk y (ih k hk x h y hy)
theorem deep_kid {k : Ex} : ∀ {ks : List Ex}, k ∈ ks → k.deep ≤ deeps ks
  | c :: ks, h => by
    rcases List.mem_cons.1 h with rfl | h
    · rw [deeps]; omega
    · have := deep_kid h; rw [deeps]; omega
theorem flat_deep : ∀ (e : Ex), ∀ x ∈ e.flat, x.deep ≤ e.deep := by
  refine Ex.ind fun e ih => ?_
  intro x hx
  rcases flat_cases hx with rfl | ⟨k, hk, h⟩
  · exact Nat.le_refl _
  · have h1 := ih k hk x h
    have h2 := deep_kid hk; rw [e.deep_eq]; omega
theorem check_parts {ev : Int} {e : Ex} (h : checkQuery ev e = 0) : (1 ≤ ev ∧ ev ≤ 1073741824) ∧ e.size ≤ 200 ∧ e.deep ≤ 16 ∧ e.flat.all rightB = true := by
  unfold checkQuery at h
  split at h
  · rename_i hev
    refine ⟨hev, ?_⟩; unfold checkExpr at h
    split at h
    · exact absurd h (by decide)
    · rename_i h1
      split at h
      · rename_i h2; exact ⟨by omega, by omega, h2⟩
      · exact absurd h (by decide)
  · exact absurd h (by decide)
theorem check_of {ev : Int} {e : Ex} (h1 : 1 ≤ ev ∧ ev ≤ 1073741824) (h2 : e.size ≤ 200) (h3 : e.deep ≤ 16) (h4 : e.flat.all rightB = true) : checkQuery ev e = 0 := by
  unfold checkQuery
  rw [if_pos h1, checkExpr_ok (by omega) h4]
theorem check_flat {ev : Int} {e : Ex} (h : checkQuery ev e = 0) {x : Ex} (hx : x ∈ e.flat) : checkQuery ev x = 0 := by
  obtain ⟨a, b, c, d⟩ := check_parts h
  refine check_of a (Nat.le_trans (flat_size e x hx) b) (Nat.le_trans (flat_deep e x hx) c) ?_
  rw [List.all_eq_true] at d ⊢
  exact fun y hy => d y (flat_trans e x hx y hy)
theorem firstBad_ok : ∀ {l : List (Int × Ex)}, firstBad l = 0 → ∀ q ∈ l, checkQuery q.1 q.2 = 0
  | [], _, q, h => by simp at h
  | a :: r, h, q, hq => by
    unfold firstBad at h
    split at h
    · rename_i h1
      rcases List.mem_cons.1 hq with rfl | hq
      · exact h1
      · exact firstBad_ok h q hq
    · rename_i h1; exact absurd h h1
def Valid (L : List NX) : Prop := ∀ x ∈ L, checkQuery x.every x.full = 0
theorem putQs_valid {l : List (Int × Ex)} (h : ∀ q ∈ l, checkQuery q.1 q.2 = 0) : Valid (putQs l []).1 := by
  intro x hx
  rcases putQs_new l [] x hx with h1 | ⟨q, h1, h2, h3⟩
  · simp at h1
  · rw [h2]; exact check_flat (h q h1) h3
/-! ### horizons -/
def spanAt (p : List Nd) (i : Int) : Int := match p[i.toNat - 1]? with
  | some x => x.ex.span
  | none => 0
def maxTo (l : List Int) : Int := l.foldl (fun h x => max h x) 0
noncomputable def ndHorizon (p : List Nd) (n : Int) : Int := open Classical in if ndCheck p = 0 ∧ 1 ≤ n ∧ n ≤ (p.length : Int) then maxTo ((numsOf (usedL p [n]) 0).map (spanAt p)) else 0
section
variable {L : List NX}
end
end Go.Proofs.YtdjdikiimhhjpaaDoor
namespace Go.Proofs.YtdjdikiimhhjpaaDoor
open Go.RowKit
set_option linter.unusedSimpArgs false
set_option linter.unusedVariables false
def toAt (tt : List Int) (n : Int) : Int := tt.getD (n.toNat - 1) 0
def onlyF : List Nd → List Bool → List Nd → List Int → List Nd × List Int
  | [], _, q, tt => (q, tt)
  | x :: r, m, q, tt => if m.headD false then onlyF r m.tail (q ++ [⟨x.every, x.ex, x.ins.map (toAt tt)⟩]) (tt ++ [(q.length : Int) + 1]) else onlyF r m.tail q (tt ++ [0])
noncomputable def ndOnly (p : List Nd) (roots : List Int) : List Nd × List Int × Int := open Classical in
  if ndCheck p = 0 then (if ∀ r ∈ roots, 1 ≤ r ∧ r ≤ (p.length : Int) then ((onlyF p (usedL p roots) [] []).1, (onlyF p (usedL p roots) [] []).2, 0) else ([], [], 2)) else ([], [], ndCheck p)
structure OnlyI (A : List NX) (m : List Bool) (q : List NX) (tt : List Int) : Prop where
  len : tt.length = A.length
  inv : Inv q
  one : ∀ (i : Nat) (x : NX), A[i]? = some x → m.getD i false = true → ∃ k : Nat, tt[i]? = some ((k : Int) + 1) ∧ q[k]? = some ⟨x.every, x.full, x.ins.map (toAt tt)⟩
  back : ∀ (k : Nat), k < q.length → ∃ (i : Nat) (x : NX), A[i]? = some x ∧ m.getD i false = true ∧ tt[i]? = some ((k : Int) + 1)
theorem OnlyI.start (m : List Bool) : OnlyI [] m [] [] := ⟨rfl, Inv.nil, fun i x h => by simp at h, fun k h => by simp at h⟩
end Go.Proofs.YtdjdikiimhhjpaaDoor
namespace Go.Proofs.YtdjdikiimhhjpaaDoor
open Go.RowKit
set_option linter.unusedSimpArgs false
set_option linter.unusedVariables false
def everyAt (p : List Nd) (n : Int) : Int := match p[n.toNat - 1]? with
  | some x => x.every
  | none => 0
def exprAt (p : List Nd) (n : Int) : Ex := exprN p p.length (n.toNat - 1)
noncomputable def ndQuery (p : List Nd) (n : Int) : Int × Ex × Int := open Classical in
  if ndCheck p = 0 then (if 1 ≤ n ∧ n ≤ (p.length : Int) then (if 200 < (exprAt p n).size ∨ 16 < (exprAt p n).deep then (0, noX, 3) else (everyAt p n, exprAt p n, 0)) else (0, noX, 2)) else (0, noX, ndCheck p)
section
variable {p : List Nd}
theorem exprN_fuel (hA : Ahead p) : ∀ (f g i : Nat), i < f → i < g → exprN p f i = exprN p g i := by
  intro f
  induction f with
  | zero => intro g i h; omega
  | succ f ih =>
    intro g i hf hg; cases g with
    | zero => omega
    | succ g =>
      rw [exprN, exprN]; cases hx : p[i]? with
      | none => rfl
      | some x =>
        simp only
        congr 1
        refine List.map_congr_left fun n hn => ih g _ ?_ ?_
        all_goals
          have := hA i n (by unfold insAt; rw [hx]; exact hn); omega
theorem whole_right {p : List Nd} {i : Nat} {x : Nd} (h : OkNd p i x) : (1 ≤ x.every ∧ x.every ≤ 1073741824) ∧ rightB (wholeX 120 x.ex) = true := by
  obtain ⟨a, -, -, d⟩ := check_parts h.whole
  refine ⟨a, ?_⟩
  rw [List.all_eq_true] at d
  exact d _ (flat_self _)
theorem node_right {p : List Nd} {i : Nat} {x : Nd} (h : OkNd p i x) {ks : List Ex} (hk : ks.length = x.ins.length) : rightB (x.ex.withKids ks) = true := by
  rw [← (whole_right h).2]
  refine rightB_len ?_
  rw [List.length_replicate, hk]
  have := h.len
  omega
theorem exprN_right (hp : OkPlan p) : ∀ (f i : Nat) (x : Nd), i < f → p[i]? = some x → ∀ y ∈ (exprN p f i).flat, rightB y = true := by
  intro f
  induction f with
  | zero => intro i x h; omega
  | succ f ih =>
    intro i x hf hx y hy; rw [exprN, hx] at hy; simp only at hy; rcases flat_cases hy with rfl | ⟨k, hk, h⟩
    · exact node_right (hp i x hx) (by simp)
    · obtain ⟨n, hn, rfl⟩ := List.mem_map.1 hk
      obtain ⟨a, b, z, c, -⟩ := (hp i x hx).ins n hn; exact ih _ z (by omega) c y h
theorem expr_check (hp : OkPlan p) {n : Int} (hn : 1 ≤ n ∧ n ≤ (p.length : Int)) (hs : (exprAt p n).size ≤ 200) (hd : (exprAt p n).deep ≤ 16) : checkQuery (everyAt p n) (exprAt p n) = 0 := by
  obtain ⟨x, hx⟩ : ∃ x, p[n.toNat - 1]? = some x := ⟨_, List.getElem?_eq_getElem (by omega)⟩
  refine check_of ?_ hs hd ?_
  · unfold everyAt
    rw [hx]; exact (whole_right (hp _ x hx)).1
  · rw [List.all_eq_true]
    exact exprN_right hp _ _ x (by omega) hx
end
/-! ### sizes, up to a bound -/
theorem min_sum (C : Nat) : ∀ (l : List Nat) (a : Nat), min C (a + (l.map (min C)).sum) = min C (a + l.sum)
  | [], a => rfl
  | x :: l, a => by
    have h := min_sum C l (a + x); have h2 := min_sum C l (a + min C x); simp only [List.map_cons, List.sum_cons] at h h2 ⊢; have : (l.map (min C)).sum ≤ l.sum := by
      clear h h2
      induction l with
      | nil => simp
      | cons y l ih => simp only [List.map_cons, List.sum_cons]; omega
    by_cases hx : x ≤ C
    · rw [Nat.min_eq_right hx]
      rw [show a + (x + (l.map (min C)).sum) = a + x + (l.map (min C)).sum by omega, h]; congr 1; omega
    · omega
theorem sizes_sum (ks : List Ex) : sizes ks = (ks.map Ex.size).sum := by
  induction ks with
  | nil => rfl
  | cons k ks ih => simp [sizes, ih]
/-! ### what the laws say -/
section
variable {l : List (Int × Ex)}
theorem of_plan (h0 : firstBad l = 0) (hn : (putQs l []).1.length ≤ 1000) : planOf l = ((putQs l []).1.map NX.nd, (putQs l []).2, 0) := by
  unfold planOf; rw [if_pos h0, if_pos hn]
theorem plan_check (h0 : firstBad l = 0) (hn : (putQs l []).1.length ≤ 1000) : ndCheck ((putQs l []).1.map NX.nd) = 0 :=
  ndCheck_ok (by rw [List.length_map]; exact hn) (plan_ok (putQs_inv l [] Inv.nil) (putQs_valid (firstBad_ok h0)))
end
end Go.Proofs.YtdjdikiimhhjpaaDoor
