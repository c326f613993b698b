/- plan.sizes: the plain part. -/
import Derived.Test.YtdjdikiimhhjpaaGreatDoorK14
import Derived.Test.YtdjdikiimhhjpaaGreatDoorK15
import Derived.Test.YtdjdikiimhhjpaaGreatDoorK11
set_option maxRecDepth 100000
set_option maxHeartbeats 16000000
namespace Go.Proofs.YtdjdikiimhhjpaaGreatDoor
open Go.RowKit
set_option linter.unusedSimpArgs false
set_option linter.unusedVariables false
def intCs (l : List Int) : List Value := l.map fun i => Value.int .i64 i
theorem mk_ints (w : World) (L : Nat) (c : Int) (hc : c = (L : Int)) (hL : L ≤ 1000) :
    (Instr.makeSlice 26 (.int .i64 c) (.int .i64 c)).run Tryz.prog w = .ok (.slice (some ⟨w.heap.size, 0, none⟩) L L) (w.alloc (.cells (intCs (List.replicate L 0)).toArray 3)) := by
  subst hc
  obtain ⟨i0, hi, hz0, hz1, hz2⟩ := info_parts infoI64
  have h := run_make (P := Tryz.prog) w 26 3 i0 (.int .i64 0) Tryz.underlying26 hi hz0 .i64 .i64 (L : Int) (L : Int) (by omega) (Int.le_refl _) (by rw [hz2]; omega) (by omega)
  rw [h, Int.toNat_natCast, hz1, Nat.mul_one]
  congr 3
  apply Array.ext
  · simp [madeCells, intCs]
  · intro k h1 h2
    simp [madeCells, intCs, Value.cells] at h1 ⊢
    simp [Nat.mod_one]
theorem exprAt_node {p : List Nd} (hA : Ahead p) {k : Nat} (h : k < p.length) : exprAt p ((k : Int) + 1) = p[k].ex.withKids (p[k].ins.map (exprAt p)) := by
  unfold exprAt
  rw [show ((k : Int) + 1).toNat - 1 = k by omega]
  obtain ⟨f, hf⟩ : ∃ f, p.length = f + 1 := ⟨p.length - 1, by omega⟩
  rw [hf, exprN, List.getElem?_eq_getElem h]
  simp only
  congr 1
  refine List.map_congr_left fun n hn => ?_
  have := hA k n (by unfold insAt; rw [List.getElem?_eq_getElem h]; exact hn)
  exact exprN_fuel hA _ _ _ (by omega) (by omega)
def sumTo (p : List Nd) (l : List Int) : Nat := (l.map fun n => min 201 (exprAt p n).size).sum
def depTo (p : List Nd) (l : List Int) : Nat := deeps (l.map (exprAt p))
theorem sumTo_step {p : List Nd} {l : List Int} {i : Nat} (h : i < l.length) : sumTo p (l.take (i + 1)) = sumTo p (l.take i) + min 201 (exprAt p l[i]).size := by
  rw [List.take_succ_eq_append_getElem h]; unfold sumTo; rw [List.map_append, List.sum_append]; simp [List.sum_cons]
theorem depTo_step {p : List Nd} {l : List Int} {i : Nat} (h : i < l.length) : depTo p (l.take (i + 1)) = max (depTo p (l.take i)) (exprAt p l[i]).deep := by
  rw [List.take_succ_eq_append_getElem h]; unfold depTo; rw [List.map_append, deeps_append]; simp [deeps]
theorem sumTo_bd (p : List Nd) : ∀ (l : List Int), sumTo p l ≤ 201 * l.length
  | [] => by simp [sumTo]
  | a :: l => by have := sumTo_bd p l; unfold sumTo at this ⊢; simp only [List.map_cons, List.sum_cons, List.length_cons]; omega
def szA (p : List Nd) (k : Nat) : Nat := min 201 (exprAt p ((k : Int) + 1)).size
def dpA (p : List Nd) (k : Nat) : Nat := (exprAt p ((k : Int) + 1)).deep
theorem szA_eq {p : List Nd} (hA : Ahead p) {k : Nat} (h : k < p.length) : szA p k = min (sumTo p p[k].ins + 1) 201 := by
  unfold szA
  rw [exprAt_node hA h, Ex.size_eq]
  have h1 : (p[k].ex.withKids (p[k].ins.map (exprAt p))).kids = p[k].ins.map (exprAt p) := rfl
  rw [h1, sizes_sum, List.map_map]
  have h2 := min_sum 201 (p[k].ins.map (Ex.size ∘ exprAt p)) 1
  rw [List.map_map] at h2
  have h3 : sumTo p p[k].ins = (p[k].ins.map (min 201 ∘ Ex.size ∘ exprAt p)).sum := rfl
  rw [h3]
  omega
theorem dpA_eq {p : List Nd} (hA : Ahead p) {k : Nat} (h : k < p.length) : dpA p k = depTo p p[k].ins + 1 := by
  unfold dpA
  rw [exprAt_node hA h, Ex.deep_eq]; rfl
theorem exprN_deep {p : List Nd} (hA : Ahead p) : ∀ (f i : Nat), (exprN p f i).deep ≤ f + 1
  | 0, i => by simp [exprN, noX, Ex.deep, deeps]
  | f + 1, i => by
    rw [exprN]
    split
    · rename_i x _
      have hd : ∀ l : List Int, deeps (l.map fun n => exprN p f (n.toNat - 1)) ≤ f + 1 := by
        intro l
        induction l with
        | nil => simp [deeps]
        | cons a l ih => have := exprN_deep hA f (a.toNat - 1); simp only [List.map_cons, deeps]; omega
      have := hd x.ins; rw [Ex.deep_eq]
      show deeps (x.ins.map _) + 1 ≤ _
      omega
    · simp [noX, Ex.deep, deeps]
theorem exprAt_deep {p : List Nd} (hA : Ahead p) (n : Int) : (exprAt p n).deep ≤ p.length + 1 := exprN_deep hA _ _
theorem depTo_bd {p : List Nd} (hA : Ahead p) : ∀ (l : List Int), depTo p l ≤ p.length + 1
  | [] => by simp [depTo, deeps]
  | a :: l => by have := depTo_bd hA l; have h2 := exprAt_deep hA a; unfold depTo at this ⊢; simp only [List.map_cons, deeps]; omega
structure Known (L k : Nat) (f : Nat → Nat) (l : List Int) : Prop where
  len : l.length = L
  done : ∀ i, i < k → l[i]? = some (f i : Int)
  rest : ∀ i, k ≤ i → i < L → l[i]? = some 0
theorem Known.zero (L : Nat) (f : Nat → Nat) : Known L 0 f (List.replicate L 0) := ⟨by simp, fun i h => by omega, fun i _ h => by rw [List.getElem?_replicate, if_pos h]⟩
theorem Known.next {L k : Nat} {f : Nat → Nat} {l : List Int} (h : Known L k f l) (hk : k < L) : Known L (k + 1) f (l.set k (f k : Int)) := by
  refine ⟨by rw [List.length_set, h.len], fun i hi => ?_, fun i h1 h2 => ?_⟩
  · rw [List.getElem?_set]
    by_cases e : k = i
    · subst e; rw [if_pos rfl, if_pos (by rw [h.len]; exact hk)]
    · rw [if_neg e]; exact h.done i (by omega)
  · rw [List.getElem?_set, if_neg (by omega)]; exact h.rest i (by omega) h2
theorem Known.same {L k : Nat} {f : Nat → Nat} {l : List Int} (h : Known L k f l) (hk : k < L) : l.set k 0 = l := by
  apply List.ext_getElem?
  intro i
  rw [List.getElem?_set]
  by_cases e : k = i
  · subst e; rw [if_pos rfl, if_pos (by rw [h.len]; exact hk)]; exact (h.rest k (Nat.le_refl _) hk).symm
  · rw [if_neg e]
theorem intCs_at {l : List Int} {i : Nat} {x : Int} (h : l[i]? = some x) : (intCs l)[i]? = some (.int .i64 x) := by unfold intCs; rw [List.getElem?_map, h]; rfl
theorem intCs_set (l : List Int) (i : Nat) (x : Int) : (intCs l).set i (.int .i64 x) = intCs (l.set i x) := by unfold intCs; rw [List.map_set]
theorem set_at {l : List Int} {k L : Nat} (h : l.length = L) (hk : k < L) (x : Int) : (l.set k x)[k]? = some x := by rw [List.getElem?_set, if_pos rfl, if_pos (by omega)]
theorem set_off {l : List Int} {k j : Nat} (h : k ≠ j) (x : Int) : (l.set k x)[j]? = l[j]? := by rw [List.getElem?_set, if_neg h]
end Go.Proofs.YtdjdikiimhhjpaaGreatDoor
namespace Go.Proofs.YtdjdikiimhhjpaaGreatDoor
open Go.RowKit
set_option linter.unusedSimpArgs false
set_option linter.unusedVariables false
def W4 (w : World) (xa xb xc xd : List Value) (ta tb tc td : TypeId) : World := ((((w.alloc (.cells xa.toArray ta)).alloc (.cells xb.toArray tb)).alloc (.cells xc.toArray tc)).alloc (.cells xd.toArray td)).drew
section
variable (w : World) (xa xb xc xd : List Value) (ta tb tc td : TypeId)
theorem four0 : Blk (W4 w xa xb xc xd ta tb tc td) w.heap.size ta xa := ((((Blk.new w xa ta).alloc _).alloc _).alloc _).drew
theorem four1 : Blk (W4 w xa xb xc xd ta tb tc td) (w.heap.size + 1) tb xb := by
  have := (((Blk.new (w.alloc (.cells xa.toArray ta)) xb tb).alloc (.cells xc.toArray tc)).alloc (.cells xd.toArray td)).drew
  rw [World.size_alloc] at this; exact this
theorem four2 : Blk (W4 w xa xb xc xd ta tb tc td) (w.heap.size + 1 + 1) tc xc := by
  have := ((Blk.new ((w.alloc (.cells xa.toArray ta)).alloc (.cells xb.toArray tb)) xc tc).alloc (.cells xd.toArray td)).drew
  rw [World.size_alloc, World.size_alloc] at this; exact this
theorem four3 : Blk (W4 w xa xb xc xd ta tb tc td) (w.heap.size + 1 + 1 + 1) td xd := by
  have := (Blk.new (((w.alloc (.cells xa.toArray ta)).alloc (.cells xb.toArray tb)).alloc (.cells xc.toArray tc)) xd td).drew
  rw [World.size_alloc, World.size_alloc, World.size_alloc] at this; exact this
theorem fourB : Below w.heap.size w (W4 w xa xb xc xd ta tb tc td) := (((((Below.refl _ _).alloc (Nat.le_refl _) _).alloc (by simp) _).alloc (by simp; omega) _).alloc (by simp; omega) _).drew
end
end Go.Proofs.YtdjdikiimhhjpaaGreatDoor
namespace Go.Proofs.YtdjdikiimhhjpaaGreatDoor
open Go.RowKit
set_option linter.unusedSimpArgs false
set_option linter.unusedVariables false
def outB (L : Nat) (r : Int) : Bool := decide (r < 1 ∨ (L : Int) < r)
end Go.Proofs.YtdjdikiimhhjpaaGreatDoor
namespace Go.Proofs.YtdjdikiimhhjpaaGreatDoor
open Go.RowKit
set_option linter.unusedSimpArgs false
set_option linter.unusedVariables false
theorem numsOf_in : ∀ (l : List Bool) (i : Int), ∀ x ∈ numsOf l i, i < x ∧ x ≤ i + l.length
  | [], i, x, h => by simp [numsOf] at h
  | a :: l, i, x, h => by
    rw [numsOf] at h; have := numsOf_in l (i + 1) x; simp only [List.length_cons]
    split at h
    · rcases List.mem_cons.1 h with rfl | h
      · omega
      · have := this h; omega
    · have := this h; omega
theorem maxTo_step {l : List Int} {k : Nat} (h : k < l.length) : maxTo (l.take (k + 1)) = max (maxTo (l.take k)) l[k] := by
  rw [List.take_succ_eq_append_getElem h]; unfold maxTo; rw [List.foldl_append]; rfl
theorem ndHorizon_bad {p : List Nd} {t : Int} (h : ¬ (ndCheck p = 0 ∧ 1 ≤ t ∧ t ≤ (p.length : Int))) : ndHorizon p t = 0 := by unfold ndHorizon; rw [if_neg h]
theorem ndHorizon_ok {p : List Nd} {t : Int} (h : ndCheck p = 0 ∧ 1 ≤ t ∧ t ≤ (p.length : Int)) : ndHorizon p t = maxTo ((ndUsed p [t]).map (spanAt p)) := by unfold ndHorizon; rw [if_pos h, ndUsed_ok h.1]
theorem ints_blk {w : World} {g : Nat} {l : List Int} (h : Blk w g 3 (l.map fun i => Value.int .i64 i)) (hl : l.length ≤ maxLen) : IsInts w.heap.size w (.slice (some ⟨g, 0, none⟩) l.length l.length) l := by
  refine ⟨_, l.length, by rw [List.length_map], by simp, hl, fun _ => ⟨g, 0, rfl, h.lt, fun k r hr j x hx => ?_⟩⟩
  rw [List.getElem?_map] at hr
  obtain ⟨a, ha, rfl⟩ := Option.map_eq_some_iff.1 hr
  have hj : j = 0 := by have := (List.getElem?_eq_some_iff.1 hx).1; simpa using this
  subst hj
  simp only [List.getElem?_cons_zero, Option.some.injEq] at hx
  subst hx
  have := h.cell k (.int .i64 a) (by rw [List.getElem?_map, ha]; rfl)
  rw [show 0 + k * 1 + 0 = k by omega]; exact this
theorem spanAt_of {p : List Nd} {k : Nat} (h : k < p.length) : spanAt p ((k : Int) + 1) = p[k].ex.span := by
  unfold spanAt
  rw [show ((k : Int) + 1).toNat - 1 = k by omega, List.getElem?_eq_getElem h]
end Go.Proofs.YtdjdikiimhhjpaaGreatDoor
