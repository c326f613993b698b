/- Maps from whole numbers to blocks, as lists of pairs that rise. No program here. -/
import Derived.Test.YtfmolimnnheaoaaGreatK0
import Derived.Maps.Views
import Derived.Maps.OwnSet
import Derived.MapViews
import Derived.Lib.SlKeysI
namespace Go.Proofs.YtfmolimnnheaoaaGreat
open Go.RowKit
set_option linter.unusedSimpArgs false
set_option linter.unusedVariables false
open Go.Maps

/-- A pointer, as the number of its block. -/
def ptrE : Value → Option (DataW Unit × List MemPlace)
  | .pointer none => some (.nil, [])
  | .pointer (some ⟨b, 0, none⟩) => some (.lit (.int .i64 b), [])
  | _ => none
theorem ptrE_nil {v : Value} {ps : List MemPlace} (h : ptrE v = some (.nil, ps)) : v = .pointer none := by
  unfold ptrE at h
  split at h <;> simp_all
theorem ptrE_blk {v : Value} {ps : List MemPlace} {b : Nat} (h : ptrE v = some (.lit (.int .i64 b), ps)) : v = .pointer (some ⟨b, 0, none⟩) := by
  unfold ptrE at h
  split at h
  · simp at h
  · simp at h; obtain ⟨h, -⟩ := h; have h' := Int.ofNat_inj.1 h; subst h'; rfl
  · cases h
/-- A map, as its entries. -/
def entE (l : List (Int × Nat)) : List (Lit × DataW Unit) := l.map fun x => (.int .i64 x.1, .lit (.int .i64 x.2))
def mapE (l : List (Int × Nat)) : DataW Unit := .map (entE l)
def RiseK (l : List (Int × Nat)) : Prop := (l.map Prod.fst).Pairwise (· < ·)
theorem before_int {a b : Int} : (Lit.int .i64 a).before (.int .i64 b) = decide (a < b) := by rfl
theorem same_int {a b : Int} : (Lit.int .i64 a).sameKey (.int .i64 b) = decide (a = b) := by
  by_cases h : a = b
  · subst h; simp [Lit.sameKey]
  · simp [Lit.sameKey, h]
theorem atE (l : List (Int × Nat)) (n : Int) : (mapE l).atKey (.int .i64 n) .nil = match l.find? (fun x => x.1 == n) with
    | some x => .lit (.int .i64 x.2)
    | none => .nil := by
  unfold mapE DataW.atKey entE
  induction l with
  | nil => rfl
  | cons x l ih =>
    simp only [List.map_cons, List.find?_cons, same_int]
    by_cases h : x.1 = n
    · simp [h]
    · simp only [h, decide_false, beq_iff_eq]
      rw [show (x.1 == n) = false by simpa using h]
      exact ih
theorem notKey_int (k : Int) (x : Int × Nat) : ChangeMaps.notKey (H := Unit) (.int .i64 k) (.int .i64 x.1, .lit (.int .i64 x.2)) = (x.1 != k) := by
  unfold ChangeMaps.notKey
  rw [same_int]
  by_cases h : x.1 = k <;> simp [h]
theorem delE (l : List (Int × Nat)) (n : Int) : (mapE l).del (.int .i64 n) = mapE (l.filter fun x => x.1 != n) := by
  unfold mapE
  rw [DataW.del_eq]
  unfold ChangeMaps.delKey entE
  congr 1
  rw [List.filter_map]
  congr 1
  refine List.filter_congr fun x _ => ?_
  exact notKey_int n x
theorem insertE_end (k : Int) (b : Nat) : ∀ l : List (Int × Nat), (∀ x ∈ l, x.1 < k) → DataW.insert ((.int .i64 k, .lit (.int .i64 b)) : Lit × DataW Unit) (entE l) = entE (l ++ [(k, b)])
  | [], _ => rfl
  | x :: l, h => by
    have h1 := h x (by simp)
    have h2 := insertE_end k b l (fun y hy => h y (by simp [hy]))
    unfold entE at h2 ⊢
    simp only [List.map_cons, List.cons_append]
    unfold DataW.insert
    simp only [before_int]
    rw [if_neg (by simp; omega), h2]
theorem putE (l : List (Int × Nat)) (k : Int) (b : Nat) (h : ∀ x ∈ l, x.1 < k) : (mapE l).put (.int .i64 k) (.lit (.int .i64 b)) = mapE (l ++ [(k, b)]) := by
  unfold mapE
  rw [DataW.put_eq]
  unfold ChangeMaps.putKey
  have e : (entE l).filter (ChangeMaps.notKey (.int .i64 k)) = entE l := List.filter_eq_self.2 fun y hy => by
    obtain ⟨x, hx, rfl⟩ := List.mem_map.1 hy
    rw [notKey_int]
    have := h x hx
    simp; omega
  rw [e, insertE_end k b l h]
theorem keysE (l : List (Int × Nat)) : intKeys (mapE l) = l.map Prod.fst := by
  unfold mapE entE intKeys
  induction l with
  | nil => rfl
  | cons x l ih =>
    simp only [List.map_cons, List.cons.injEq]
    exact ⟨rfl, ih⟩
theorem sizeE (l : List (Int × Nat)) : Maps.size (mapE l) = l.length := by unfold mapE entE; simp [Maps.size]
/-- A list that rises is its own sorting. -/
theorem rise_sorted {l ss : List Int} (h : l.Pairwise (· < ·)) (hp : ss.Perm l) : ss.mergeSort (fun x y => decide (x ≤ y)) = l := by
  have h1 : (ss.mergeSort (fun x y => decide (x ≤ y))).Perm l := (List.mergeSort_perm ss _).trans hp
  refine h1.eq_of_pairwise (le := fun a b => a ≤ b) (fun a b _ _ h1 h2 => by omega) ?_ (h.imp (fun h => by omega))
  have := List.pairwise_mergeSort (le := fun x y : Int => decide (x ≤ y)) (by intro a b c; simp; omega) (by intro a b; simp; omega) ss
  exact this.imp (fun h => by simpa using h)
end Go.Proofs.YtfmolimnnheaoaaGreat

/- A map of numbers to blocks: a number put in at its place. (For SubsScript.) No program here. -/
namespace Go.Proofs.YtfmolimnnheaoaaGreat
open Go.RowKit
set_option linter.unusedSimpArgs false
set_option linter.unusedVariables false
open Go.Maps

theorem insertE_any (k : Int) (b : Nat) : ∀ l : List (Int × Nat), DataW.insert ((.int .i64 k, .lit (.int .i64 b)) : Lit × DataW Unit) (entE l) = entE (l.take (placeN Prod.fst k l) ++ (k, b) :: l.drop (placeN Prod.fst k l)) ∨ ∃ x ∈ l, x.1 = k
  | [] => .inl rfl
  | x :: l => by
    by_cases hx : x.1 < k
    · have e : placeN Prod.fst k (x :: l) = placeN Prod.fst k l + 1 := by
        unfold placeN
        rw [List.takeWhile_cons, if_pos (by simpa using hx), List.length_cons]
      rcases insertE_any k b l with h | ⟨y, hy, h⟩
      · refine .inl ?_
        rw [e, List.take_succ_cons, List.drop_succ_cons]
        unfold entE at h ⊢
        simp only [List.map_cons, List.cons_append]
        unfold DataW.insert
        simp only [before_int]
        rw [if_neg (by simp; omega), h]
      · exact .inr ⟨y, by simp [hy], h⟩
    · by_cases hk : x.1 = k
      · exact .inr ⟨x, by simp, hk⟩
      · have e : placeN Prod.fst k (x :: l) = 0 := by
          unfold placeN
          rw [List.takeWhile_cons, if_neg (by simpa using hx)]
          rfl
        refine .inl ?_
        rw [e, List.take_zero, List.drop_zero, List.nil_append]
        unfold entE
        simp only [List.map_cons]
        unfold DataW.insert
        simp only [before_int]
        rw [if_pos (by simp; omega)]
theorem putE_any (l : List (Int × Nat)) (k : Int) (b : Nat) (h : ∀ x ∈ l, x.1 ≠ k) : (mapE l).put (.int .i64 k) (.lit (.int .i64 b)) = mapE (l.take (placeN Prod.fst k l) ++ (k, b) :: l.drop (placeN Prod.fst k l)) := by
  unfold mapE
  rw [DataW.put_eq]
  unfold ChangeMaps.putKey
  have e : (entE l).filter (ChangeMaps.notKey (.int .i64 k)) = entE l := List.filter_eq_self.2 fun y hy => by
    obtain ⟨x, hx, rfl⟩ := List.mem_map.1 hy
    rw [notKey_int]
    have := h x hx
    simpa using this
  rw [e]
  rcases insertE_any k b l with h2 | ⟨x, hx, h2⟩
  · rw [h2]
  · exact absurd h2 (h x hx)
end Go.Proofs.YtfmolimnnheaoaaGreat
