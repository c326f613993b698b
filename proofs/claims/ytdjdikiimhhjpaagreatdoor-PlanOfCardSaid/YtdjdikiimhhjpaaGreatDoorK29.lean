/- What the maker's map tells. -/
import Derived.Test.YtdjdikiimhhjpaaGreatDoorK19
import Derived.Test.YtdjdikiimhhjpaaGreatDoorK20
import Derived.Test.YtdjdikiimhhjpaaGreatDoorK28
import Derived.Test.YtdjdikiimhhjpaaGreatDoorK15
import Derived.Test.YtdjdikiimhhjpaaGreatDoorK12
set_option maxRecDepth 100000
set_option maxHeartbeats 16000000
namespace Go.Proofs.YtdjdikiimhhjpaaGreatDoor
open Go.RowKit
set_option linter.unusedSimpArgs false
set_option linter.unusedVariables false
open Go.Maps
theorem exT_inj {a b : Ex} {x y : Int} (ha : checkQuery x a = 0) (hb : checkQuery y b = 0) (h64 : a.num64) (h64' : b.num64) (hx : x = y) (h : exT a = exT b) : a = b := by
  subst hx
  exact (query_inj ha hb h64 h64' (by unfold queryT; rw [h])).2
def idxOf (ev : Int) (e : Ex) (L : List NX) : Int := match findX ev e L 0 with
  | some i => (i : Int) + 1
  | none => 0
theorem findX_snoc (ev : Int) (e : Ex) (y : NX) : ∀ (L : List NX) (i : Nat), findX ev e (L ++ [y]) i = match findX ev e L i with
    | some j => some j
    | none => if y.every == ev && exEq y.full e then some (i + L.length) else none
  | [], i => by simp [findX]
  | x :: L, i => by
    rw [List.cons_append, findX, findX]
    split
    · rfl
    · rw [findX_snoc ev e y L (i + 1)]
      have : i + 1 + L.length = i + (x :: L).length := by simp; omega
      rw [this]
theorem idxOf_snoc (ev : Int) (e : Ex) (L : List NX) (y : NX) : idxOf ev e (L ++ [y]) = if idxOf ev e L = 0 then (if y.every = ev ∧ y.full = e then (L.length : Int) + 1 else 0) else idxOf ev e L := by
  unfold idxOf
  rw [findX_snoc]
  cases hf : findX ev e L 0 with
  | some j => simp only; rw [if_neg (by omega)]
  | none =>
    simp only; rw [if_pos trivial]
    by_cases h : y.every = ev ∧ y.full = e
    · rw [if_pos h]
      have : (y.every == ev && exEq y.full e) = true := by rw [Bool.and_eq_true, beq_iff_eq, exEq_iff]; exact h
      rw [if_pos this]; simp
    · rw [if_neg h]
      have : ¬ (y.every == ev && exEq y.full e) = true := by rw [Bool.and_eq_true, beq_iff_eq, exEq_iff]; exact h
      rw [if_neg this]
theorem addX_idx (ev : Int) (e : Ex) (ins : List Int) (L : List NX) : addX ev e ins L = if idxOf ev e L = 0 then (L ++ [⟨ev, e, ins⟩], (L.length : Int) + 1) else (L, idxOf ev e L) := by
  unfold addX idxOf
  cases findX ev e L 0 with
  | some j => simp only; rw [if_neg (by omega)]
  | none => simp
structure Key64 (ev : Int) (e : Ex) : Prop where
  ok : checkQuery ev e = 0
  num : e.num64
def txt (e : Ex) : ByteArray := ⟨(exT e).toArray⟩
theorem Key64.ev {ev : Int} {e : Ex} (h : Key64 ev e) : i64 ev := by
  have := (check_parts h.ok).1
  constructor <;> omega
theorem Key64.small {ev : Int} {e : Ex} (h : Key64 ev e) : (txt e).size ≤ maxLen := by
  have hc : checkExpr e = 0 := by
    have h1 := h.ok; unfold checkQuery at h1
    split at h1
    · exact h1
    · cases h1
  have := exT_short hc h.num
  show (exT e).toArray.size ≤ maxLen
  rw [List.size_toArray]; unfold maxLen; omega
theorem Key64.inj {ev ev' : Int} {e e' : Ex} (h : Key64 ev e) (h' : Key64 ev' e') (hk : KL ev (txt e) = KL ev' (txt e')) : ev = ev' ∧ e = e' := by
  obtain ⟨h1, h2⟩ := KL_inj h.ev h.small h'.ev h'.small hk
  refine ⟨h1, exT_inj h.ok h'.ok h.num h'.num h1 ?_⟩
  unfold txt at h2
  simpa using h2
structure Tells (D : DataW Unit) (L : List NX) : Prop where
  map : IsMap D
  tell : ∀ ev e, Key64 ev e → D.atKey (KL ev (txt e)) (.lit (.int .i64 0)) = .lit (.int .i64 (idxOf ev e L))
theorem Tells.nil : Tells (.map []) [] := ⟨isMap_empty, fun ev e h => rfl⟩
theorem Tells.put {D : DataW Unit} {L : List NX} (h : Tells D L) {ev : Int} {e : Ex} (hk : Key64 ev e) (h0 : idxOf ev e L = 0) (ins : List Int) : Tells (D.put (KL ev (txt e)) (.lit (.int .i64 ((L.length : Int) + 1)))) (L ++ [⟨ev, e, ins⟩]) := by
  refine ⟨h.map.put _ _, fun ev' e' hk' => ?_⟩
  rw [idxOf_snoc]
  by_cases hq : ev = ev' ∧ e = e'
  · obtain ⟨rfl, rfl⟩ := hq
    rw [atKey_put_same h.map (keyP.key (keyOf_KL ev (txt e) hk.ev hk.small)), if_pos h0, if_pos ⟨rfl, rfl⟩]
  · rw [atKey_put_other (fun he => hq (hk.inj hk' he.symm)), h.tell ev' e' hk', if_neg (c := ev = ev' ∧ e = e') hq]
    split
    · rename_i h1; rw [h1]
    · rfl
def MapP (X : World) (g n : Nat) (D : DataW Unit) : Prop := X.ownsMap Tryz.prog 68 (plainElem (H := Unit) Tryz.prog 3) g n D
theorem MapP.made (X : World) : MapP (X.alloc (.map #[] 0)) X.heap.size 0 (.map []) := World.ownsMap_made _ _ _ _
theorem MapP.keep {X X' : World} {g n : Nat} {D : DataW Unit} (h : MapP X g n D) (hb : X'.heap[g]? = X.heap[g]?) : MapP X' g n D := by
  obtain ⟨es, clock, h1, rest⟩ := h
  exact ⟨es, clock, by rw [hb]; exact h1, rest⟩
theorem MapP.look {X : World} {g n : Nat} {D : DataW Unit} {L : List NX} (h : MapP X g n D) (hT : Tells D L) {ev : Int} {e : Ex} (hk : Key64 ev e) :
    (Instr.lookup 47 (.map (some g)) (.agg #[.int .i64 ev, .string (txt e)]) false).run Tryz.prog X = .ok (.int .i64 (idxOf ev e L)) X := by
  obtain ⟨c, hrun, hat, -⟩ := World.ownsMap.lookup_int h keyP Tryz.underlying47 Tryz.underlying3 (by kernel_rfl) (keyOf_KL ev (txt e) hk.ev hk.small)
  rw [hT.tell ev e hk] at hat
  simp only [DataW.lit.injEq, Lit.int.injEq, true_and] at hat
  rw [hrun, ← hat]
theorem MapP.ins {X : World} {g n : Nat} {D : DataW Unit} {L : List NX} (h : MapP X g n D) (hn : n < 2000) {ev : Int} {e : Ex} (hk : Key64 ev e) (c : Int) (hc : i64 c) :
    ∃ X', (Instr.mapUpdate 47 (.map (some g)) (.agg #[.int .i64 ev, .string (txt e)]) (.int .i64 c)).run Tryz.prog X = .ok () X' ∧ MapP X' g (n + 1) (D.put (KL ev (txt e)) (.lit (.int .i64 c))) ∧ X.grownBy X' (some g) :=
  World.ownsMap.update h keyP Tryz.underlying47 (by unfold maxLen; omega) (keyOf_KL ev (txt e) hk.ev hk.small) (plainElem_int Tryz.underlying3 (by obtain ⟨h1, h2⟩ := hc; simp [Lit.wf, IntKind.min, IntKind.max, IntKind.signed, IntKind.bits]; omega))
end Go.Proofs.YtdjdikiimhhjpaaGreatDoor
namespace Go.Proofs.YtdjdikiimhhjpaaGreatDoor
open Go.RowKit
set_option linter.unusedSimpArgs false
set_option linter.unusedVariables false
open Go.Maps
theorem NdL.less {M M' : Nat → Prop} {base : Nat} {w : World} {v : Value} {l : List Nd} {rows : List (List Value)} (h : NdL M' base w v l rows) (hM : ∀ b, M b → M' b) : NdL M base w v l rows :=
  ⟨h.1, h.2.1, fun k r x hr hx => (h.2.2 k r x hr hx).go (Nat.le_refl _) (fun b _ hS => ⟨fun hm => hS.1 (hM b hm), hS.2⟩) (fun _ _ _ => rfl)⟩
theorem NdL.more {M M' : Nat → Prop} {base n : Nat} {w w' : World} {v : Value} {l : List Nd} {rows : List (List Value)} (h : NdL M base w v l rows) (hb : Below w.heap.size w w') (hM : ∀ b, b < w.heap.size → M' b → M b) : NdL M' base w' v l rows :=
  ⟨ownsRow_keep h.1 hb, h.2.1, fun k r x hr hx => (h.2.2 k r x hr hx).go hb.size (fun b hlt hS => ⟨fun hm => hS.1 (hM b hlt hm), hS.2⟩) (fun b hlt _ => hb.block b hlt)⟩
structure Mk (M : Nat → Prop) (base g h : Nat) (L : List NX) (v : Value) (rows : List (List Value)) (n : Nat) (D : DataW Unit) (W : World) : Prop where
  blk : Blk W g 49 [v, .map (some h), .bool false]
  nds : NdL M base W v (L.map NX.nd) rows
  map : MapP W h n D
  tells : Tells D L
  few : n ≤ L.length
  mg : M g
  mh : M h
  ord : g < base ∧ h < base ∧ g ≠ h
section
variable {M M' : Nat → Prop} {base g h : Nat} {L : List NX} {v : Value} {rows : List (List Value)} {n : Nat} {D : DataW Unit} {W W' : World}
theorem Mk.hlt (k : Mk M base g h L v rows n D W) : h < W.heap.size := World.ownsMap.lt k.map
theorem Mk.row (k : Mk M base g h L v rows n D W) : ∀ b, v.ownBlock = some b → base ≤ b ∧ b < W.heap.size := ownsRow_block k.nds.1
theorem Mk.keep (k : Mk M base g h L v rows n D W) (hb : Below W.heap.size W W') : Mk M base g h L v rows n D W' :=
  ⟨k.blk.keep hb, k.nds.keep hb, k.map.keep (hb.block _ k.hlt), k.tells, k.few, k.mg, k.mh, k.ord⟩
theorem Mk.more (k : Mk M base g h L v rows n D W) (hb : Below W.heap.size W W') (hg : M' g) (hh : M' h) (hM : ∀ b, b < W.heap.size → M' b → M b) : Mk M' base g h L v rows n D W' :=
  ⟨k.blk.keep hb, k.nds.more (n := 0) hb hM, k.map.keep (hb.block _ k.hlt), k.tells, k.few, hg, hh, k.ord⟩
theorem Mk.less (k : Mk M' base g h L v rows n D W) (hg : M g) (hh : M h) (hM : ∀ b, M b → M' b) : Mk M base g h L v rows n D W :=
  ⟨k.blk, k.nds.less hM, k.map, k.tells, k.few, hg, hh, k.ord⟩
theorem Mk.off (k : Mk M base g h L v rows n D W) {N : Nat → Prop} (ho : OffM N W W') (hN : ∀ b, N b → M b) (hg : ¬ N g) (hh : ¬ N h) (hv : ∀ b, v.ownBlock = some b → ¬ N b) : Mk M base g h L v rows n D W' :=
  ⟨(ho.block _ k.blk.lt hg).trans k.blk, k.nds.off ho (fun b _ h => hN b h) hv, k.map.keep (ho.block _ k.hlt hh), k.tells, k.few, k.mg, k.mh, k.ord⟩
theorem Mk.app (k : Mk M base g h L v rows n D W) {ev : Int} {e : Ex} {ins : List Int} {r : List Value} {v' : Value} (hx : NdS (SX M v) W (NX.nd ⟨ev, e, ins⟩) r) (hown : W'.ownsRow base 39 11 v' (L.length + 1) (rows.flatten ++ r)) (hg : W.grownBy W' v.ownBlock)
    (hat : v'.ownBlock = v.ownBlock ∨ v'.ownBlock = some W.heap.size) : NdL M base W' v' ((L ++ [NX.mk ev e ins]).map NX.nd) (rows ++ [r]) ∧ Blk W' g 49 [v, .map (some h), .bool false] ∧ MapP W' h n D := by
  have hr := k.row
  have ho := k.ord
  refine ⟨by rw [List.map_append]; exact k.nds.app hx (by rw [List.length_map]; exact hown) hg hat, (hg.block _ k.blk.lt (fun e => by have := (hr _ e.symm).1; omega)).trans k.blk, k.map.keep (hg.block _ k.hlt (fun e => by have := (hr _ e.symm).1; omega))⟩
end
end Go.Proofs.YtdjdikiimhhjpaaGreatDoor
