/- A board of one query in memory. No walk here. -/
import Derived.Test.YtfmolimnnheaoaaBm2
import Derived.Test.YtfmolimnnheaoaaOb0
import Derived.Test.YtfmolimnnheaoaaProg
namespace Go.Proofs.Ytfmolimnnheaoaa
open Go.RowKit
set_option linter.unusedSimpArgs false
set_option linter.unusedVariables false
open Go.Maps

def boardC (b : Bd) (hq hs : Nat) : List Value := [.int .i64 b.room, .map (some hq), .map (some hs), .int .i64 b.next]
def queryC (b : Bd) (kv : Value) : List Value := [kv, .int .i64 b.last, .int .i64 b.floor]
def subC (s : Sb) : List Value := [.int .i64 s.id, .int .i64 1, .int .i64 s.cursor, .int .i64 s.acked]
def toldC (t : Int) : List Value := [.int .i64 t, .slice none 0 0]
def MapB (W : World) (g n : Nat) (l : List (Int × Nat)) : Prop := W.ownsMap Try.prog 3 ptrE g n (mapE l)
theorem MapB.keep {W W' : World} {g n : Nat} {l : List (Int × Nat)} (h : MapB W g n l) (hb : W'.heap[g]? = W.heap[g]?) : MapB W' g n l := by
  obtain ⟨es, clock, h1, rest⟩ := h
  exact ⟨es, clock, by rw [hb]; exact h1, rest⟩
theorem MapB.lt {W : World} {g n : Nat} {l : List (Int × Nat)} (h : MapB W g n l) : g < W.heap.size := World.ownsMap.lt h
/-- The board: its query's block, if it is open; its subscribers' blocks. -/
structure BrdM (base : Nat) (W : World) (g hq hs : Nat) (nq ns : Nat) (q : Option Nat) (b : Bd) (kv : Value) (bl : List Nat) : Prop where
  blk : Blk W g 59 (boardC b hq hs)
  mq : MapB W hq nq (q.toList.map fun x => (1, x))
  ms : MapB W hs ns ((b.subs.map Sb.id).zip bl)
  len : bl.length = b.subs.length
  qb : ∀ x, q = some x → Blk W x 63 (queryC b kv) ∧ base ≤ x
  kept : W.ownsRow base 36 2 kv b.kept.length (b.kept.map toldC).flatten
  sb : ∀ (i : Nat) (s : Sb) (x : Nat), b.subs[i]? = some s → bl[i]? = some x → Blk W x 70 (subC s)
  nd : bl.Nodup
  ids : (b.subs.map Sb.id).Pairwise (· < ·)
  next : ∀ s ∈ b.subs, 1 ≤ s.id ∧ s.id < b.next
  low : base ≤ g ∧ base ≤ hq ∧ base ≤ hs ∧ hq ≠ hs ∧ ∀ x ∈ bl, base ≤ x
  num : (1 ≤ b.room ∧ b.room ≤ 4096) ∧ (1 ≤ b.next ∧ b.next ≤ 100000) ∧ (0 ≤ b.last ∧ b.last ≤ 1099511627776) ∧ (0 ≤ b.floor ∧ b.floor ≤ 1099511627776) ∧ ns ≤ 100000 ∧ nq ≤ 100000
  subsN : ∀ s ∈ b.subs, (0 ≤ s.cursor ∧ s.cursor ≤ 1099511627776) ∧ (0 ≤ s.acked ∧ s.acked ≤ 1099511627776)
  keptN : b.kept.length ≤ 4096 ∧ ∀ t ∈ b.kept, 1 ≤ t ∧ t ≤ 1099511627776
/-- Is a block one of those of which a board is made? -/
def BTy : Option Obj → Prop
  | some (.cells _ t _) => t = 59 ∨ t = 63 ∨ t = 70 ∨ t = 36
  | some (.map _ _) => True
  | _ => False
/-- What a board's method may change of what was there. -/
def BTyM (base : Nat) (W : World) : Nat → Prop := fun k => base ≤ k ∧ BTy W.heap[k]?
theorem OffB.trans {base : Nat} {a b c : World} (h : OffM (BTyM base a) a b) (k : OffM (BTyM base b) b c) : OffM (BTyM base a) a c :=
  h.trans k (fun i hi hn => by
    by_cases hm : BTyM base a i
    · exact hm
    · have e := h.block i hi hm
      unfold BTyM at hn hm
      rw [e] at hn
      exact absurd hn hm)
theorem BTyM.blk {base g t : Nat} {W : World} {cs : List Value} (h : Blk W g t cs) (ht : t = 59 ∨ t = 63 ∨ t = 70 ∨ t = 36) (hb : base ≤ g) : BTyM base W g := by
  refine ⟨hb, ?_⟩
  have h' : W.heap[g]? = some (.cells cs.toArray t (0, 0)) := h
  rw [h']
  exact ht
theorem BTyM.map {base g n : Nat} {W : World} {l : List (Int × Nat)} (h : MapB W g n l) (hb : base ≤ g) : BTyM base W g := by
  obtain ⟨es, clock, h1, -⟩ := h
  refine ⟨hb, ?_⟩
  rw [h1]
  trivial
section
variable {base : Nat} {W W' : World} {g hq hs nq ns : Nat} {q : Option Nat} {b : Bd} {kv : Value} {bl : List Nat}
/-- Nothing of it turns. -/
theorem BrdM.keep (h : BrdM base W g hq hs nq ns q b kv bl) (hb : Below W.heap.size W W') : BrdM base W' g hq hs nq ns q b kv bl :=
  ⟨h.blk.keep hb, h.mq.keep (hb.block _ h.mq.lt), h.ms.keep (hb.block _ h.ms.lt), h.len, fun x hx => ⟨(h.qb x hx).1.keep hb, (h.qb x hx).2⟩, ownsRow_keep h.kept hb, fun i s x h1 h2 => (h.sb i s x h1 h2).keep hb, h.nd, h.ids, h.next, h.low, h.num, h.subsN, h.keptN⟩
end
end Go.Proofs.Ytfmolimnnheaoaa
