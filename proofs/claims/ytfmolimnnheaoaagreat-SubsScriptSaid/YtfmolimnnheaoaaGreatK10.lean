/- A board of one query in memory. No walk here. -/
import Derived.Test.YtfmolimnnheaoaaGreatK9
import Derived.Test.YtfmolimnnheaoaaGreatK6
import Derived.Test.YtfmolimnnheaoaaGreatProg
import Derived.WalkSpells
namespace Go.Proofs.YtfmolimnnheaoaaGreat
open Go.RowKit
set_option linter.unusedSimpArgs false
set_option linter.unusedVariables false
open Go.Maps

def boardC (b : Bd) (hq hs : Nat) : List Value := [.int .i64 b.room, .map (some hq), .map (some hs), .int .i64 b.next]
def queryC (b : Bd) (kv : Value) : List Value := [kv, .int .i64 b.last, .int .i64 b.floor]
def subC (s : Sb) : List Value := [.int .i64 s.id, .int .i64 1, .int .i64 s.cursor, .int .i64 s.acked]
def toldC (t : Int) : List Value := [.int .i64 t, .slice none 0 0]
def MapB (W : World) (g n : Nat) (l : List (Int × Nat)) : Prop := W.ownsMap Tryz.prog 3 ptrE g n (mapE l)
theorem MapB.keep {W W' : World} {g n : Nat} {l : List (Int × Nat)} (h : MapB W g n l) (hb : W'.heap[g]? = W.heap[g]?) : MapB W' g n l := by
  obtain ⟨es, clock, h1, rest⟩ := h
  exact ⟨es, clock, by rw [hb]; exact h1, rest⟩
theorem MapB.lt {W : World} {g n : Nat} {l : List (Int × Nat)} (h : MapB W g n l) : g < W.heap.size := World.ownsMap.lt h
/-- The board: its query's block, if it is open; its subscribers' blocks. -/
structure BrdM (base : Nat) (W : World) (g hq hs : Nat) (nq ns : Nat) (q : Option Nat) (b : Bd) (kv : Value) (bl : List Nat) : Prop where
  blk : Blk W g 55 (boardC b hq hs)
  mq : MapB W hq nq (q.toList.map fun x => (1, x))
  ms : MapB W hs ns ((b.subs.map Sb.id).zip bl)
  len : bl.length = b.subs.length
  qb : ∀ x, q = some x → Blk W x 64 (queryC b kv) ∧ base ≤ x
  kept : W.ownsRow base 34 2 kv b.kept.length (b.kept.map toldC).flatten
  sb : ∀ (i : Nat) (s : Sb) (x : Nat), b.subs[i]? = some s → bl[i]? = some x → Blk W x 73 (subC s)
  nd : bl.Nodup
  ids : (b.subs.map Sb.id).Pairwise (· < ·)
  next : ∀ s ∈ b.subs, 1 ≤ s.id ∧ s.id < b.next
  low : base ≤ g ∧ base ≤ hq ∧ base ≤ hs ∧ hq ≠ hs ∧ ∀ x ∈ bl, base ≤ x
  num : (1 ≤ b.room ∧ b.room ≤ 4096) ∧ (1 ≤ b.next ∧ b.next ≤ 100000) ∧ (0 ≤ b.last ∧ b.last ≤ 1099511627776) ∧ (0 ≤ b.floor ∧ b.floor ≤ 1099511627776) ∧ ns ≤ 100000 ∧ nq ≤ 100000
  subsN : ∀ s ∈ b.subs, (0 ≤ s.cursor ∧ s.cursor ≤ 1099511627776) ∧ (0 ≤ s.acked ∧ s.acked ≤ 1099511627776)
  keptN : b.kept.length ≤ 4096 ∧ ∀ t ∈ b.kept, 1 ≤ t ∧ t ≤ 1099511627776
/-- Is a block one of those of which a board is made? -/
def BTy : Option Obj → Prop
  | some (.cells _ t _) => t = 55 ∨ t = 64 ∨ t = 73 ∨ t = 34
  | some (.map _ _) => True
  | _ => False
/-- What a board's method may change of what was there. -/
def BTyM (base : Nat) (W : World) : Nat → Prop := fun k => base ≤ k ∧ BTy W.heap[k]?
theorem OffB.trans {base : Nat} {a b c : World} (h : OffM (BTyM base a) a b) (k : OffM (BTyM base b) b c) : OffM (BTyM base a) a c :=
  h.trans k (fun i hi hn => by
    by_cases hm : BTyM base a i
    · exact hm
    · have e := h.block i hi hm
      unfold BTyM at hn hm
      rw [e] at hn
      exact absurd hn hm)
theorem BTyM.blk {base g t : Nat} {W : World} {cs : List Value} (h : Blk W g t cs) (ht : t = 55 ∨ t = 64 ∨ t = 73 ∨ t = 34) (hb : base ≤ g) : BTyM base W g := by
  refine ⟨hb, ?_⟩
  have h' : W.heap[g]? = some (.cells cs.toArray t (0, 0)) := h
  rw [h']
  exact ht
theorem BTyM.map {base g n : Nat} {W : World} {l : List (Int × Nat)} (h : MapB W g n l) (hb : base ≤ g) : BTyM base W g := by
  obtain ⟨es, clock, h1, -⟩ := h
  refine ⟨hb, ?_⟩
  rw [h1]
  trivial
section
variable {base : Nat} {W W' : World} {g hq hs nq ns : Nat} {q : Option Nat} {b : Bd} {kv : Value} {bl : List Nat}
/-- Nothing of it turns. -/
theorem BrdM.keep (h : BrdM base W g hq hs nq ns q b kv bl) (hb : Below W.heap.size W W') : BrdM base W' g hq hs nq ns q b kv bl :=
  ⟨h.blk.keep hb, h.mq.keep (hb.block _ h.mq.lt), h.ms.keep (hb.block _ h.ms.lt), h.len, fun x hx => ⟨(h.qb x hx).1.keep hb, (h.qb x hx).2⟩, ownsRow_keep h.kept hb, fun i s x h1 h2 => (h.sb i s x h1 h2).keep hb, h.nd, h.ids, h.next, h.low, h.num, h.subsN, h.keptN⟩
end
end Go.Proofs.YtfmolimnnheaoaaGreat

/- The board's maps: what is looked up, put, taken out; made, time. -/
namespace Go.Proofs.YtfmolimnnheaoaaGreat
open Go.RowKit
set_option linter.unusedSimpArgs false
set_option linter.unusedVariables false
open Go.Maps

def ptrV : Option Nat → Value
  | some b => .pointer (some ⟨b, 0, none⟩)
  | none => .pointer none
def lookE (l : List (Int × Nat)) (n : Int) : Option Nat := (l.find? (fun x => x.1 == n)).map Prod.snd
theorem keyI {n : Int} (h : i64 n) : keyOf Tryz.prog 3 (.int .i64 n) = some (.int .i64 n) := by
  obtain ⟨h1, h2⟩ := h
  have hk := Tryz.underlying3
  simp [keyOf, hk, mapKey, Lit.wf, IntKind.min, IntKind.max, IntKind.signed, IntKind.bits]
  try omega
theorem ptrE_look {l : List (Int × Nat)} {n : Int} {v : Value} {ps : List MemPlace} (h : ptrE v = some ((mapE l).atKey (.int .i64 n) .nil, ps)) : v = ptrV (lookE l n) := by
  rw [atE] at h
  unfold lookE
  cases hf : l.find? (fun x => x.1 == n) with
  | none => rw [hf] at h; exact ptrE_nil h
  | some x => rw [hf] at h; exact ptrE_blk h
theorem MapB.look {t e : Nat} (ht : Tryz.prog.underlying t = some (.map 3 e)) {W : World} (hz : (zeroValue e).run Tryz.prog W = .ok (.pointer none) W) {g m : Nat} {l : List (Int × Nat)} (h : MapB W g m l) {n : Int} (hn : i64 n) :
    (Instr.lookup t (.map (some g)) (.int .i64 n) false).run Tryz.prog W = .ok (ptrV (lookE l n)) W := by
  obtain ⟨v, ps, hrun, hR⟩ := World.ownsMap.lookup h (int_keyed Tryz.underlying3) ht hz (zd := .nil) (zp := []) rfl (keyI hn)
  rw [hrun, ptrE_look hR]
theorem MapB.lookS {W : World} {g m : Nat} {l : List (Int × Nat)} (h : MapB W g m l) {n : Int} (hn : i64 n) :
    (Instr.lookup 53 (.map (some g)) (.int .i64 n) false).run Tryz.prog W = .ok (ptrV (lookE l n)) W := h.look Tryz.underlying53 (Tryz.zeroValue71 W) hn
theorem MapB.lookQ {W : World} {g m : Nat} {l : List (Int × Nat)} (h : MapB W g m l) {n : Int} (hn : i64 n) :
    (Instr.lookup 52 (.map (some g)) (.int .i64 n) false).run Tryz.prog W = .ok (ptrV (lookE l n)) W := h.look Tryz.underlying52 (Tryz.zeroValue62 W) hn
theorem MapB.ins {t e : Nat} (ht : Tryz.prog.underlying t = some (.map 3 e)) {W : World} {g m : Nat} {l : List (Int × Nat)} (h : MapB W g m l) (hm : m ≤ 200000) {n : Int} (hn : i64 n) (hl : ∀ x ∈ l, x.1 < n) (b : Nat) :
    ∃ W', (Instr.mapUpdate t (.map (some g)) (.int .i64 n) (.pointer (some ⟨b, 0, none⟩))).run Tryz.prog W = .ok () W' ∧ MapB W' g (m + 1) (l ++ [(n, b)]) ∧ W.grownBy W' (some g) := by
  obtain ⟨W', hrun, ho, hg⟩ := World.ownsMap.update h (int_keyed Tryz.underlying3) ht (by unfold maxLen; omega) (keyI hn) (val := .pointer (some ⟨b, 0, none⟩)) (d := .lit (.int .i64 b)) (ps := []) rfl
  exact ⟨W', hrun, by unfold MapB; rw [← putE l n b hl]; exact ho, hg⟩
theorem MapB.insS {W : World} {g m : Nat} {l : List (Int × Nat)} (h : MapB W g m l) (hm : m ≤ 200000) {n : Int} (hn : i64 n) (hl : ∀ x ∈ l, x.1 < n) (b : Nat) :
    ∃ W', (Instr.mapUpdate 53 (.map (some g)) (.int .i64 n) (.pointer (some ⟨b, 0, none⟩))).run Tryz.prog W = .ok () W' ∧ MapB W' g (m + 1) (l ++ [(n, b)]) ∧ W.grownBy W' (some g) := h.ins Tryz.underlying53 hm hn hl b
theorem MapB.insQ {W : World} {g m : Nat} {l : List (Int × Nat)} (h : MapB W g m l) (hm : m ≤ 200000) {n : Int} (hn : i64 n) (hl : ∀ x ∈ l, x.1 < n) (b : Nat) :
    ∃ W', (Instr.mapUpdate 52 (.map (some g)) (.int .i64 n) (.pointer (some ⟨b, 0, none⟩))).run Tryz.prog W = .ok () W' ∧ MapB W' g (m + 1) (l ++ [(n, b)]) ∧ W.grownBy W' (some g) := h.ins Tryz.underlying52 hm hn hl b
theorem MapB.dropS {W : World} {g m : Nat} {l : List (Int × Nat)} (h : MapB W g m l) {n : Int} (hn : i64 n) (ty : Nat) :
    ∃ W', (Builtin.delete_ #[53, 3] ty #[.map (some g), .int .i64 n]).run Tryz.prog W = .ok (.tuple #[]) W' ∧ MapB W' g m (l.filter fun x => x.1 != n) ∧ W.grownBy W' (some g) := by
  obtain ⟨W', hrun, ho, hg⟩ := World.ownsMap.drop h (int_keyed Tryz.underlying3) Tryz.underlying53 (keyI hn) ty
  exact ⟨W', hrun, by unfold MapB; rw [← delE]; exact ho, hg.grown⟩
theorem MapB.lenS {W : World} {g m : Nat} {l : List (Int × Nat)} (h : MapB W g m l) (ty : Nat) : (Builtin.len_ #[53] ty #[.map (some g)]).run Tryz.prog W = .ok (.int .i64 l.length) W := by
  have := World.ownsMap.len h Tryz.underlying53 ty
  rw [sizeE] at this
  exact this

/-! ### made, time -/
theorem bTime (n : Int) (W : World) : Calls Tryz.prog 33 #[.int .i64 n] W fun e w' => e = .returned (.bool (decide (0 ≤ n ∧ n ≤ 1099511627776))) ∧ w' = W := by
  by_cases h0 : 0 ≤ n <;> by_cases h1 : n ≤ 1099511627776 <;> (simp only [h0, h1, and_self, and_true, true_and, false_and, and_false, decide_true, decide_false])
  all_goals
    go_enter Tryz.func33, Tryz.ntmps33; (try simp only [List.append_eq, List.cons_append, List.nil_append])
    go_wp2
    all_goals
      go_ret
      first | exact ⟨rfl, rfl⟩ | exact ⟨by simp [h0, h1], rfl⟩ | (exfalso; omega)
theorem bMade0 (W : World) : Calls Tryz.prog 32 #[.pointer none] W fun e w' => e = .returned (.bool false) ∧ w' = W := by
  go_enter Tryz.func32, Tryz.ntmps32; (try simp only [List.append_eq, List.cons_append, List.nil_append])
  go_wp2
  go_ret
  exact ⟨rfl, rfl⟩
set_option maxRecDepth 100000 in
theorem bMade {g hq hs : Nat} {b : Bd} {W : World} (h : Blk W g 55 (boardC b hq hs)) : Calls Tryz.prog 32 #[.pointer (some ⟨g, 0, none⟩)] W fun e w' => e = .returned (.bool true) ∧ w' = W := by
  have hg := h.lt
  have c1 : W.cell? ⟨g, 1, none⟩ = some (.map (some hq)) := h.cell 1 _ rfl
  clear h
  have qT : ∀ (w : World) (r : Option Nat), (Go.binOp .neq 52 (.map r) (.map none)).run Tryz.prog w = .ok (.bool (!r.isNone)) w := fun w r => run_neq_map_nil w _ _ _ r Tryz.underlying52
  go_enter Tryz.func32, Tryz.ntmps32; (try simp only [List.append_eq, List.cons_append, List.nil_append])
  go_wp2
  go_ret
  exact ⟨rfl, rfl⟩
theorem bNewBad {room : Int} (hr : ¬ (1 ≤ room ∧ room ≤ 4096)) (W : World) : Calls Tryz.prog 5 #[.int .i64 room] W fun e w' => e = .returned (.tuple #[.pointer none, .int .i64 2]) ∧ w' = W := by
  have hmm := @run_makeMap Tryz.prog
  go_enter Tryz.func5, Tryz.ntmps5; (try simp only [List.append_eq, List.cons_append, List.nil_append])
  go_wp2
  all_goals first | (exfalso; omega) | skip
  all_goals
    go_ret2
    exact ⟨rfl, rfl⟩
theorem MapB.made (X : World) : MapB (X.alloc (.map #[] 0)) X.heap.size 0 [] := World.ownsMap_made _ _ _ _
def newB (room : Int) : Bd := ⟨room, [], 0, 0, [], 1⟩
theorem newB_mem {room : Int} (hr : 1 ≤ room ∧ room ≤ 4096) (W : World) : BrdM W.heap.size (((W.alloc (.map #[] 0)).alloc (.map #[] 0)).alloc (.cells #[.int .i64 room, .map (some W.heap.size), .map (some (W.heap.size + 1)), .int .i64 1] 55)) (W.heap.size + 1 + 1) W.heap.size (W.heap.size + 1) 0 0 none (newB room) (.slice none 0 0) [] := by
  have e1 : (W.alloc (.map #[] 0)).heap.size = W.heap.size + 1 := World.size_alloc _ _
  have e2 : ((W.alloc (.map #[] 0)).alloc (.map #[] 0)).heap.size = W.heap.size + 1 + 1 := by rw [World.size_alloc, e1]
  have h1 := MapB.made W
  have h2 := MapB.made (W.alloc (.map #[] 0))
  rw [e1] at h2
  have h3 := Blk.new ((W.alloc (.map #[] 0)).alloc (.map #[] 0)) (boardC (newB room) W.heap.size (W.heap.size + 1)) 55
  rw [e2] at h3
  have k1 := h1.keep (Below.heap_alloc (W.alloc (.map #[] 0)) (.map #[] 0) _ h1.lt)
  have k2 := k1.keep (Below.heap_alloc _ (.cells (boardC (newB room) W.heap.size (W.heap.size + 1)).toArray 55) _ k1.lt)
  have k3 := h2.keep (Below.heap_alloc _ (.cells (boardC (newB room) W.heap.size (W.heap.size + 1)).toArray 55) _ h2.lt)
  exact ⟨h3, k2, k3, rfl, fun x hx => (by cases hx), World.ownsRow_nil _ _ _ _, fun i s x h => (by simp [newB] at h), List.nodup_nil, List.Pairwise.nil, fun s hs => (by cases hs), ⟨by omega, by omega, by omega, by omega, fun x hx => by cases hx⟩, ⟨hr, by simp [newB], by simp [newB], by simp [newB], by decide, by decide⟩, fun s hs => (by cases hs), ⟨by simp [newB], fun t ht => by cases ht⟩⟩
theorem bNew {room : Int} (hr : 1 ≤ room ∧ room ≤ 4096) (W : World) : Calls Tryz.prog 5 #[.int .i64 room] W fun e w' => ∃ g hq hs, e = .returned (.tuple #[.pointer (some ⟨g, 0, none⟩), .int .i64 0]) ∧ BrdM W.heap.size w' g hq hs 0 0 none (newB room) (.slice none 0 0) [] ∧ Below W.heap.size W w' := by
  have hmm := @run_makeMap Tryz.prog
  go_enter Tryz.func5, Tryz.ntmps5; (try simp only [List.append_eq, List.cons_append, List.nil_append])
  go_wp2
  all_goals first | (exfalso; omega) | skip
  all_goals
    go_ret2
    refine ⟨_, rfl, ⟨_, _, newB_mem hr W⟩, ?_⟩
    exact (((Below.refl _ W).alloc (Nat.le_refl _) _).alloc (by simp; try omega) _).alloc (by simp; try omega) _
end Go.Proofs.YtfmolimnnheaoaaGreat

/- (*Board).Open. -/
namespace Go.Proofs.YtfmolimnnheaoaaGreat
open Go.RowKit
set_option linter.unusedSimpArgs false
set_option linter.unusedVariables false
open Go.Maps

theorem i64_of {n : Int} {a b : Int} (h : a ≤ n ∧ n ≤ b) (ha : -9223372036854775808 ≤ a) (hb : b ≤ 9223372036854775807) : i64 n := ⟨by omega, by omega⟩
/-- A block that is taken newly, a map that grows. -/
theorem offB_map {base : Nat} {W W' : World} {o : Obj} {hq n : Nat} {l : List (Int × Nat)} (hm : MapB W hq n l) (hb : base ≤ hq) (hg : (W.alloc o).grownBy W' (some hq)) : OffM (BTyM base W) W W' :=
  (OffM.of (M := BTyM base W) ((Below.refl _ W).alloc (Nat.le_refl _) o)).trans (OffM.grown hg) (fun i hi he => by cases he; exact hm.lt |> fun _ => BTyM.map hm hb)
theorem queryZ {b : Bd} {m : Int} : (([.slice none 0 0, .int .i64 m, .int .i64 m] : List Value)) = queryC { b with last := m, floor := m } (.slice none 0 0) := rfl
theorem MapB.ne {W : World} {hq n g t : Nat} {l : List (Int × Nat)} {cs : List Value} (h : MapB W hq n l) (k : Blk W g t cs) : g ≠ hq := by
  rintro rfl
  obtain ⟨es, clock, h1, -⟩ := h
  have k' : W.heap[g]? = some (.cells cs.toArray t (0, 0)) := k
  rw [h1] at k'
  cases k'
/-- What lay there, when a block is taken newly and a map has grown. -/
theorem Blk.grown {W X W' : World} {g t hq : Nat} {cs : List Value} (h : Blk W g t cs) (hb : Below W.heap.size W X) (hg : X.grownBy W' (some hq)) (hne : g ≠ hq) : Blk W' g t cs :=
  (hg.block g (Nat.lt_of_lt_of_le h.lt hb.size) (fun e => hne (by cases e; rfl))).trans (h.keep hb)
theorem MapB.grown {W X W' : World} {g n hq : Nat} {l : List (Int × Nat)} (h : MapB W g n l) (hb : Below W.heap.size W X) (hg : X.grownBy W' (some hq)) (hne : g ≠ hq) : MapB W' g n l :=
  (h.keep (hb.block _ h.lt)).keep (hg.block g (Nat.lt_of_lt_of_le h.lt hb.size) (fun e => hne (by cases e; rfl)))
section
variable {base : Nat} {W : World} {g hq hs nq ns : Nat} {q : Option Nat} {b : Bd} {kv : Value} {bl : List Nat}
set_option maxRecDepth 100000 in
set_option maxHeartbeats 4000000 in
theorem bOpen {mark : Int} (h : BrdM base W g hq hs nq ns none b kv bl) (hk : b.kept = []) (hm : 0 ≤ mark ∧ mark ≤ 1099511627776) (hn : nq + 1 ≤ 100000) (hbs : base ≤ W.heap.size) :
    Calls Tryz.prog 9 #[.pointer (some ⟨g, 0, none⟩), .int .i64 1, .int .i64 mark] W fun e w' => e = .returned (.int .i64 0) ∧ ∃ x, BrdM base w' g hq hs (nq + 1) ns (some x) { b with last := mark, floor := mark } (.slice none 0 0) bl ∧ OffM (BTyM base W) W w' := by
  have H := Lib.hid h
  have hg := h.blk.lt
  have c1 : W.cell? ⟨g, 1, none⟩ = some (.map (some hq)) := h.blk.cell 1 _ rfl
  have hlook : (Instr.lookup 52 (.map (some hq)) (.int .i64 1) false).run Tryz.prog W = .ok (.pointer none) W := h.mq.lookQ (n := 1) ⟨by omega, by omega⟩
  have hmq' := h.mq.keep (Below.heap_alloc W (.cells #[.slice none 0 0, .int .i64 mark, .int .i64 mark] 64) _ h.mq.lt)
  obtain ⟨W', hrun, hM', hgr⟩ := hmq'.insQ (by have := h.num; omega) (n := 1) ⟨by omega, by omega⟩ (fun x hx => by cases hx) W.heap.size
  have HM := Lib.hid hM'; have HG := Lib.hid hgr; have Hmq := Lib.hid h.mq; have Hb := Lib.hid h.blk; have Hm := Lib.hid hm; have Hk := Lib.hid hk
  clear hmq' hM' hgr h hk
  go_enter Tryz.func9, Tryz.ntmps9; (try simp only [List.append_eq, List.cons_append, List.nil_append])
  go_wp2_with fail
  refine (bMade Hb.out).mono ?_
  rintro e w1 ⟨rfl, rfl⟩
  go_wp2_with fail
  refine (bTime mark _).mono ?_
  rintro e w1 ⟨rfl, rfl⟩
  rw [decide_eq_true Hm.out]
  go_wp2_with fail
  go_ret
  have hb := (Below.refl w1.heap.size w1).alloc (Nat.le_refl _) (.cells #[.slice none 0 0, .int .i64 mark, .int .i64 mark] 64)
  have hx := H.out
  have hg := HG.out
  refine ⟨rfl, w1.heap.size, ⟨hx.blk.grown hb hg (hx.mq.ne hx.blk), HM.out, hx.ms.grown hb hg (fun e => hx.low.2.2.2.1 e.symm), hx.len, fun x he => ?_, ?_, fun i s x h1 h2 => (hx.sb i s x h1 h2).grown hb hg (hx.mq.ne (hx.sb i s x h1 h2)), hx.nd, hx.ids, hx.next, hx.low, ?_, hx.subsN, ?_⟩, offB_map hx.mq hx.low.2.1 hg⟩
  · cases he
    exact ⟨(hg.block _ (by rw [World.size_alloc]; omega) (fun e => by have := hx.mq.lt; cases e; omega)).trans (Blk.new w1 [.slice none 0 0, .int .i64 mark, .int .i64 mark] 64), hbs⟩
  · show W'.ownsRow _ _ _ _ b.kept.length (b.kept.map toldC).flatten
    rw [Hk.out]
    exact World.ownsRow_nil _ _ _ _
  · have hn1 := hx.num; have hm1 := Hm.out; exact ⟨hn1.1, hn1.2.1, hm1, hm1, hn1.2.2.2.2.1, hn⟩
  · exact hx.keptN
end
end Go.Proofs.YtfmolimnnheaoaaGreat
