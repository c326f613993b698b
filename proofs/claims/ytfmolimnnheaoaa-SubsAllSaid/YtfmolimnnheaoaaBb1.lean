/- The board's maps: what is looked up, put, taken out; made, time. -/
import Derived.Test.YtfmolimnnheaoaaBb0
import Derived.Test.YtfmolimnnheaoaaIt0
import Derived.WalkSpells
namespace Go.Proofs.Ytfmolimnnheaoaa
open Go.RowKit
set_option linter.unusedSimpArgs false
set_option linter.unusedVariables false
open Go.Maps

def ptrV : Option Nat → Value
  | some b => .pointer (some ⟨b, 0, none⟩)
  | none => .pointer none
def lookE (l : List (Int × Nat)) (n : Int) : Option Nat := (l.find? (fun x => x.1 == n)).map Prod.snd
theorem keyI {n : Int} (h : i64 n) : keyOf Try.prog 3 (.int .i64 n) = some (.int .i64 n) := by
  obtain ⟨h1, h2⟩ := h
  have hk := Try.underlying3
  simp [keyOf, hk, mapKey, Lit.wf, IntKind.min, IntKind.max, IntKind.signed, IntKind.bits]
  try omega
theorem ptrE_look {l : List (Int × Nat)} {n : Int} {v : Value} {ps : List MemPlace} (h : ptrE v = some ((mapE l).atKey (.int .i64 n) .nil, ps)) : v = ptrV (lookE l n) := by
  rw [atE] at h
  unfold lookE
  cases hf : l.find? (fun x => x.1 == n) with
  | none => rw [hf] at h; exact ptrE_nil h
  | some x => rw [hf] at h; exact ptrE_blk h
theorem MapB.look {t e : Nat} (ht : Try.prog.underlying t = some (.map 3 e)) {W : World} (hz : (zeroValue e).run Try.prog W = .ok (.pointer none) W) {g m : Nat} {l : List (Int × Nat)} (h : MapB W g m l) {n : Int} (hn : i64 n) :
    (Instr.lookup t (.map (some g)) (.int .i64 n) false).run Try.prog W = .ok (ptrV (lookE l n)) W := by
  obtain ⟨v, ps, hrun, hR⟩ := World.ownsMap.lookup h (int_keyed Try.underlying3) ht hz (zd := .nil) (zp := []) rfl (keyI hn)
  rw [hrun, ptrE_look hR]
theorem MapB.lookS {W : World} {g m : Nat} {l : List (Int × Nat)} (h : MapB W g m l) {n : Int} (hn : i64 n) :
    (Instr.lookup 57 (.map (some g)) (.int .i64 n) false).run Try.prog W = .ok (ptrV (lookE l n)) W := h.look Try.underlying57 (Try.zeroValue65 W) hn
theorem MapB.lookQ {W : World} {g m : Nat} {l : List (Int × Nat)} (h : MapB W g m l) {n : Int} (hn : i64 n) :
    (Instr.lookup 56 (.map (some g)) (.int .i64 n) false).run Try.prog W = .ok (ptrV (lookE l n)) W := h.look Try.underlying56 (Try.zeroValue61 W) hn
theorem MapB.ins {t e : Nat} (ht : Try.prog.underlying t = some (.map 3 e)) {W : World} {g m : Nat} {l : List (Int × Nat)} (h : MapB W g m l) (hm : m ≤ 200000) {n : Int} (hn : i64 n) (hl : ∀ x ∈ l, x.1 < n) (b : Nat) :
    ∃ W', (Instr.mapUpdate t (.map (some g)) (.int .i64 n) (.pointer (some ⟨b, 0, none⟩))).run Try.prog W = .ok () W' ∧ MapB W' g (m + 1) (l ++ [(n, b)]) ∧ W.grownBy W' (some g) := by
  obtain ⟨W', hrun, ho, hg⟩ := World.ownsMap.update h (int_keyed Try.underlying3) ht (by unfold maxLen; omega) (keyI hn) (val := .pointer (some ⟨b, 0, none⟩)) (d := .lit (.int .i64 b)) (ps := []) rfl
  exact ⟨W', hrun, by unfold MapB; rw [← putE l n b hl]; exact ho, hg⟩
theorem MapB.insS {W : World} {g m : Nat} {l : List (Int × Nat)} (h : MapB W g m l) (hm : m ≤ 200000) {n : Int} (hn : i64 n) (hl : ∀ x ∈ l, x.1 < n) (b : Nat) :
    ∃ W', (Instr.mapUpdate 57 (.map (some g)) (.int .i64 n) (.pointer (some ⟨b, 0, none⟩))).run Try.prog W = .ok () W' ∧ MapB W' g (m + 1) (l ++ [(n, b)]) ∧ W.grownBy W' (some g) := h.ins Try.underlying57 hm hn hl b
theorem MapB.insQ {W : World} {g m : Nat} {l : List (Int × Nat)} (h : MapB W g m l) (hm : m ≤ 200000) {n : Int} (hn : i64 n) (hl : ∀ x ∈ l, x.1 < n) (b : Nat) :
    ∃ W', (Instr.mapUpdate 56 (.map (some g)) (.int .i64 n) (.pointer (some ⟨b, 0, none⟩))).run Try.prog W = .ok () W' ∧ MapB W' g (m + 1) (l ++ [(n, b)]) ∧ W.grownBy W' (some g) := h.ins Try.underlying56 hm hn hl b
theorem MapB.dropS {W : World} {g m : Nat} {l : List (Int × Nat)} (h : MapB W g m l) {n : Int} (hn : i64 n) (ty : Nat) :
    ∃ W', (Builtin.delete_ #[57, 3] ty #[.map (some g), .int .i64 n]).run Try.prog W = .ok (.tuple #[]) W' ∧ MapB W' g m (l.filter fun x => x.1 != n) ∧ W.grownBy W' (some g) := by
  obtain ⟨W', hrun, ho, hg⟩ := World.ownsMap.drop h (int_keyed Try.underlying3) Try.underlying57 (keyI hn) ty
  exact ⟨W', hrun, by unfold MapB; rw [← delE]; exact ho, hg.grown⟩
theorem MapB.lenS {W : World} {g m : Nat} {l : List (Int × Nat)} (h : MapB W g m l) (ty : Nat) : (Builtin.len_ #[57] ty #[.map (some g)]).run Try.prog W = .ok (.int .i64 l.length) W := by
  have := World.ownsMap.len h Try.underlying57 ty
  rw [sizeE] at this
  exact this

/-! ### made, time -/
theorem bTime (n : Int) (W : World) : Calls Try.prog 29 #[.int .i64 n] W fun e w' => e = .returned (.bool (decide (0 ≤ n ∧ n ≤ 1099511627776))) ∧ w' = W := by
  by_cases h0 : 0 ≤ n <;> by_cases h1 : n ≤ 1099511627776 <;> (simp only [h0, h1, and_self, and_true, true_and, false_and, and_false, decide_true, decide_false])
  all_goals
    go_enter Try.func29, Try.ntmps29; (try simp only [List.append_eq, List.cons_append, List.nil_append])
    go_wp2
    all_goals
      go_ret
      first | exact ⟨rfl, rfl⟩ | exact ⟨by simp [h0, h1], rfl⟩ | (exfalso; omega)
theorem bMade0 (W : World) : Calls Try.prog 28 #[.pointer none] W fun e w' => e = .returned (.bool false) ∧ w' = W := by
  go_enter Try.func28, Try.ntmps28; (try simp only [List.append_eq, List.cons_append, List.nil_append])
  go_wp2
  go_ret
  exact ⟨rfl, rfl⟩
set_option maxRecDepth 100000 in
theorem bMade {g hq hs : Nat} {b : Bd} {W : World} (h : Blk W g 59 (boardC b hq hs)) : Calls Try.prog 28 #[.pointer (some ⟨g, 0, none⟩)] W fun e w' => e = .returned (.bool true) ∧ w' = W := by
  have hg := h.lt
  have c1 : W.cell? ⟨g, 1, none⟩ = some (.map (some hq)) := h.cell 1 _ rfl
  clear h
  have qT : ∀ (w : World) (r : Option Nat), (Go.binOp .neq 56 (.map r) (.map none)).run Try.prog w = .ok (.bool (!r.isNone)) w := fun w r => run_neq_map_nil w _ _ _ r Try.underlying56
  go_enter Try.func28, Try.ntmps28; (try simp only [List.append_eq, List.cons_append, List.nil_append])
  go_wp2
  go_ret
  exact ⟨rfl, rfl⟩
theorem bNewBad {room : Int} (hr : ¬ (1 ≤ room ∧ room ≤ 4096)) (W : World) : Calls Try.prog 8 #[.int .i64 room] W fun e w' => e = .returned (.tuple #[.pointer none, .int .i64 2]) ∧ w' = W := by
  have hmm := @run_makeMap Try.prog
  go_enter Try.func8, Try.ntmps8; (try simp only [List.append_eq, List.cons_append, List.nil_append])
  go_wp2
  all_goals first | (exfalso; omega) | skip
  all_goals
    go_ret2
    exact ⟨rfl, rfl⟩
theorem MapB.made (X : World) : MapB (X.alloc (.map #[] 0)) X.heap.size 0 [] := World.ownsMap_made _ _ _ _
def newB (room : Int) : Bd := ⟨room, [], 0, 0, [], 1⟩
theorem newB_mem {room : Int} (hr : 1 ≤ room ∧ room ≤ 4096) (W : World) : BrdM W.heap.size (((W.alloc (.map #[] 0)).alloc (.map #[] 0)).alloc (.cells #[.int .i64 room, .map (some W.heap.size), .map (some (W.heap.size + 1)), .int .i64 1] 59)) (W.heap.size + 1 + 1) W.heap.size (W.heap.size + 1) 0 0 none (newB room) (.slice none 0 0) [] := by
  have e1 : (W.alloc (.map #[] 0)).heap.size = W.heap.size + 1 := World.size_alloc _ _
  have e2 : ((W.alloc (.map #[] 0)).alloc (.map #[] 0)).heap.size = W.heap.size + 1 + 1 := by rw [World.size_alloc, e1]
  have h1 := MapB.made W
  have h2 := MapB.made (W.alloc (.map #[] 0))
  rw [e1] at h2
  have h3 := Blk.new ((W.alloc (.map #[] 0)).alloc (.map #[] 0)) (boardC (newB room) W.heap.size (W.heap.size + 1)) 59
  rw [e2] at h3
  have k1 := h1.keep (Below.heap_alloc (W.alloc (.map #[] 0)) (.map #[] 0) _ h1.lt)
  have k2 := k1.keep (Below.heap_alloc _ (.cells (boardC (newB room) W.heap.size (W.heap.size + 1)).toArray 59) _ k1.lt)
  have k3 := h2.keep (Below.heap_alloc _ (.cells (boardC (newB room) W.heap.size (W.heap.size + 1)).toArray 59) _ h2.lt)
  exact ⟨h3, k2, k3, rfl, fun x hx => (by cases hx), World.ownsRow_nil _ _ _ _, fun i s x h => (by simp [newB] at h), List.nodup_nil, List.Pairwise.nil, fun s hs => (by cases hs), ⟨by omega, by omega, by omega, by omega, fun x hx => by cases hx⟩, ⟨hr, by simp [newB], by simp [newB], by simp [newB], by decide, by decide⟩, fun s hs => (by cases hs), ⟨by simp [newB], fun t ht => by cases ht⟩⟩
theorem bNew {room : Int} (hr : 1 ≤ room ∧ room ≤ 4096) (W : World) : Calls Try.prog 8 #[.int .i64 room] W fun e w' => ∃ g hq hs, e = .returned (.tuple #[.pointer (some ⟨g, 0, none⟩), .int .i64 0]) ∧ BrdM W.heap.size w' g hq hs 0 0 none (newB room) (.slice none 0 0) [] ∧ Below W.heap.size W w' := by
  have hmm := @run_makeMap Try.prog
  go_enter Try.func8, Try.ntmps8; (try simp only [List.append_eq, List.cons_append, List.nil_append])
  go_wp2
  all_goals first | (exfalso; omega) | skip
  all_goals
    go_ret2
    refine ⟨_, rfl, ⟨_, _, newB_mem hr W⟩, ?_⟩
    exact (((Below.refl _ W).alloc (Nat.le_refl _) _).alloc (by simp; try omega) _).alloc (by simp; try omega) _
end Go.Proofs.Ytfmolimnnheaoaa
