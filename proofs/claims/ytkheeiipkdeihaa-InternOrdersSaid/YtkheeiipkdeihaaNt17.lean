/- What the law knows of the series put so far: a map in memory. -/
import Derived.Test.YtkheeiipkdeihaaNt15
namespace Go.Proofs.Ytkheeiipkdeihaa
open Go.RowKit
set_option linter.unusedSimpArgs false
set_option linter.unusedVariables false
open Go.Maps

def KnM (w : World) (hk n : Nat) (T : List Sr) : Prop := ∃ D, MapS w intR hk n D ∧ (∀ s, okS s = 0 → has D (.string (keyB s).data.toList) = (idxS s T).isSome ∧ D.atKey (.string (keyB s).data.toList) (.lit (.int .i64 0)) = .lit (.int .i64 (idS T s))) ∧ Maps.size D = T.length
theorem KnM.by {w : World} {hk n : Nat} {T : List Sr} (h : KnM w hk n T) : ByM w hk n T := by
  obtain ⟨D, h1, h2, -⟩ := h
  exact ⟨D, h1, h2⟩
theorem KnM.lt {w : World} {hk n : Nat} {T : List Sr} (h : KnM w hk n T) : hk < w.heap.size := h.by.lt
theorem KnM.turn {w w' : World} {hk n : Nat} {T : List Sr} (h : KnM w hk n T) (hb : w'.heap[hk]? = w.heap[hk]?) : KnM w' hk n T := by
  obtain ⟨D, h1, h2⟩ := h
  exact ⟨D, h1.turn hb (fun _ _ e => e), h2⟩
theorem KnM.keep {w w' : World} {hk n : Nat} {T : List Sr} (h : KnM w hk n T) (hb : Below w.heap.size w w') : KnM w' hk n T := h.turn (hb.block _ h.lt)
theorem KnM.mono {w : World} {hk n n' : Nat} {T : List Sr} (h : KnM w hk n T) (hn : n ≤ n') : KnM w hk n' T := by
  obtain ⟨D, h1, h2⟩ := h
  exact ⟨D, World.ownsMap.mono h1 hn, h2⟩
theorem KnM.len {w : World} {hk n : Nat} {T : List Sr} (h : KnM w hk n T) (ty : Nat) : (Builtin.len_ #[27] ty #[.map (some hk)]).run Try.prog w = .ok (.int .i64 T.length) w := by
  obtain ⟨D, h1, -, h3⟩ := h
  have := World.ownsMap.len h1 Try.underlying27 ty
  rwa [h3] at this
theorem KnM.made (w : World) : KnM (w.alloc (.map #[] 0)) w.heap.size 0 [] := ⟨_, World.ownsMap_made w Try.prog 9 _, fun s _ => ⟨rfl, rfl⟩, rfl⟩
theorem KnM.put {w : World} {hk n : Nat} {T : List Sr} (h : KnM w hk n T) (hn : n < 1000000) {s : Sr} (hs : okS s = 0) (hj : idxS s T = none) (hT : T.length ≤ 100000) :
    ∃ w', (Instr.mapUpdate 27 (.map (some hk)) (.string (keyB s)) (.int .i64 ((T.length : Int) + 1))).run Try.prog w = .ok () w' ∧ KnM w' hk (n + 1) (T ++ [s]) ∧ w.grownBy w' (some hk) := by
  obtain ⟨D, h1, h2, h3⟩ := h
  obtain ⟨w', hrun, hM, hg⟩ := MapS.store Try.underlying27 h1 hn (keyB_size hs) (intR_mk (a := (T.length : Int) + 1) (by constructor <;> omega))
  refine ⟨w', hrun, ⟨_, hM, fun t ht => ?_, ?_⟩, hg⟩
  · rw [idS_snoc hj, isSome_snoc]
    by_cases e : t = s
    · subst e
      rw [if_pos rfl]
      refine ⟨?_, at_same h1.isMap (keyB_size hs) _ _⟩
      rw [has_put_same h1.isMap (keyedS.key (keyS_mk (keyB_size hs)))]
      simp
    · rw [if_neg e]
      refine ⟨?_, ?_⟩
      · rw [has_put_other (lit_ne (keyB_ne ht hs e)), (h2 t ht).1]
        simp [e]
      · rw [at_other (keyB_ne ht hs e), (h2 t ht).2]
  · rw [size_put (World.ownsMap.tidy h1 keyedS), (h2 s hs).1, hj, h3]
    simp
theorem idS_old {T : List Sr} {s : Sr} (hok : okS s = 0) : ∃ j : Nat, idS (putS T s) s = (j : Int) + 1 ∧ (putS T s)[j]? = some s := by
  cases hj : idxS s T with
  | some j =>
    rw [putS_old hok hj]
    exact ⟨j, by unfold idS; rw [hj], idxS_some hj⟩
  | none =>
    rw [putS_new hok hj, idS_snoc hj, if_pos rfl]
    exact ⟨T.length, rfl, by simp⟩
theorem putS_len (T : List Sr) (s : Sr) : (putS T s).length ≤ T.length + 1 := by
  unfold putS
  split
  · split
    · omega
    · simp
  · omega
theorem TabB.grown {base : Nat} {Q : Nat → Prop} {W w' : World} {g c hk : Nat} {T : List Sr} (h : TabB base Q W g T c) (hg : W.grownBy w' (some hk)) (hq : Q hk) (hm : ∃ es ck, W.heap[hk]? = some (.map es ck)) : TabB base Q w' g T c := by
  obtain ⟨Fr, h1, h2⟩ := h
  refine ⟨Fr, h1.offM (OffM.grown hg) (fun k e hF => ?_) (fun k e cur he => ?_), h2⟩
  · cases e
    exact (h2 _ hF).2 hq
  · cases e
    obtain ⟨es, ck, hm⟩ := hm
    rw [hm] at he
    cases he
def cpuB : ByteArray := ⟨#[99, 112, 117]⟩
def Loop12 (W : World) (hk g N : Nat) (c5 i : Value) (wr : World) : Prop := ∃ (k : Nat) (T : List Sr) (c : Nat), k ≤ N ∧ i = .int .i64 k ∧ c5 = .int .i64 (idsOf cpuB T).length ∧ TabB W.heap.size (fun x => x = hk) wr g T c ∧ KnM wr hk k T ∧ T.length ≤ k ∧ c ≤ 30 * k ∧ Below W.heap.size W wr
end Go.Proofs.Ytkheeiipkdeihaa
