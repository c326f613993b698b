/- intern.New, right, Len, Series; slices.Clone of any labels; a table that nobody made. -/
import Derived.Test.YtkheeiipkdeihaaNt7
import Derived.Test.YtkheeiipkdeihaaNt4
import Derived.Test.YtkheeiipkdeihaaXr0
import Derived.WalkSpells
import Derived.Carry
namespace Go.Proofs.Ytkheeiipkdeihaa
open Go.RowKit
set_option linter.unusedSimpArgs false
set_option linter.unusedVariables false
open Go.Maps

theorem tRight0 (W : World) : Calls Try.prog 21 #[.pointer none] W fun e w' => e = .returned (.bool false) ∧ w' = W := by
  go_enter Try.func21, Try.ntmps21; (try simp only [List.append_eq, List.cons_append, List.nil_append])
  go_wp2
  go_ret
  exact ⟨rfl, rfl⟩
set_option maxRecDepth 100000 in
theorem tRight {g hb hm hx : Nat} {lv : Value} {W : World} (h : Blk W g 59 (tabC lv hb hm hx)) : Calls Try.prog 21 #[.pointer (some ⟨g, 0, none⟩)] W fun e w' => e = .returned (.bool true) ∧ w' = W := by
  have hg := h.lt
  have c1 : W.cell? ⟨g, 1, none⟩ = some (.map (some hb)) := h.cell 1 _ rfl
  clear h
  have qT : ∀ (w : World) (r : Option Nat), (Go.binOp .neq 27 (.map r) (.map none)).run Try.prog w = .ok (.bool (!r.isNone)) w := fun w r => run_neq_map_nil w _ _ _ r Try.underlying27
  go_enter Try.func21, Try.ntmps21; (try simp only [List.append_eq, List.cons_append, List.nil_append])
  go_wp2
  go_ret
  exact ⟨rfl, rfl⟩
theorem newT_mem (W : World) : TabM (fun k => W.heap.size ≤ k ∧ k < W.heap.size + 4) ((((W.alloc (.map #[] 0)).alloc (.map #[] 0)).alloc (.map #[] 0)).alloc (.cells #[.slice none 0 0, .map (some W.heap.size), .map (some (W.heap.size + 1)), .map (some (W.heap.size + 2))] 59)) (W.heap.size + 3) [] 0 := by
  have s1 : (W.alloc (.map #[] 0)).heap.size = W.heap.size + 1 := World.size_alloc _ _
  have s2 : ((W.alloc (.map #[] 0)).alloc (.map #[] 0)).heap.size = W.heap.size + 2 := by rw [World.size_alloc, s1]
  have s3 : (((W.alloc (.map #[] 0)).alloc (.map #[] 0)).alloc (.map #[] 0)).heap.size = W.heap.size + 3 := by rw [World.size_alloc, s2]
  have m1 : ∀ R, MapS (W.alloc (.map #[] 0)) R W.heap.size 0 (.map []) := fun R => World.ownsMap_made W Try.prog 9 R
  have m2 : ∀ R, MapS ((W.alloc (.map #[] 0)).alloc (.map #[] 0)) R (W.heap.size + 1) 0 (.map []) := fun R => by have := World.ownsMap_made (W.alloc (.map #[] 0)) Try.prog 9 R; rwa [s1] at this
  have m3 : ∀ R, MapS (((W.alloc (.map #[] 0)).alloc (.map #[] 0)).alloc (.map #[] 0)) R (W.heap.size + 2) 0 (.map []) := fun R => by have := World.ownsMap_made ((W.alloc (.map #[] 0)).alloc (.map #[] 0)) Try.prog 9 R; rwa [s2] at this
  have b2 : Below (W.alloc (.map #[] 0)).heap.size (W.alloc (.map #[] 0)) ((W.alloc (.map #[] 0)).alloc (.map #[] 0)) := (Below.refl _ _).alloc (Nat.le_refl _) _
  have b3 : Below ((W.alloc (.map #[] 0)).alloc (.map #[] 0)).heap.size ((W.alloc (.map #[] 0)).alloc (.map #[] 0)) (((W.alloc (.map #[] 0)).alloc (.map #[] 0)).alloc (.map #[] 0)) := (Below.refl _ _).alloc (Nat.le_refl _) _
  have b4 := (Below.refl (((W.alloc (.map #[] 0)).alloc (.map #[] 0)).alloc (.map #[] 0)).heap.size (((W.alloc (.map #[] 0)).alloc (.map #[] 0)).alloc (.map #[] 0))).alloc (Nat.le_refl _) (.cells #[.slice none 0 0, .map (some W.heap.size), .map (some (W.heap.size + 1)), .map (some (W.heap.size + 2))] 59)
  have h4 := Blk.new (((W.alloc (.map #[] 0)).alloc (.map #[] 0)).alloc (.map #[] 0)) (tabC (.slice none 0 0) W.heap.size (W.heap.size + 1) (W.heap.size + 2)) 59
  rw [s3] at h4
  obtain ⟨w1, hw1⟩ : ∃ z, W.alloc (.map #[] 0) = z := ⟨_, rfl⟩
  rw [hw1] at s1 s2 s3 m1 m2 m3 b2 b3 b4 h4 ⊢
  obtain ⟨w2, hw2⟩ : ∃ z, w1.alloc (.map #[] 0) = z := ⟨_, rfl⟩
  rw [hw2] at s2 s3 m2 m3 b2 b3 b4 h4 ⊢
  obtain ⟨w3, hw3⟩ : ∃ z, w2.alloc (.map #[] 0) = z := ⟨_, rfl⟩
  rw [hw3] at s3 m3 b3 b4 h4 ⊢
  have s4 : (w3.alloc (.cells #[.slice none 0 0, .map (some W.heap.size), .map (some (W.heap.size + 1)), .map (some (W.heap.size + 2))] 59)).heap.size = W.heap.size + 4 := by rw [World.size_alloc, s3]
  obtain ⟨w4, hw4⟩ : ∃ z, w3.alloc (.cells #[.slice none 0 0, .map (some W.heap.size), .map (some (W.heap.size + 1)), .map (some (W.heap.size + 2))] 59) = z := ⟨_, rfl⟩
  rw [hw4] at s4 b4 ⊢
  rw [show w3.alloc (.cells (tabC (.slice none 0 0) W.heap.size (W.heap.size + 1) (W.heap.size + 2)).toArray 59) = w4 from hw4] at h4
  clear hw1 hw2 hw3 hw4
  have k1 : ∀ R, MapS w4 R W.heap.size 0 (.map []) := fun R => (((m1 R).turn (b2.block _ (by omega)) (fun _ _ e => e)).turn (b3.block _ (by omega)) (fun _ _ e => e)).turn (b4.block _ (by omega)) (fun _ _ e => e)
  have k2 : ∀ R, MapS w4 R (W.heap.size + 1) 0 (.map []) := fun R => ((m2 R).turn (b3.block _ (by omega)) (fun _ _ e => e)).turn (b4.block _ (by omega)) (fun _ _ e => e)
  have k3 : ∀ R, MapS w4 R (W.heap.size + 2) 0 (.map []) := fun R => (m3 R).turn (b4.block _ (by omega)) (fun _ _ e => e)
  refine ⟨.slice none 0 0, W.heap.size, W.heap.size + 1, W.heap.size + 2, fun _ => False, fun k => k = W.heap.size + 2, h4, ⟨[], World.ownsRow_nil _ _ _ _, rfl, fun k row s h => by simp at h⟩, ⟨_, k1 _, fun s _ => ⟨rfl, rfl⟩⟩,
    ⟨_, fun _ => .slice none 0 0, k2 _, fun m _ => rfl, fun m => OwnI.nil, fun m k h => (by cases h), fun m m' k _ h => (by cases h)⟩, ⟨rfl, 0, _, Nat.le_refl _, k3 _⟩, by omega, ⟨by omega, by omega, by omega⟩, fun k h => h.elim, fun k h => (by cases h), ⟨⟨by omega, by omega⟩, ⟨by omega, by omega⟩, ⟨by omega, by omega⟩, fun k h => (by cases h), fun k h => h.elim, fun k h => by subst h; exact ⟨by omega, by omega⟩⟩, fun k h => by rw [s4]; exact h.2, fun s h => (by cases h), fun k hk cur e => ?_⟩
  subst hk
  obtain ⟨es, ck, h1, -⟩ := k3 sliceE
  rw [h1] at e
  cases e
theorem tNew (W : World) : Calls Try.prog 7 #[] W fun e w' => e = .returned (.pointer (some ⟨W.heap.size + 3, 0, none⟩)) ∧ TabM (fun k => W.heap.size ≤ k ∧ k < W.heap.size + 4) w' (W.heap.size + 3) [] 0 ∧ Below W.heap.size W w' ∧ w'.heap.size = W.heap.size + 4 := by
  have hmm := @run_makeMap Try.prog
  have hT := Lib.hid (newT_mem W)
  go_enter Try.func7, Try.ntmps7; (try simp only [List.append_eq, List.cons_append, List.nil_append])
  go_wp2
  go_ret
  refine ⟨rfl, hT.out, ?_, ?_⟩
  · exact ((((Below.refl _ W).alloc (Nat.le_refl _) _).alloc (by simp) _).alloc (by simp; try omega) _).alloc (by simp; try omega) _
  · simp
set_option maxRecDepth 100000 in
set_option maxHeartbeats 1000000 in
theorem cloneAny {l : List Lab} {p : Option Addr} {cap n : Nat} {w : World} (hn : n ≤ w.heap.size) (h : IsLabs n w (.slice p l.length cap) l) (hl : l.length ≤ 1000000) :
    Calls Try.prog 24 #[.slice p l.length cap] w fun e' w' => ∃ v', e' = .returned v' ∧ OwnL w.heap.size w' v' l ∧ Below w.heap.size w w' := by
  obtain ⟨i0, hi, hz0, hz1, hz2⟩ := info_parts infoLab
  have hs : SrcN w (.slice p l.length cap) 2 l.length (flat l) := by
    have h1 : Arr n w (.slice p (l.map Lab.cells).length cap) 2 (l.map Lab.cells) := by rw [List.length_map]; exact h.1
    have := SrcN.of_arr h1 (labs_len l) (by decide)
    rw [List.length_map] at this
    exact this
  have HS := Lib.hid hs
  obtain ⟨N, hN⟩ : ∃ z, l.length = z := ⟨_, rfl⟩

  rw [hN] at HS hl ⊢
  have HNL := Lib.hid hN
  cases p with
  | none =>
    have hl0 : l = [] := by
      rcases h.1 with ⟨p', c', hv, -, -, h3⟩
      by_cases hne : l = []
      · exact hne
      · obtain ⟨b, off, hp, -⟩ := h3 (by simpa using hne)
        subst hp
        simp at hv
    subst hl0
    simp at hN
    subst hN
    clear h hs HS
    have hnil : ∀ w, (binOp .eql 31 (.slice none 0 cap) (.slice none 0 0)).run Try.prog w = .ok (.bool true) w := fun w => Lib.run_eql_slice_nil (P := Try.prog) w 31 _ none 0 cap 0 0 Try.underlying31
    go_enter Try.func24, Try.ntmps24; (try simp only [List.append_eq, List.cons_append, List.nil_append])
    go_wp2
    go_ret
    exact ⟨_, rfl, World.ownsRow_nil _ _ _ _, Below.refl _ _⟩
  | some ad =>
    clear h hs hN
    have hnil : ∀ w, (binOp .eql 31 (.slice (some ad) N cap) (.slice none 0 0)).run Try.prog w = .ok (.bool false) w := fun w => Lib.run_eql_slice_nil (P := Try.prog) w 31 _ (some ad) N cap 0 0 Try.underlying31
    go_enter Try.func24, Try.ntmps24; (try simp only [List.append_eq, List.cons_append, List.nil_append])
    go_wp2_with (at_builtin; refine wpList_append_srcN _ rfl _ _ _ rfl w.heap.size 63 i0 _ 2 32 Try.underlying31 hi hz0 hz1 hz2 rfl (by decide) _ 0 [] rfl (own_empty0 63 2 w) _ N (flat l) rfl (HS.out.below ((Below.refl _ _).alloc (Nat.le_refl _) _)) (flat_one l) (by unfold maxLen; omega) (by omega) (by simp) ?_; intro v3 w3 hown3 hgr3 _; have HB3 := Lib.hid (below_app ((Below.refl _ _).alloc (Nat.le_refl _) (.cells #[] 63)) (own_empty0 63 2 w) hgr3 (Nat.le_refl _) (by simp)); have HO3 := Lib.hid hown3; clear hown3 hgr3)
    go_ret
    refine ⟨_, rfl, ?_, HB3.out⟩
    have h := HO3.out
    rw [Nat.zero_add, List.nil_append] at h
    unfold OwnL
    rw [HNL.out]
    exact h
end Go.Proofs.Ytkheeiipkdeihaa
