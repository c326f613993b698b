/- A map literal of two texts, an array of two texts, and a matcher's box, while a statement goes in whatever order. -/
import Derived.Test.YtobelmipjanibaaDoorBd1
import Derived.Test.YtobelmipjanibaaDoorSh0
import Derived.Maps.Own
import Derived.Maps.StringElems
import Derived.Deep.RegionHeld3
namespace Go.Proofs.YtobelmipjanibaaDoor
open Go.RowKit
set_option linter.unusedSimpArgs false
set_option linter.unusedVariables false
open Go.Maps

section
variable {P : Program} {md : Region.Mode} {ops : Array Oper} {Q : Exit → Act → World → Prop} {S S' : World → Prop}
/-- What is kept may be more from here on. -/
theorem wpAnyH_more (hS : ∀ w, S' w → S w) : ∀ (fuel : Nat) (listed : Array Bool) (a : Act) (w : World), wpAnyH P md ops Q S' fuel listed a w → wpAnyH P md ops Q S fuel listed a w
  | 0, _, _, _, h => h
  | fuel + 1, _, _, _, h => ⟨h.1, fun i hi => wpOp_mono (fun a' w' h' => ⟨hS w' h'.1, wpAnyH_more hS fuel _ a' w' h'.2⟩) (h.2 i hi)⟩
end

def Mp (X : World) (g n : Nat) (D : DataW Unit) : Prop := X.ownsMap Tryd.prog 3 (plainElem (H := Unit) Tryd.prog 9) g n D
theorem keyI : Keyed Tryd.prog 3 := int_keyed Tryd.underlying3
theorem Mp.made (X : World) : Mp (X.alloc (.map #[] 0)) X.heap.size 0 (.map []) := World.ownsMap_made _ _ _ _
theorem Mp.kp {X X' : World} {g n b : Nat} {D : DataW Unit} (h : Mp X g n D) (hk : Kp b X X') (hne : g ≠ b) : Mp X' g n D := by
  obtain ⟨es, clock, hb, rest⟩ := h
  exact ⟨es, clock, hk g _ hb (by simpa using hne) (fun c fz e => by cases e), rest⟩
theorem Mp.ins {X : World} {g n : Nat} {D : DataW Unit} (h : Mp X g n D) (hn : n < 100) (k : Int) (hk : 0 ≤ k ∧ k ≤ 100) (s : ByteArray) (hs : s.size ≤ 100) :
    ∃ X', (Instr.mapUpdate 110 (.map (some g)) (.int .i64 k) (.string s)).run Tryd.prog X = .ok () X' ∧ Mp X' g (n + 1) (D.put (.int .i64 k) (.lit (.string s.data.toList))) ∧ X.grownBy X' (some g) :=
  World.ownsMap.update h keyI Tryd.underlying110 (by unfold maxLen; omega) (keyOf_int_mk Tryd.underlying3 (by simp [Lit.wf, IntKind.min, IntKind.max, IntKind.signed, IntKind.bits]; omega)) (plainElem_string Tryd.underlying9 (by unfold maxLen; omega))
def M12 : DataW Unit := ((DataW.map []).put (.int .i64 1) (.lit (.string [61]))).put (.int .i64 2) (.lit (.string [33, 61]))
def M21 : DataW Unit := ((DataW.map []).put (.int .i64 2) (.lit (.string [33, 61]))).put (.int .i64 1) (.lit (.string [61]))
theorem M_at (D : DataW Unit) (hD : D = M12 ∨ D = M21) (k : Int) (hk : k = 1 ∨ k = 2) : D.atKey (.int .i64 k) (.lit (.string [])) = .lit (.string (eqL k)) := by
  rcases hD with rfl | rfl <;> rcases hk with rfl | rfl <;> rfl
theorem Mp.look {X : World} {g n : Nat} {D : DataW Unit} (h : Mp X g n D) (hD : D = M12 ∨ D = M21) (k : Int) (hk : k = 1 ∨ k = 2) :
    (Instr.lookup 110 (.map (some g)) (.int .i64 k) false).run Tryd.prog X = .ok (.string ⟨(eqL k).toArray⟩) X := by
  have hz : (zeroValue 9).run Tryd.prog X = .ok (.string ⟨#[]⟩) X := by kernel_rfl
  obtain ⟨v, ps, hrun, hR⟩ := World.ownsMap.lookup h keyI Tryd.underlying110 hz (zd := .lit (.string [])) (zp := []) (plainElem_string Tryd.underlying9 (by decide)) (kl := .int .i64 k)
    (keyOf_int_mk Tryd.underlying3 (by rcases hk with rfl | rfl <;> decide))
  obtain ⟨s, rfl, hz2, _⟩ := plainElem_string_inv Tryd.underlying9 hR
  rw [M_at D hD k hk] at hz2
  simp only [Prod.mk.injEq, DataW.lit.injEq, Lit.string.injEq] at hz2
  rw [hrun, hz2.1]

/-- The two separators. -/
def sepC : List Value := [.string ⟨#[123]⟩, .string ⟨#[44, 32]⟩]
structure Q5 (n5 gq : Nat) (x : Mat) (ga : Option Nat) (gm : Option (Nat × Nat × DataW Unit)) (X : World) : Prop where
  blk : Blk X gq 74 x.cells
  arr : ∀ g, ga = some g → n5 ≤ g ∧ Blk X g 9 sepC
  map : ∀ m, gm = some m → n5 ≤ m.1 ∧ Mp X m.1 m.2.1 m.2.2
section
variable {n5 gq b : Nat} {x : Mat} {ga : Option Nat} {gm : Option (Nat × Nat × DataW Unit)} {X X' : World}
theorem Q5.kp (h : Q5 n5 gq x ga gm X) (hk : Kp b X X') (hgq : gq ≠ b) (hb : b < n5) : Q5 n5 gq x ga gm X' :=
  ⟨h.blk.kp hk hgq (by decide), fun g hg => ⟨(h.arr g hg).1, (h.arr g hg).2.kp hk (by have := (h.arr g hg).1; omega) (by decide)⟩, fun m hm => ⟨(h.map m hm).1, (h.map m hm).2.kp hk (by have := (h.map m hm).1; omega)⟩⟩
theorem Q5.keep (h : Q5 n5 gq x ga gm X) (hb : Below X.heap.size X X') : Q5 n5 gq x ga gm X' := by
  refine ⟨h.blk.keep hb, fun g hg => ⟨(h.arr g hg).1, (h.arr g hg).2.keep hb⟩, fun m hm => ⟨(h.map m hm).1, ?_⟩⟩
  obtain ⟨es, clock, h1, rest⟩ := (h.map m hm).2
  exact ⟨es, clock, by rw [hb.block _ (Array.getElem?_eq_some_iff.1 h1).1]; exact h1, rest⟩
theorem Q5.slice (h : Q5 n5 gq x none gm X) (hn : n5 ≤ X.heap.size) : Q5 n5 gq x (some X.heap.size) gm (X.alloc (.cells sepC.toArray 9)) := by
  have h1 := h.keep ((Below.refl _ _).alloc (Nat.le_refl _) (.cells sepC.toArray 9))
  exact ⟨h1.blk, fun g hg => by cases hg; exact ⟨hn, Blk.new X _ _⟩, h1.map⟩
theorem Q5.made (h : Q5 n5 gq x ga none X) (hn : n5 ≤ X.heap.size) : Q5 n5 gq x ga (some (X.heap.size, 0, .map [])) (X.alloc (.map #[] 0)) := by
  have h1 := h.keep ((Below.refl _ _).alloc (Nat.le_refl _) (.map #[] 0))
  exact ⟨h1.blk, h1.arr, fun m hm => by cases hm; exact ⟨hn, Mp.made X⟩⟩
theorem Q5.ins {g n : Nat} {D : DataW Unit} (h : Q5 n5 gq x ga (some (g, n, D)) X) (hgq : gq < n5) (hn : n < 100) (k : Int) (hk : 0 ≤ k ∧ k ≤ 100) (s : ByteArray) (hs : s.size ≤ 100) :
    ∃ X', (Instr.mapUpdate 110 (.map (some g)) (.int .i64 k) (.string s)).run Tryd.prog X = .ok () X' ∧ Q5 n5 gq x ga (some (g, n + 1, D.put (.int .i64 k) (.lit (.string s.data.toList)))) X' ∧ Below n5 X X' := by
  obtain ⟨hg5, hmap⟩ := h.map _ rfl
  obtain ⟨X', h1, h2, h3⟩ := Mp.ins hmap hn k hk s hs
  simp only at hg5
  have kept : ∀ {j t : Nat} {cs : List Value}, Blk X j t cs → Blk X' j t cs := fun {j t cs} hj => by
    have hne : j ≠ g := by
      rintro rfl
      obtain ⟨es, clock, h4, _⟩ := hmap
      have hj' : X.heap[j]? = some (.cells cs.toArray t (0, 0)) := hj
      simp only at h4
      rw [hj'] at h4; cases h4
    exact (h3.block j hj.lt (by simpa using hne)).trans hj
  refine ⟨X', h1, ⟨kept h.blk, fun j hj => ⟨(h.arr j hj).1, kept (h.arr j hj).2⟩, fun m hm => by cases hm; exact ⟨hg5, h2⟩⟩, ?_⟩
  exact ⟨h3.os, h3.tape, h3.output, h3.size, fun j hj => by
    rcases Nat.lt_or_ge j X.heap.size with h4 | h4
    · exact h3.block j h4 (by simp; omega)
    · exfalso
      have := hmap.lt
      simp only at this
      omega⟩
/-- What the loads and the look-up of the statement lean on. -/
def S5 (gq : Nat) (x : Mat) (sa : Option (Nat × Nat × ByteArray)) (sm : Option (Nat × Int)) (X : World) : Prop :=
  X.cell? ⟨gq, 0, none⟩ = some (.int .i64 x.kind) ∧ X.cell? ⟨gq, 1, none⟩ = some (.string x.name) ∧ X.cell? ⟨gq, 2, none⟩ = some (.string x.text) ∧
    (∀ s, sa = some s → X.cell? ⟨s.1, s.2.1, none⟩ = some (.string s.2.2)) ∧
    (∀ s, sm = some s → (Instr.lookup 110 (.map (some s.1)) (.int .i64 s.2) false).run Tryd.prog X = .ok (.string ⟨(eqL s.2).toArray⟩) X)
theorem S5.of (h : Q5 n5 gq x ga gm X) (sa : Option (Nat × Nat × ByteArray)) (sm : Option (Nat × Int)) (hsa : ∀ s, sa = some s → ga = some s.1 ∧ sepC[s.2.1]? = some (.string s.2.2))
    (hsm : ∀ s, sm = some s → (s.2 = 1 ∨ s.2 = 2) ∧ ∃ n D, gm = some (s.1, n, D) ∧ (D = M12 ∨ D = M21)) : S5 gq x sa sm X :=
  ⟨h.blk.cell 0 _ rfl, h.blk.cell 1 _ rfl, h.blk.cell 2 _ rfl, fun s hs => (h.arr _ (hsa s hs).1).2.cell _ _ (hsa s hs).2, fun s hs => by
    obtain ⟨h1, n, D, h2, h3⟩ := hsm s hs
    exact (h.map _ h2).2.look h3 _ h1⟩
theorem S5.less {sa : Option (Nat × Nat × ByteArray)} {sm : Option (Nat × Int)} (sa' : Option (Nat × Nat × ByteArray)) (sm' : Option (Nat × Int)) (h1 : sa' = none ∨ sa' = sa) (h2 : sm' = none ∨ sm' = sm) (h : S5 gq x sa sm X) : S5 gq x sa' sm' X := by
  obtain ⟨a, b, c, d, e⟩ := h
  refine ⟨a, b, c, fun s hs => ?_, fun s hs => ?_⟩
  · rcases h1 with rfl | rfl
    · cases hs
    · exact d s hs
  · rcases h2 with rfl | rfl
    · cases hs
    · exact e s hs
end
end Go.Proofs.YtobelmipjanibaaDoor
