/- A map literal of two texts, an array of two texts, and a matcher's box, while a statement goes in whatever order. -/
import Derived.Test.YtdjdikiimhhjpaaGreatDoorK23
import Derived.Test.YtdjdikiimhhjpaaGreatDoorK20
import Derived.Maps.Own
import Derived.Maps.StringElems
import Derived.Deep.RegionHeld3
import Derived.Test.YtdjdikiimhhjpaaGreatDoorK24
import Derived.Test.YtdjdikiimhhjpaaGreatDoorK1
set_option maxRecDepth 100000
set_option maxHeartbeats 16000000
namespace Go.Proofs.YtdjdikiimhhjpaaGreatDoor
open Go.RowKit
set_option linter.unusedSimpArgs false
set_option linter.unusedVariables false
open Go.Maps
section
variable {P : Program} {md : Region.Mode} {ops : Array Oper} {Q : Exit → Act → World → Prop} {S S' : World → Prop}
theorem wpAnyH_more (hS : ∀ w, S' w → S w) : ∀ (fuel : Nat) (listed : Array Bool) (a : Act) (w : World), wpAnyH P md ops Q S' fuel listed a w → wpAnyH P md ops Q S fuel listed a w
  | 0, _, _, _, h => h
  | fuel + 1, _, _, _, h => ⟨h.1, fun i hi => wpOp_mono (fun a' w' h' => ⟨hS w' h'.1, wpAnyH_more hS fuel _ a' w' h'.2⟩) (h.2 i hi)⟩
end
def Mp (X : World) (g n : Nat) (D : DataW Unit) : Prop := X.ownsMap Tryz.prog 3 (plainElem (H := Unit) Tryz.prog 9) g n D
theorem keyI : Keyed Tryz.prog 3 := int_keyed Tryz.underlying3
theorem Mp.made (X : World) : Mp (X.alloc (.map #[] 0)) X.heap.size 0 (.map []) := World.ownsMap_made _ _ _ _
theorem Mp.kp {X X' : World} {g n b : Nat} {D : DataW Unit} (h : Mp X g n D) (hk : Kp b X X') (hne : g ≠ b) : Mp X' g n D := by
  obtain ⟨es, clock, hb, rest⟩ := h
  exact ⟨es, clock, hk g _ hb (by simpa using hne) (fun c fz e => by cases e), rest⟩
theorem Mp.ins {X : World} {g n : Nat} {D : DataW Unit} (h : Mp X g n D) (hn : n < 100) (k : Int) (hk : 0 ≤ k ∧ k ≤ 100) (s : ByteArray) (hs : s.size ≤ 100) :
    ∃ X', (Instr.mapUpdate 120 (.map (some g)) (.int .i64 k) (.string s)).run Tryz.prog X = .ok () X' ∧ Mp X' g (n + 1) (D.put (.int .i64 k) (.lit (.string s.data.toList))) ∧ X.grownBy X' (some g) :=
  World.ownsMap.update h keyI Tryz.underlying120 (by unfold maxLen; omega) (keyOf_int_mk Tryz.underlying3 (by simp [Lit.wf, IntKind.min, IntKind.max, IntKind.signed, IntKind.bits]; omega)) (plainElem_string Tryz.underlying9 (by unfold maxLen; omega))
def M12 : DataW Unit := ((DataW.map []).put (.int .i64 1) (.lit (.string [61]))).put (.int .i64 2) (.lit (.string [33, 61]))
def M21 : DataW Unit := ((DataW.map []).put (.int .i64 2) (.lit (.string [33, 61]))).put (.int .i64 1) (.lit (.string [61]))
theorem M_at (D : DataW Unit) (hD : D = M12 ∨ D = M21) (k : Int) (hk : k = 1 ∨ k = 2) : D.atKey (.int .i64 k) (.lit (.string [])) = .lit (.string (eqL k)) := by
  rcases hD with rfl | rfl <;> rcases hk with rfl | rfl <;> rfl
theorem Mp.look {X : World} {g n : Nat} {D : DataW Unit} (h : Mp X g n D) (hD : D = M12 ∨ D = M21) (k : Int) (hk : k = 1 ∨ k = 2) :
    (Instr.lookup 120 (.map (some g)) (.int .i64 k) false).run Tryz.prog X = .ok (.string ⟨(eqL k).toArray⟩) X := by
  have hz : (zeroValue 9).run Tryz.prog X = .ok (.string ⟨#[]⟩) X := by kernel_rfl
  obtain ⟨v, ps, hrun, hR⟩ := World.ownsMap.lookup h keyI Tryz.underlying120 hz (zd := .lit (.string [])) (zp := []) (plainElem_string Tryz.underlying9 (by decide)) (kl := .int .i64 k)
    (keyOf_int_mk Tryz.underlying3 (by rcases hk with rfl | rfl <;> decide))
  obtain ⟨s, rfl, hz2, _⟩ := plainElem_string_inv Tryz.underlying9 hR
  rw [M_at D hD k hk] at hz2
  simp only [Prod.mk.injEq, DataW.lit.injEq, Lit.string.injEq] at hz2
  rw [hrun, hz2.1]
def sepC : List Value := [.string ⟨#[123]⟩, .string ⟨#[44, 32]⟩]
structure Q5 (n5 gq : Nat) (x : Mat) (ga : Option Nat) (gm : Option (Nat × Nat × DataW Unit)) (X : World) : Prop where
  blk : Blk X gq 77 x.cells
  arr : ∀ g, ga = some g → n5 ≤ g ∧ Blk X g 9 sepC
  map : ∀ m, gm = some m → n5 ≤ m.1 ∧ Mp X m.1 m.2.1 m.2.2
section
variable {n5 gq b : Nat} {x : Mat} {ga : Option Nat} {gm : Option (Nat × Nat × DataW Unit)} {X X' : World}
theorem Q5.kp (h : Q5 n5 gq x ga gm X) (hk : Kp b X X') (hgq : gq ≠ b) (hb : b < n5) : Q5 n5 gq x ga gm X' :=
  ⟨h.blk.kp hk hgq (by decide), fun g hg => ⟨(h.arr g hg).1, (h.arr g hg).2.kp hk (by have := (h.arr g hg).1; omega) (by decide)⟩, fun m hm => ⟨(h.map m hm).1, (h.map m hm).2.kp hk (by have := (h.map m hm).1; omega)⟩⟩
theorem Q5.keep (h : Q5 n5 gq x ga gm X) (hb : Below X.heap.size X X') : Q5 n5 gq x ga gm X' := by
  refine ⟨h.blk.keep hb, fun g hg => ⟨(h.arr g hg).1, (h.arr g hg).2.keep hb⟩, fun m hm => ⟨(h.map m hm).1, ?_⟩⟩
  obtain ⟨es, clock, h1, rest⟩ := (h.map m hm).2
  exact ⟨es, clock, by rw [hb.block _ (Array.getElem?_eq_some_iff.1 h1).1]; exact h1, rest⟩
theorem Q5.slice (h : Q5 n5 gq x none gm X) (hn : n5 ≤ X.heap.size) : Q5 n5 gq x (some X.heap.size) gm (X.alloc (.cells sepC.toArray 9)) := by
  have h1 := h.keep ((Below.refl _ _).alloc (Nat.le_refl _) (.cells sepC.toArray 9))
  exact ⟨h1.blk, fun g hg => by cases hg; exact ⟨hn, Blk.new X _ _⟩, h1.map⟩
theorem Q5.made (h : Q5 n5 gq x ga none X) (hn : n5 ≤ X.heap.size) : Q5 n5 gq x ga (some (X.heap.size, 0, .map [])) (X.alloc (.map #[] 0)) := by
  have h1 := h.keep ((Below.refl _ _).alloc (Nat.le_refl _) (.map #[] 0))
  exact ⟨h1.blk, h1.arr, fun m hm => by cases hm; exact ⟨hn, Mp.made X⟩⟩
theorem Q5.ins {g n : Nat} {D : DataW Unit} (h : Q5 n5 gq x ga (some (g, n, D)) X) (hgq : gq < n5) (hn : n < 100) (k : Int) (hk : 0 ≤ k ∧ k ≤ 100) (s : ByteArray) (hs : s.size ≤ 100) :
    ∃ X', (Instr.mapUpdate 120 (.map (some g)) (.int .i64 k) (.string s)).run Tryz.prog X = .ok () X' ∧ Q5 n5 gq x ga (some (g, n + 1, D.put (.int .i64 k) (.lit (.string s.data.toList)))) X' ∧ Below n5 X X' := by
  obtain ⟨hg5, hmap⟩ := h.map _ rfl
  obtain ⟨X', h1, h2, h3⟩ := Mp.ins hmap hn k hk s hs
  simp only at hg5
  have kept : ∀ {j t : Nat} {cs : List Value}, Blk X j t cs → Blk X' j t cs := fun {j t cs} hj => by
    have hne : j ≠ g := by
      rintro rfl; obtain ⟨es, clock, h4, _⟩ := hmap; have hj' : X.heap[j]? = some (.cells cs.toArray t (0, 0)) := hj; simp only at h4; rw [hj'] at h4; cases h4
    exact (h3.block j hj.lt (by simpa using hne)).trans hj
  refine ⟨X', h1, ⟨kept h.blk, fun j hj => ⟨(h.arr j hj).1, kept (h.arr j hj).2⟩, fun m hm => by cases hm; exact ⟨hg5, h2⟩⟩, ?_⟩
  exact ⟨h3.os, h3.tape, h3.output, h3.size, fun j hj => by
    rcases Nat.lt_or_ge j X.heap.size with h4 | h4
    · exact h3.block j h4 (by simp; omega)
    · exfalso
      have := hmap.lt; simp only at this; omega⟩
def S5 (gq : Nat) (x : Mat) (sa : Option (Nat × Nat × ByteArray)) (sm : Option (Nat × Int)) (X : World) : Prop :=
  X.cell? ⟨gq, 0, none⟩ = some (.int .i64 x.kind) ∧ X.cell? ⟨gq, 1, none⟩ = some (.string x.name) ∧ X.cell? ⟨gq, 2, none⟩ = some (.string x.text) ∧
    (∀ s, sa = some s → X.cell? ⟨s.1, s.2.1, none⟩ = some (.string s.2.2)) ∧
    (∀ s, sm = some s → (Instr.lookup 120 (.map (some s.1)) (.int .i64 s.2) false).run Tryz.prog X = .ok (.string ⟨(eqL s.2).toArray⟩) X)
theorem S5.of (h : Q5 n5 gq x ga gm X) (sa : Option (Nat × Nat × ByteArray)) (sm : Option (Nat × Int)) (hsa : ∀ s, sa = some s → ga = some s.1 ∧ sepC[s.2.1]? = some (.string s.2.2))
    (hsm : ∀ s, sm = some s → (s.2 = 1 ∨ s.2 = 2) ∧ ∃ n D, gm = some (s.1, n, D) ∧ (D = M12 ∨ D = M21)) : S5 gq x sa sm X :=
  ⟨h.blk.cell 0 _ rfl, h.blk.cell 1 _ rfl, h.blk.cell 2 _ rfl, fun s hs => (h.arr _ (hsa s hs).1).2.cell _ _ (hsa s hs).2, fun s hs => by
    obtain ⟨h1, n, D, h2, h3⟩ := hsm s hs; exact (h.map _ h2).2.look h3 _ h1⟩
theorem S5.less {sa : Option (Nat × Nat × ByteArray)} {sm : Option (Nat × Int)} (sa' : Option (Nat × Nat × ByteArray)) (sm' : Option (Nat × Int)) (h1 : sa' = none ∨ sa' = sa) (h2 : sm' = none ∨ sm' = sm) (h : S5 gq x sa sm X) : S5 gq x sa' sm' X := by
  obtain ⟨a, b, c, d, e⟩ := h
  refine ⟨a, b, c, fun s hs => ?_, fun s hs => ?_⟩
  · rcases h1 with rfl | rfl
    · cases hs
    · exact d s hs
  · rcases h2 with rfl | rfl
    · cases hs
    · exact e s hs
end
end Go.Proofs.YtdjdikiimhhjpaaGreatDoor
namespace Go.Proofs.YtdjdikiimhhjpaaGreatDoor
open Go.RowKit
set_option linter.unusedSimpArgs false
set_option linter.unusedVariables false
structure St (B b : Nat) (W : World) (l : List UInt8) (X : World) : Prop where
  bld : Bld B b l X
  bel : Below B W X
  kp : Kp b W X
section
variable {B b : Nat} {W X : World} {l : List UInt8}
theorem St.start (h : Bld B b l W) : St B b W l W := ⟨h, Below.refl _ _, Kp.refl _ _⟩
theorem St.size (h : St B b W l X) (hB : B ≤ W.heap.size) : B ≤ X.heap.size := Nat.le_trans hB h.bel.size
theorem St.keep {X' : World} (h : St B b W l X) (hB : B ≤ W.heap.size) (hb : Below X.heap.size X X') : St B b W l X' := ⟨h.bld.keep hb, h.bel.trans (hb.mono (h.size hB)), h.kp.trans (Kp.of hb)⟩
theorem St.alloc (h : St B b W l X) (hB : B ≤ W.heap.size) (o : Obj) : St B b W l (X.alloc o) := h.keep hB ((Below.refl _ _).alloc (Nat.le_refl _) _)
theorem St.drew (h : St B b W l X) : St B b W l X.drew := ⟨h.bld, h.bel.trans (Below.drew (Below.refl _ _)), h.kp⟩
theorem St.write {xs : List ByteArray} (h : St B b W l X) (hB : B ≤ W.heap.size) (cs : Array Value) (hcs : cs = (xs.map Value.string).toArray) (k : Nat) (hk : xs.length = k) (hl : l.length + (catL xs).length ≤ 1000000000) (hx : k ≤ 1000) (g : Nat) (hg : g = X.heap.size) :
    Calls Tryz.prog 66 #[.pointer (some ⟨b, 0, none⟩), .slice (some ⟨g, 0, none⟩) k k] (X.alloc (.cells cs 9)) fun e w' => e = .returned (.tuple #[]) ∧ St B b W (l ++ catL xs) w' := by
  subst hk hcs hg
  have h1 := h.alloc hB (.cells (xs.map Value.string).toArray 9)
  exact (sWrite xs X.heap.size B b l _ h1.bld (Blk.new X _ _) (h1.size hB) hl hx).mono fun e w' ⟨e1, e2, e3, e4⟩ => ⟨e1, e2, h1.bel.trans e3, h1.kp.trans e4⟩
theorem St.write2 {xs : List ByteArray} (h : St B b W l X) (hB : B ≤ W.heap.size) (cs : Array Value) (hcs : cs = (xs.map Value.string).toArray) (k : Nat) (hk : xs.length = k) (hl : l.length + (catL xs).length ≤ 1000000000) (hx : k ≤ 1000) (g : Nat) (hg : g = X.heap.size) :
    Calls Tryz.prog 66 #[.pointer (some ⟨b, 0, none⟩), .slice (some ⟨g, 0, none⟩) k k] (X.alloc (.cells cs 9)) fun e w' => e = .returned (.tuple #[]) ∧ St B b W (l ++ catL xs) w' ∧ Kp b (X.alloc (.cells cs 9)) w' := by
  subst hk hcs hg
  have h1 := h.alloc hB (.cells (xs.map Value.string).toArray 9)
  exact (sWrite xs X.heap.size B b l _ h1.bld (Blk.new X _ _) (h1.size hB) hl hx).mono fun e w' ⟨e1, e2, e3, e4⟩ => ⟨e1, ⟨e2, h1.bel.trans e3, h1.kp.trans e4⟩, e4⟩
theorem St.other {Y : World} {l' : List UInt8} (h : St B b W l X) (h2 : St B b X l' Y) : St B b W l' Y := ⟨h2.bld, h.bel.trans h2.bel, h.kp.trans h2.kp⟩
end
theorem catL_one (a : ByteArray) : catL [a] = a.data.toList := by simp [catL]
theorem matsUp_le (l : List Mat) (k : Nat) : (matsUp (l.take k)).length ≤ (matsUp l).length := by
  cases l with
  | nil => simp
  | cons m r =>
    cases k with
    | zero => simp [matsUp]
    | succ k =>
      have e : matsTail r = matsTail (r.take k) ++ matsTail (r.drop k) := by unfold matsTail; rw [← List.flatMap_append, List.take_append_drop]
      simp only [List.take_succ_cons, matsUp, e, List.length_append]; omega
theorem sep_ex (k : Nat) (x : Mat) : ∃ mi sep, min (k : Int) 1 = (mi : Nat) ∧ (mi : Int) < 2 ∧ sepC[mi]? = some (.string sep) ∧ matL (decide (k = 0)) x = catL [sep, x.name, ⟨(eqL x.kind).toArray⟩, ⟨(quoteL x.text.data.toList).toArray⟩] := by
  by_cases h : k = 0
  · subst h
    exact ⟨0, ⟨#[123]⟩, rfl, by omega, rfl, by simp [matL, catL]⟩
  · exact ⟨1, ⟨#[44, 32]⟩, by omega, by omega, rfl, by simp [matL, catL, h]⟩
theorem sWindow (e : Ex) (cs : List Value) (n B b : Nat) (l : List UInt8) (W : World) (he : IsEx n W e cs) (hn : n ≤ B) (hb : Bld B b l W) (hB : B ≤ W.heap.size) (hT : TB B W) (hm : checkMats e.mats = 0) (hsp : 1 ≤ e.span ∧ e.span ≤ 1073741824)
    (hl : l.length + (windowL e.kind e.fn e.metric e.mats e.span).length ≤ 1000000000) :
    Calls Tryz.prog 65 #[.pointer (some ⟨b, 0, none⟩), .agg cs.toArray] W fun e' w' => e' = .returned (.tuple #[]) ∧ St B b W (l ++ windowL e.kind e.fn e.metric e.mats e.span) w' := by
  obtain ⟨pm, cm, pn, cn, pk, ck, rfl, hes, hma, -, -⟩ := he.cellsE
  have HMa := Lib.hid hma; clear hma
  have HL := Lib.hid hl; clear hl
  have He := Lib.hid he; clear he
  have HW0 := Lib.hid (St.start hb); clear hb
  go_enter Tryz.func65, Tryz.ntmps65; (try simp only [List.append_eq, List.cons_append, List.nil_append])
  go_upto_region 1 with fail
  have hblk := Blk.new W [.int .i64 e.kind, .int .i64 e.fn, .int .i64 e.op, .int .i64 e.num, .string e.metric, .slice pm e.mats.length cm, .int .i64 e.span, .slice pn e.names.length cn, .slice pk e.kids.length ck] 37
  have hst := HW0.out.alloc hB (.cells [.int .i64 e.kind, .int .i64 e.fn, .int .i64 e.op, .int .i64 e.num, .string e.metric, .slice pm e.mats.length cm, .int .i64 e.span, .slice pn e.names.length cn, .slice pk e.kids.length ck].toArray 37)
  have hT1 := hT.on (hst.bel)
  have HIn := Lib.hid (HMa.out.mono (hst.bel.mono hn) (Nat.le_refl _))
  obtain ⟨W1, hW1⟩ : ∃ W1, W.alloc (.cells [.int .i64 e.kind, .int .i64 e.fn, .int .i64 e.op, .int .i64 e.num, .string e.metric, .slice pm e.mats.length cm, .int .i64 e.span, .slice pn e.names.length cn, .slice pk e.kids.length ck].toArray 37) = W1 := ⟨_, rfl⟩
  rw [hW1] at hblk hst hT1 HIn
  have hW1' : W.alloc (.cells #[.int .i64 e.kind, .int .i64 e.fn, .int .i64 e.op, .int .i64 e.num, .string e.metric, .slice pm e.mats.length cm, .int .i64 e.span, .slice pn e.names.length cn, .slice pk e.kids.length ck] 37) = W1 := hW1
  rw [hW1']
  have hB1 : B ≤ W1.heap.size := hst.size hB
  have gne : W.heap.size ≠ b := hst.bld.ne hblk (by decide)
  have HS0 := Lib.hid hst; clear hst
  have HT := Lib.hid hT1; clear hT1 hT
  have HBk := Lib.hid hblk; clear hblk hW1 hW1'
  have HC := Lib.hid (fun (l' : List UInt8) (X : World) (h : St B b W1 l' X) => show X.cell? ⟨W.heap.size, 0, none⟩ = some (.int .i64 e.kind) ∧ X.cell? ⟨W.heap.size, 1, none⟩ = some (.int .i64 e.fn) ∧ X.cell? ⟨W.heap.size, 2, none⟩ = some (.int .i64 e.op) ∧ X.cell? ⟨W.heap.size, 3, none⟩ = some (.int .i64 e.num) ∧ X.cell? ⟨W.heap.size, 4, none⟩ = some (.string e.metric) ∧ X.cell? ⟨W.heap.size, 5, none⟩ = some (.slice pm e.mats.length cm) ∧ X.cell? ⟨W.heap.size, 6, none⟩ = some (.int .i64 e.span) ∧ X.cell? ⟨W.heap.size, 7, none⟩ = some (.slice pn e.names.length cn) ∧ X.cell? ⟨W.heap.size, 8, none⟩ = some (.slice pk e.kids.length ck) from
    have q := HBk.out.kp h.kp gne (by decide)
    ⟨q.cell 0 _ rfl, q.cell 1 _ rfl, q.cell 2 _ rfl, q.cell 3 _ rfl, q.cell 4 _ rfl, q.cell 5 _ rfl, q.cell 6 _ rfl, q.cell 7 _ rfl, q.cell 8 _ rfl⟩)
  have CWord := Lib.hid (fun (l' : List UInt8) (X : World) (h : St B b W1 l' X) => show Calls Tryz.prog 67 #[.int .i64 e.kind, .int .i64 e.fn] X (fun e' w' => e' = .returned (.string ⟨(wordL e.kind e.fn).toArray⟩) ∧ St B b W1 l' w') from
    (sWord e.kind e.fn X).mono fun e' w' ⟨h1, h2⟩ => ⟨h1, h.keep hB1 h2⟩)
  have CWr := Lib.hid (fun (X : World) (h : St B b W1 l X) => show Calls Tryz.prog 66 #[.pointer (some ⟨b, 0, none⟩), .slice (some ⟨X.heap.size, 0, none⟩) 3 3] (X.alloc (.cells #[.string ⟨(wordL e.kind e.fn).toArray⟩, .string ⟨#[40]⟩, .string e.metric] 9))
      (fun e' w' => e' = .returned (.tuple #[]) ∧ St B b W1 (l ++ catL [⟨(wordL e.kind e.fn).toArray⟩, ⟨#[40]⟩, e.metric]) w') from
    h.write (xs := [⟨(wordL e.kind e.fn).toArray⟩, ⟨#[40]⟩, e.metric]) hB1 _ rfl 3 rfl (by have := HL.out; simp [catL, windowL] at *; omega) (by decide) _ rfl)
  have hst0 : St B b W1 l W1.drew := (St.start HS0.out.bld).drew
  have hc0 := HC.out _ _ hst0
  go_region_held3 (fun X => X.cell? ⟨W.heap.size, 0, none⟩ = some (.int .i64 e.kind) ∧ X.cell? ⟨W.heap.size, 1, none⟩ = some (.int .i64 e.fn) ∧ X.cell? ⟨W.heap.size, 2, none⟩ = some (.int .i64 e.op) ∧ X.cell? ⟨W.heap.size, 3, none⟩ = some (.int .i64 e.num) ∧ X.cell? ⟨W.heap.size, 4, none⟩ = some (.string e.metric) ∧ X.cell? ⟨W.heap.size, 5, none⟩ = some (.slice pm e.mats.length cm) ∧ X.cell? ⟨W.heap.size, 6, none⟩ = some (.int .i64 e.span) ∧ X.cell? ⟨W.heap.size, 7, none⟩ = some (.slice pn e.names.length cn) ∧ X.cell? ⟨W.heap.size, 8, none⟩ = some (.slice pk e.kids.length ck)) (first | exact HC.out _ _ (by assumption) | exact HC.out _ _ (St.alloc (by assumption) hB1 _) | (trace_state; fail))
    (first
      | (go_at_call 67; refine (CWord.out _ _ (by assumption)).mono ?_; rintro e' w' ⟨rfl, hst1⟩)
      | (go_at_call 66; refine (CWr.out _ (by assumption)).mono ?_; rintro e' w' ⟨rfl, hst2⟩)
      | fail)
  have hc2 := HC.out _ _ hst2
  have HS2 := Lib.hid hst2; clear hst2 hst1 hst0
  have hlm : e.mats.length ≤ 8 := by
    rcases Nat.lt_or_ge 8 e.mats.length with h | h
    · rw [checkMats_long h] at hm; cases hm
    · exact h
  obtain ⟨L, hL⟩ : ∃ L, l ++ catL [⟨(wordL e.kind e.fn).toArray⟩, ⟨#[40]⟩, e.metric] = L := ⟨_, rfl⟩
  rw [hL] at HS2
  go_upto_region 3 with fail
  clear hc2 hc0
  go_loopw [19] (fun i wr => ∃ k : Nat, k ≤ e.mats.length ∧ i = .int .i64 k ∧ St B b W1 (L ++ matsUp (e.mats.take k)) wr) (fun i _ => e.mats.length - (intOf i).toNat)
  case atStart => exact ⟨0, Nat.zero_le _, rfl, by simpa [matsUp] using HS2.out⟩
  case round =>
    obtain ⟨k, hk, rfl, hst⟩ := hrel; have hc := HC.out _ _ hst
    by_cases hlt : k < e.mats.length
    · obtain ⟨q0, o0, rfl, hq0, m0, m1, m2, ms0, ms1⟩ := (HIn.out.mono (hst.bel.mono hn) (Nat.le_refl _)).get hlt
      have HS := Lib.hid hst; clear hst; have hmb : matB e.mats[k] = true := by
        have ha : e.mats.all matB = true := by
          cases h : e.mats.all matB with
          | true => rfl
          | false => exfalso; simp [checkMats, h, Nat.not_lt.2 hlm] at hm
        exact List.all_eq_true.1 ha _ (List.getElem_mem hlt)
      have Hst := Lib.hid (matsUp_step e.mats k hlt); have hle := matsUp_le e.mats (k + 1); have Hle := Lib.hid hle; clear hle; generalize e.mats[k] = x at *; have hxk : x.kind = 1 ∨ x.kind = 2 := by simp only [matB, Bool.and_eq_true, Bool.or_eq_true, beq_iff_eq] at hmb; exact hmb.1.1
      have hx64 : x.text.size ≤ 64 := by simp only [matB, Bool.and_eq_true, decide_eq_true_eq] at hmb; exact hmb.2
      obtain ⟨mi, sep, hmin, hmi2, hsepc, hmat⟩ := sep_ex k x; rw [hmat] at Hst; clear hmat hmb; have hlen : (L ++ matsUp (e.mats.take k)).length + (catL [sep, x.name, ⟨(eqL x.kind).toArray⟩, ⟨(quoteL x.text.data.toList).toArray⟩]).length ≤ 1000000000 := by
        have h1 := HL.out; have h2 := Hle.out; rw [Hst.out] at h2; have h3 : L.length = l.length + (wordL e.kind e.fn).length + 1 + e.metric.data.toList.length := by rw [← hL]; simp [catL]; omega
        have h4 : (matsUp e.mats).length ≤ (matsL e.mats).length := by unfold matsL; split <;> rename_i h <;> simp [h, matsUp]
        unfold windowL at h1; simp only [List.length_append, List.length_cons, List.length_nil] at h1 h2 ⊢; omega
      have Hlen := Lib.hid hlen; clear hlen; have HEnd := Lib.hid (fun (Z : World) (h : St B b W1 (L ++ matsUp (e.mats.take k) ++ catL [sep, x.name, ⟨(eqL x.kind).toArray⟩, ⟨(quoteL x.text.data.toList).toArray⟩]) Z) => show St B b W1 (L ++ matsUp (e.mats.take (k + 1))) Z from by rw [Hst.out, ← List.append_assoc]; exact h)
      go_upto_region 5 with fail
      have hblk3 := Blk.new wr x.cells 77; have hst3 := HS.out.alloc hB1 (.cells x.cells.toArray 77); obtain ⟨W3, hW3⟩ : ∃ W3, wr.alloc (.cells x.cells.toArray 77) = W3 := ⟨_, rfl⟩; have hgq5 : wr.heap.size < W3.heap.size := by rw [← hW3]; simp
      rw [hW3] at hblk3 hst3; have hW3' : wr.alloc (.cells #[.int .i64 x.kind, .string x.name, .string x.text] 77) = W3 := hW3; rw [hW3']; have gq5 : wr.heap.size ≠ b := hst3.bld.ne hblk3 (by decide); have hb5 : b < W3.heap.size := hst3.bld.lt; have hB3 : B ≤ W3.heap.size := hst3.size hB1; have HS3 := Lib.hid hst3; clear hst3 hW3 hW3' hc; have hq : Q5 W3.heap.size wr.heap.size x none none W3.drew := ⟨hblk3, fun g hg => (by cases hg), fun g hg => (by cases hg)⟩; have hb : Below W3.heap.size W3 W3.drew := Below.drew (Below.refl _ _); have CQ := Lib.hid (fun (X : World) => lQuote x.text X (by omega)); have CW := Lib.hid (fun (X : World) (h : Below W3.heap.size W3 X) => show Calls Tryz.prog 66 #[.pointer (some ⟨b, 0, none⟩), .slice (some ⟨X.heap.size, 0, none⟩) 4 4] (X.alloc (.cells #[.string sep, .string x.name, .string ⟨(eqL x.kind).toArray⟩, .string ⟨(quoteL x.text.data.toList).toArray⟩] 9))
          (fun e' w' => e' = .returned (.tuple #[]) ∧ St B b W1 (L ++ matsUp (e.mats.take k) ++ catL [sep, x.name, ⟨(eqL x.kind).toArray⟩, ⟨(quoteL x.text.data.toList).toArray⟩]) w' ∧ Kp b (X.alloc (.cells #[.string sep, .string x.name, .string ⟨(eqL x.kind).toArray⟩, .string ⟨(quoteL x.text.data.toList).toArray⟩] 9)) w') from
        (HS3.out.keep hB1 h).write2 (xs := [sep, x.name, ⟨(eqL x.kind).toArray⟩, ⟨(quoteL x.text.data.toList).toArray⟩]) hB1 _ rfl 4 rfl Hlen.out (by decide) _ rfl)
      clear hblk3; refine wp_region_held_drew (S := S5 wr.heap.size x none none) (by kernel_rfl) ?_ (fun hHeld => ?_)
      · exact S5.of hq none none (by simp) (by simp)
      generalize W3.drew = X0 at hq hb hHeld ⊢
      (refine htk 0 24 ?_ rfl ?_ ?_; rotate_left; (intro w hSw; clear hSw; go_simp); (try with_reducible rfl); simp only [lsz, lss])
      (refine htk 2 26 ?_ rfl ?_ ?_; rotate_left; (intro w hSw; clear hSw; go_simp); (try with_reducible rfl); simp only [lsz, lss])
      (refine htk 3 27 (.int .i64 mi) rfl ?_ ?_; (intro w hSw; clear hSw; go_simp); simp only [lsz, lss])
      (refine htk 6 30 ?_ rfl ?_ ?_; rotate_left; (intro w hSw; clear hSw; go_simp); (try with_reducible rfl); simp only [lsz, lss])
      (refine htk 7 31 (.string x.name) rfl ?_ ?_; (intro w hSw; obtain ⟨g0, g1, g2, -, -⟩ := hSw; go_simp); simp only [lsz, lss])
      (refine htk 12 34 ?_ rfl ?_ ?_; rotate_left; (intro w hSw; clear hSw; go_simp); (try with_reducible rfl); simp only [lsz, lss])
      (refine htk 13 35 (.int .i64 x.kind) rfl ?_ ?_; (intro w hSw; obtain ⟨g0, g1, g2, -, -⟩ := hSw; go_simp); simp only [lsz, lss])
      (refine htk 15 37 ?_ rfl ?_ ?_; rotate_left; (intro w hSw; clear hSw; go_simp); (try with_reducible rfl); simp only [lsz, lss])
      (refine htk 16 38 (.string x.text) rfl ?_ ?_; (intro w hSw; obtain ⟨g0, g1, g2, -, -⟩ := hSw; go_simp); simp only [lsz, lss])
      refine wpAnyH_ready (rs := [1, 8, 17]) (by kernel_rfl) (by simp) (.cons rfl (fun K hK => ?_) (.cons rfl (fun K hK => ?_) (.cons rfl (fun K hK => ?_) .nil)))
      · rw [if_pos (by kernel_rfl)]
        go_simp
        have hq1 := Q5.slice hq (hb.size); have hb1 := hb.alloc hb.size (.cells sepC.toArray 9); refine hK.out _ _ (S5.of hq1 none none (by simp) (by first | (simp; done) | exact hsmP)) (fun hHeld' => ?_); clear hK K hHeld hHeld'
        (try simp only [Act.put, lsa, lsz, lss])
        have hga : ∃ g2, X0.heap.size = g2 := ⟨_, rfl⟩; obtain ⟨g2, hg2⟩ := hga; obtain ⟨X1, hX1⟩ : ∃ Y, X0.alloc (.cells sepC.toArray 9) = Y := ⟨_, rfl⟩; rw [hX1, hg2] at hq1; rw [hX1] at hb1; have hX1' : X0.alloc (.cells #[.string ⟨#[123]⟩, .string ⟨#[44, 32]⟩] 9) = X1 := hX1
        first | rw [hX1', hg2] | rw [hX1, hg2]
        clear hX1 hX1' hg2 hq hb; have hq := hq1; have hb := hb1; clear hq1 hb1; have hsaP : ∀ s, (some (g2, mi, sep)) = some s → some g2 = some s.1 ∧ sepC[s.2.1]? = some (.string s.2.2) := fun s hs => by cases hs; exact ⟨rfl, hsepc⟩
        refine wpAnyH_more (S' := S5 wr.heap.size x (some (g2, mi, sep)) none) (fun w h => S5.less none none (.inl rfl) (.inr rfl) h) _ _ _ _ ?_; have hHeld := S5.of hq (some (g2, mi, sep)) none hsaP (by first | (simp; done) | exact hsmP)
        (refine htk 4 28 ?_ rfl ?_ ?_; rotate_left; (intro w hSw; clear hSw; go_simp); (try with_reducible rfl); simp only [lsz, lss])
        (refine htk 5 29 (.string sep) rfl ?_ ?_; (intro w hSw; obtain ⟨-, -, -, g3, -⟩ := hSw; have g3 := g3 _ rfl; simp only at g3; go_simp); simp only [lsz, lss])
        refine wpAnyH_ready (rs := [8, 17]) (by kernel_rfl) (by simp) (.cons rfl (fun K hK => ?_) (.cons rfl (fun K hK => ?_) .nil))
        · rw [if_pos (by kernel_rfl)]
          go_simp
          have hq2 := Q5.made hq hb.size; have hb2 := hb.alloc hb.size (.map #[] 0); refine hK.out _ _ (S5.of hq2 (some (g2, mi, sep)) none (by first | (simp; done) | exact hsaP) (by simp)) (fun hHeld' => ?_); clear hK K hHeld hHeld'
          (try simp only [Act.put, lsa, lsz, lss])
          have hga : ∃ gm, X1.heap.size = gm := ⟨_, rfl⟩; obtain ⟨gm, hgm⟩ := hga; obtain ⟨X2, hX2⟩ : ∃ Y, X1.alloc (.map #[] 0) = Y := ⟨_, rfl⟩; rw [hX2, hgm] at hq2; rw [hX2] at hb2
          first | rw [show ({ heap := X1.heap.push (Obj.map #[] 0), tape := X1.tape, drawn := X1.drawn, os := X1.os, output := X1.output } : World) = X2 from hX2, hgm] | rw [hX2, hgm]
          clear hX2 hgm hq hb; have hq := hq2; have hb := hb2; clear hq2 hb2; have hHeld := S5.of hq (some (g2, mi, sep)) none (by first | (simp; done) | exact hsaP) (by simp); refine wpAnyH_ready (rs := [9, 10, 17]) (by kernel_rfl) (by simp) (.cons rfl (fun K hK => ?_) (.cons rfl (fun K hK => ?_) (.cons rfl (fun K hK => ?_) .nil)))
          · rw [if_pos (by kernel_rfl)]
            obtain ⟨X3, hrun, hq3, hbi⟩ := Q5.ins hq hgq5 (by decide) 1 (by decide) ⟨#[61]⟩ (by decide); have hb3 := hb.trans hbi
            go_simp
            refine hK.out _ _ (S5.of hq3 (some (g2, mi, sep)) none (by first | (simp; done) | exact hsaP) (by simp)) (fun hHeld' => ?_); clear hK K hHeld hHeld' hrun hbi hq hb
            (try simp only [Act.put, lsa, lsz, lss])
            have hq := hq3; have hb := hb3; clear hq3 hb3; have hHeld := S5.of hq (some (g2, mi, sep)) none (by first | (simp; done) | exact hsaP) (by simp); refine wpAnyH_ready (rs := [10, 17]) (by kernel_rfl) (by simp) (.cons rfl (fun K hK => ?_) (.cons rfl (fun K hK => ?_) .nil))
            · rw [if_pos (by kernel_rfl)]
              obtain ⟨X4, hrun, hq4, hbi⟩ := Q5.ins hq hgq5 (by decide) 2 (by decide) ⟨#[33, 61]⟩ (by decide); have hb4 := hb.trans hbi
              go_simp
              refine hK.out _ _ (S5.of hq4 (some (g2, mi, sep)) none (by first | (simp; done) | exact hsaP) (by simp)) (fun hHeld' => ?_); clear hK K hHeld hHeld' hrun hbi hq hb
              (try simp only [Act.put, lsa, lsz, lss])
              have hq := hq4; have hb := hb4; clear hq4 hb4; have hsmP : ∀ s, (some (gm, x.kind)) = some s → (s.2 = 1 ∨ s.2 = 2) ∧ ∃ n D, some (gm, 2, M12) = some (s.1, n, D) ∧ (D = M12 ∨ D = M21) := fun s hs => by cases hs; exact ⟨hxk, 2, M12, rfl, .inl rfl⟩
              have hq := show Q5 W3.heap.size wr.heap.size x _ (some (gm, 2, M12)) X4 from hq; refine wpAnyH_more (S' := S5 wr.heap.size x (some (g2, mi, sep)) (some (gm, x.kind))) (fun w h => S5.less (some (g2, mi, sep)) none (.inr rfl) (.inl rfl) h) _ _ _ _ ?_; have hHeld := S5.of hq (some (g2, mi, sep)) (some (gm, x.kind)) (by first | (simp; done) | exact hsaP) hsmP
              (refine htk 11 33 ?_ rfl ?_ ?_; rotate_left; (intro w hSw; clear hSw; go_simp); (try with_reducible rfl); simp only [lsz, lss])
              (refine htk 14 36 (.string ⟨(eqL x.kind).toArray⟩) rfl ?_ ?_; (intro w hSw; obtain ⟨-, -, -, -, g4⟩ := hSw; have g4 := g4 _ rfl; simp only at g4; go_simp); simp only [lsz, lss])
              refine hrd 17 rfl (fun K hK => ?_)
              · rw [if_pos (by kernel_rfl)]
                go_simp
                refine (CQ.out X4).mono ?_; rintro e' X5 ⟨rfl, hbq⟩; have hq5 := hq.keep hbq; have hb5 := hb.trans (hbq.mono hb.size)
                dsimp only
                refine hK.out _ _ (S5.of hq5 (some (g2, mi, sep)) (some (gm, x.kind)) (by first | (simp; done) | exact hsaP) (by first | (simp; done) | exact hsmP)) (fun hHeld' => ?_); clear hK K hHeld hHeld' hbq hq hb
                (try simp only [Act.put, lsa, lsz, lss])
                have hq := hq5; have hb := hb5; clear hq5 hb5; have hHeld := S5.of hq (some (g2, mi, sep)) (some (gm, x.kind)) (by first | (simp; done) | exact hsaP) (by first | (simp; done) | exact hsmP); refine hrd 18 rfl (fun K hK => ?_); rw [if_pos (by kernel_rfl)]
                go_simp
                have hqf := hq.keep ((Below.refl _ _).alloc (Nat.le_refl _) (.cells #[.string sep, .string x.name, .string ⟨(eqL x.kind).toArray⟩, .string ⟨(quoteL x.text.data.toList).toArray⟩] 9)); refine hK.out _ _ (S5.of hqf _ _ hsaP hsmP) (fun hHeld' => ?_); clear hK K hHeld
                (try simp only [Act.put, lsa, lsz, lss])
                refine hrd 19 rfl (fun K hK => ?_); rw [if_pos (by kernel_rfl)]
                go_simp
                refine (CW.out X5 hb).mono ?_; rintro e' Z ⟨rfl, hstZ, hkpZ⟩
                dsimp only
                refine hK.out _ _ (S5.of (hqf.kp hkpZ gq5 hb5) _ _ hsaP hsmP) (fun hHeld => ?_); clear hK K hHeld hHeld'; refine wpAnyH_done (by kernel_rfl) ?_ _
                all_goals go_wp2
                all_goals exact ⟨⟨k + 1, by omega, by go_num, HEnd.out _ hstZ⟩, by simp [intOf]; omega⟩
            · rw [if_pos (by kernel_rfl)]
              go_simp
              refine (CQ.out X3).mono ?_; rintro e' X6 ⟨rfl, hbq⟩; have hq6 := hq.keep hbq; have hb6 := hb.trans (hbq.mono hb.size)
              dsimp only
              refine hK.out _ _ (S5.of hq6 (some (g2, mi, sep)) none (by first | (simp; done) | exact hsaP) (by first | (simp; done) | exact hsmP)) (fun hHeld' => ?_); clear hK K hHeld hHeld' hbq hq hb
              (try simp only [Act.put, lsa, lsz, lss])
              have hq := hq6; have hb := hb6; clear hq6 hb6; have hHeld := S5.of hq (some (g2, mi, sep)) none (by first | (simp; done) | exact hsaP) (by first | (simp; done) | exact hsmP); refine hrd 10 rfl (fun K hK => ?_)
              · rw [if_pos (by kernel_rfl)]
                obtain ⟨X7, hrun, hq7, hbi⟩ := Q5.ins hq hgq5 (by decide) 2 (by decide) ⟨#[33, 61]⟩ (by decide); have hb7 := hb.trans hbi
                go_simp
                refine hK.out _ _ (S5.of hq7 (some (g2, mi, sep)) none (by first | (simp; done) | exact hsaP) (by simp)) (fun hHeld' => ?_); clear hK K hHeld hHeld' hrun hbi hq hb
                (try simp only [Act.put, lsa, lsz, lss])
                have hq := hq7; have hb := hb7; clear hq7 hb7; have hsmP : ∀ s, (some (gm, x.kind)) = some s → (s.2 = 1 ∨ s.2 = 2) ∧ ∃ n D, some (gm, 2, M12) = some (s.1, n, D) ∧ (D = M12 ∨ D = M21) := fun s hs => by cases hs; exact ⟨hxk, 2, M12, rfl, .inl rfl⟩
                have hq := show Q5 W3.heap.size wr.heap.size x _ (some (gm, 2, M12)) X7 from hq; refine wpAnyH_more (S' := S5 wr.heap.size x (some (g2, mi, sep)) (some (gm, x.kind))) (fun w h => S5.less (some (g2, mi, sep)) none (.inr rfl) (.inl rfl) h) _ _ _ _ ?_; have hHeld := S5.of hq (some (g2, mi, sep)) (some (gm, x.kind)) (by first | (simp; done) | exact hsaP) hsmP
                (refine htk 11 33 ?_ rfl ?_ ?_; rotate_left; (intro w hSw; clear hSw; go_simp); (try with_reducible rfl); simp only [lsz, lss])
                (refine htk 14 36 (.string ⟨(eqL x.kind).toArray⟩) rfl ?_ ?_; (intro w hSw; obtain ⟨-, -, -, -, g4⟩ := hSw; have g4 := g4 _ rfl; simp only at g4; go_simp); simp only [lsz, lss])
                refine hrd 18 rfl (fun K hK => ?_); rw [if_pos (by kernel_rfl)]
                go_simp
                have hqf := hq.keep ((Below.refl _ _).alloc (Nat.le_refl _) (.cells #[.string sep, .string x.name, .string ⟨(eqL x.kind).toArray⟩, .string ⟨(quoteL x.text.data.toList).toArray⟩] 9)); refine hK.out _ _ (S5.of hqf _ _ hsaP hsmP) (fun hHeld' => ?_); clear hK K hHeld
                (try simp only [Act.put, lsa, lsz, lss])
                refine hrd 19 rfl (fun K hK => ?_); rw [if_pos (by kernel_rfl)]
                go_simp
                refine (CW.out X7 hb).mono ?_; rintro e' Z ⟨rfl, hstZ, hkpZ⟩
                dsimp only
                refine hK.out _ _ (S5.of (hqf.kp hkpZ gq5 hb5) _ _ hsaP hsmP) (fun hHeld => ?_); clear hK K hHeld hHeld'; refine wpAnyH_done (by kernel_rfl) ?_ _
                all_goals go_wp2
                all_goals exact ⟨⟨k + 1, by omega, by go_num, HEnd.out _ hstZ⟩, by simp [intOf]; omega⟩
          · rw [if_pos (by kernel_rfl)]
            obtain ⟨X8, hrun, hq8, hbi⟩ := Q5.ins hq hgq5 (by decide) 2 (by decide) ⟨#[33, 61]⟩ (by decide); have hb8 := hb.trans hbi
            go_simp
            refine hK.out _ _ (S5.of hq8 (some (g2, mi, sep)) none (by first | (simp; done) | exact hsaP) (by simp)) (fun hHeld' => ?_); clear hK K hHeld hHeld' hrun hbi hq hb
            (try simp only [Act.put, lsa, lsz, lss])
            have hq := hq8; have hb := hb8; clear hq8 hb8; have hHeld := S5.of hq (some (g2, mi, sep)) none (by first | (simp; done) | exact hsaP) (by simp); refine wpAnyH_ready (rs := [9, 17]) (by kernel_rfl) (by simp) (.cons rfl (fun K hK => ?_) (.cons rfl (fun K hK => ?_) .nil))
            · rw [if_pos (by kernel_rfl)]
              obtain ⟨X9, hrun, hq9, hbi⟩ := Q5.ins hq hgq5 (by decide) 1 (by decide) ⟨#[61]⟩ (by decide); have hb9 := hb.trans hbi
              go_simp
              refine hK.out _ _ (S5.of hq9 (some (g2, mi, sep)) none (by first | (simp; done) | exact hsaP) (by simp)) (fun hHeld' => ?_); clear hK K hHeld hHeld' hrun hbi hq hb
              (try simp only [Act.put, lsa, lsz, lss])
              have hq := hq9; have hb := hb9; clear hq9 hb9; have hsmP : ∀ s, (some (gm, x.kind)) = some s → (s.2 = 1 ∨ s.2 = 2) ∧ ∃ n D, some (gm, 2, M21) = some (s.1, n, D) ∧ (D = M12 ∨ D = M21) := fun s hs => by cases hs; exact ⟨hxk, 2, M21, rfl, .inr rfl⟩
              have hq := show Q5 W3.heap.size wr.heap.size x _ (some (gm, 2, M21)) X9 from hq; refine wpAnyH_more (S' := S5 wr.heap.size x (some (g2, mi, sep)) (some (gm, x.kind))) (fun w h => S5.less (some (g2, mi, sep)) none (.inr rfl) (.inl rfl) h) _ _ _ _ ?_; have hHeld := S5.of hq (some (g2, mi, sep)) (some (gm, x.kind)) (by first | (simp; done) | exact hsaP) hsmP
              (refine htk 11 33 ?_ rfl ?_ ?_; rotate_left; (intro w hSw; clear hSw; go_simp); (try with_reducible rfl); simp only [lsz, lss])
              (refine htk 14 36 (.string ⟨(eqL x.kind).toArray⟩) rfl ?_ ?_; (intro w hSw; obtain ⟨-, -, -, -, g4⟩ := hSw; have g4 := g4 _ rfl; simp only at g4; go_simp); simp only [lsz, lss])
              refine hrd 17 rfl (fun K hK => ?_)
              · rw [if_pos (by kernel_rfl)]
                go_simp
                refine (CQ.out X9).mono ?_; rintro e' X10 ⟨rfl, hbq⟩; have hq10 := hq.keep hbq; have hb10 := hb.trans (hbq.mono hb.size)
                dsimp only
                refine hK.out _ _ (S5.of hq10 (some (g2, mi, sep)) (some (gm, x.kind)) (by first | (simp; done) | exact hsaP) (by first | (simp; done) | exact hsmP)) (fun hHeld' => ?_); clear hK K hHeld hHeld' hbq hq hb
                (try simp only [Act.put, lsa, lsz, lss])
                have hq := hq10; have hb := hb10; clear hq10 hb10; have hHeld := S5.of hq (some (g2, mi, sep)) (some (gm, x.kind)) (by first | (simp; done) | exact hsaP) (by first | (simp; done) | exact hsmP); refine hrd 18 rfl (fun K hK => ?_); rw [if_pos (by kernel_rfl)]
                go_simp
                have hqf := hq.keep ((Below.refl _ _).alloc (Nat.le_refl _) (.cells #[.string sep, .string x.name, .string ⟨(eqL x.kind).toArray⟩, .string ⟨(quoteL x.text.data.toList).toArray⟩] 9)); refine hK.out _ _ (S5.of hqf _ _ hsaP hsmP) (fun hHeld' => ?_); clear hK K hHeld
                (try simp only [Act.put, lsa, lsz, lss])
                refine hrd 19 rfl (fun K hK => ?_); rw [if_pos (by kernel_rfl)]
                go_simp
                refine (CW.out X10 hb).mono ?_; rintro e' Z ⟨rfl, hstZ, hkpZ⟩
                dsimp only
                refine hK.out _ _ (S5.of (hqf.kp hkpZ gq5 hb5) _ _ hsaP hsmP) (fun hHeld => ?_); clear hK K hHeld hHeld'; refine wpAnyH_done (by kernel_rfl) ?_ _
                all_goals go_wp2
                all_goals exact ⟨⟨k + 1, by omega, by go_num, HEnd.out _ hstZ⟩, by simp [intOf]; omega⟩
            · rw [if_pos (by kernel_rfl)]
              go_simp
              refine (CQ.out X8).mono ?_; rintro e' X11 ⟨rfl, hbq⟩; have hq11 := hq.keep hbq; have hb11 := hb.trans (hbq.mono hb.size)
              dsimp only
              refine hK.out _ _ (S5.of hq11 (some (g2, mi, sep)) none (by first | (simp; done) | exact hsaP) (by first | (simp; done) | exact hsmP)) (fun hHeld' => ?_); clear hK K hHeld hHeld' hbq hq hb
              (try simp only [Act.put, lsa, lsz, lss])
              have hq := hq11; have hb := hb11; clear hq11 hb11; have hHeld := S5.of hq (some (g2, mi, sep)) none (by first | (simp; done) | exact hsaP) (by first | (simp; done) | exact hsmP); refine hrd 9 rfl (fun K hK => ?_)
              · rw [if_pos (by kernel_rfl)]
                obtain ⟨X12, hrun, hq12, hbi⟩ := Q5.ins hq hgq5 (by decide) 1 (by decide) ⟨#[61]⟩ (by decide); have hb12 := hb.trans hbi
                go_simp
                refine hK.out _ _ (S5.of hq12 (some (g2, mi, sep)) none (by first | (simp; done) | exact hsaP) (by simp)) (fun hHeld' => ?_); clear hK K hHeld hHeld' hrun hbi hq hb
                (try simp only [Act.put, lsa, lsz, lss])
                have hq := hq12; have hb := hb12; clear hq12 hb12; have hsmP : ∀ s, (some (gm, x.kind)) = some s → (s.2 = 1 ∨ s.2 = 2) ∧ ∃ n D, some (gm, 2, M21) = some (s.1, n, D) ∧ (D = M12 ∨ D = M21) := fun s hs => by cases hs; exact ⟨hxk, 2, M21, rfl, .inr rfl⟩
                have hq := show Q5 W3.heap.size wr.heap.size x _ (some (gm, 2, M21)) X12 from hq; refine wpAnyH_more (S' := S5 wr.heap.size x (some (g2, mi, sep)) (some (gm, x.kind))) (fun w h => S5.less (some (g2, mi, sep)) none (.inr rfl) (.inl rfl) h) _ _ _ _ ?_; have hHeld := S5.of hq (some (g2, mi, sep)) (some (gm, x.kind)) (by first | (simp; done) | exact hsaP) hsmP
                (refine htk 11 33 ?_ rfl ?_ ?_; rotate_left; (intro w hSw; clear hSw; go_simp); (try with_reducible rfl); simp only [lsz, lss])
                (refine htk 14 36 (.string ⟨(eqL x.kind).toArray⟩) rfl ?_ ?_; (intro w hSw; obtain ⟨-, -, -, -, g4⟩ := hSw; have g4 := g4 _ rfl; simp only at g4; go_simp); simp only [lsz, lss])
                refine hrd 18 rfl (fun K hK => ?_); rw [if_pos (by kernel_rfl)]
                go_simp
                have hqf := hq.keep ((Below.refl _ _).alloc (Nat.le_refl _) (.cells #[.string sep, .string x.name, .string ⟨(eqL x.kind).toArray⟩, .string ⟨(quoteL x.text.data.toList).toArray⟩] 9)); refine hK.out _ _ (S5.of hqf _ _ hsaP hsmP) (fun hHeld' => ?_); clear hK K hHeld
                (try simp only [Act.put, lsa, lsz, lss])
                refine hrd 19 rfl (fun K hK => ?_); rw [if_pos (by kernel_rfl)]
                go_simp
                refine (CW.out X12 hb).mono ?_; rintro e' Z ⟨rfl, hstZ, hkpZ⟩
                dsimp only
                refine hK.out _ _ (S5.of (hqf.kp hkpZ gq5 hb5) _ _ hsaP hsmP) (fun hHeld => ?_); clear hK K hHeld hHeld'; refine wpAnyH_done (by kernel_rfl) ?_ _
                all_goals go_wp2
                all_goals exact ⟨⟨k + 1, by omega, by go_num, HEnd.out _ hstZ⟩, by simp [intOf]; omega⟩
          · rw [if_pos (by kernel_rfl)]
            go_simp
            refine (CQ.out X2).mono ?_; rintro e' X13 ⟨rfl, hbq⟩; have hq13 := hq.keep hbq; have hb13 := hb.trans (hbq.mono hb.size)
            dsimp only
            refine hK.out _ _ (S5.of hq13 (some (g2, mi, sep)) none (by first | (simp; done) | exact hsaP) (by first | (simp; done) | exact hsmP)) (fun hHeld' => ?_); clear hK K hHeld hHeld' hbq hq hb
            (try simp only [Act.put, lsa, lsz, lss])
            have hq := hq13; have hb := hb13; clear hq13 hb13; have hHeld := S5.of hq (some (g2, mi, sep)) none (by first | (simp; done) | exact hsaP) (by first | (simp; done) | exact hsmP); refine wpAnyH_ready (rs := [9, 10]) (by kernel_rfl) (by simp) (.cons rfl (fun K hK => ?_) (.cons rfl (fun K hK => ?_) .nil))
            · rw [if_pos (by kernel_rfl)]
              obtain ⟨X14, hrun, hq14, hbi⟩ := Q5.ins hq hgq5 (by decide) 1 (by decide) ⟨#[61]⟩ (by decide); have hb14 := hb.trans hbi
              go_simp
              refine hK.out _ _ (S5.of hq14 (some (g2, mi, sep)) none (by first | (simp; done) | exact hsaP) (by simp)) (fun hHeld' => ?_); clear hK K hHeld hHeld' hrun hbi hq hb
              (try simp only [Act.put, lsa, lsz, lss])
              have hq := hq14; have hb := hb14; clear hq14 hb14; have hHeld := S5.of hq (some (g2, mi, sep)) none (by first | (simp; done) | exact hsaP) (by simp); refine hrd 10 rfl (fun K hK => ?_)
              · rw [if_pos (by kernel_rfl)]
                obtain ⟨X15, hrun, hq15, hbi⟩ := Q5.ins hq hgq5 (by decide) 2 (by decide) ⟨#[33, 61]⟩ (by decide); have hb15 := hb.trans hbi
                go_simp
                refine hK.out _ _ (S5.of hq15 (some (g2, mi, sep)) none (by first | (simp; done) | exact hsaP) (by simp)) (fun hHeld' => ?_); clear hK K hHeld hHeld' hrun hbi hq hb
                (try simp only [Act.put, lsa, lsz, lss])
                have hq := hq15; have hb := hb15; clear hq15 hb15; have hsmP : ∀ s, (some (gm, x.kind)) = some s → (s.2 = 1 ∨ s.2 = 2) ∧ ∃ n D, some (gm, 2, M12) = some (s.1, n, D) ∧ (D = M12 ∨ D = M21) := fun s hs => by cases hs; exact ⟨hxk, 2, M12, rfl, .inl rfl⟩
                have hq := show Q5 W3.heap.size wr.heap.size x _ (some (gm, 2, M12)) X15 from hq; refine wpAnyH_more (S' := S5 wr.heap.size x (some (g2, mi, sep)) (some (gm, x.kind))) (fun w h => S5.less (some (g2, mi, sep)) none (.inr rfl) (.inl rfl) h) _ _ _ _ ?_; have hHeld := S5.of hq (some (g2, mi, sep)) (some (gm, x.kind)) (by first | (simp; done) | exact hsaP) hsmP
                (refine htk 11 33 ?_ rfl ?_ ?_; rotate_left; (intro w hSw; clear hSw; go_simp); (try with_reducible rfl); simp only [lsz, lss])
                (refine htk 14 36 (.string ⟨(eqL x.kind).toArray⟩) rfl ?_ ?_; (intro w hSw; obtain ⟨-, -, -, -, g4⟩ := hSw; have g4 := g4 _ rfl; simp only at g4; go_simp); simp only [lsz, lss])
                refine hrd 18 rfl (fun K hK => ?_); rw [if_pos (by kernel_rfl)]
                go_simp
                have hqf := hq.keep ((Below.refl _ _).alloc (Nat.le_refl _) (.cells #[.string sep, .string x.name, .string ⟨(eqL x.kind).toArray⟩, .string ⟨(quoteL x.text.data.toList).toArray⟩] 9)); refine hK.out _ _ (S5.of hqf _ _ hsaP hsmP) (fun hHeld' => ?_); clear hK K hHeld
                (try simp only [Act.put, lsa, lsz, lss])
                refine hrd 19 rfl (fun K hK => ?_); rw [if_pos (by kernel_rfl)]
                go_simp
                refine (CW.out X15 hb).mono ?_; rintro e' Z ⟨rfl, hstZ, hkpZ⟩
                dsimp only
                refine hK.out _ _ (S5.of (hqf.kp hkpZ gq5 hb5) _ _ hsaP hsmP) (fun hHeld => ?_); clear hK K hHeld hHeld'; refine wpAnyH_done (by kernel_rfl) ?_ _
                all_goals go_wp2
                all_goals exact ⟨⟨k + 1, by omega, by go_num, HEnd.out _ hstZ⟩, by simp [intOf]; omega⟩
            · rw [if_pos (by kernel_rfl)]
              obtain ⟨X16, hrun, hq16, hbi⟩ := Q5.ins hq hgq5 (by decide) 2 (by decide) ⟨#[33, 61]⟩ (by decide); have hb16 := hb.trans hbi
              go_simp
              refine hK.out _ _ (S5.of hq16 (some (g2, mi, sep)) none (by first | (simp; done) | exact hsaP) (by simp)) (fun hHeld' => ?_); clear hK K hHeld hHeld' hrun hbi hq hb
              (try simp only [Act.put, lsa, lsz, lss])
              have hq := hq16; have hb := hb16; clear hq16 hb16; have hHeld := S5.of hq (some (g2, mi, sep)) none (by first | (simp; done) | exact hsaP) (by simp); refine hrd 9 rfl (fun K hK => ?_)
              · rw [if_pos (by kernel_rfl)]
                obtain ⟨X17, hrun, hq17, hbi⟩ := Q5.ins hq hgq5 (by decide) 1 (by decide) ⟨#[61]⟩ (by decide); have hb17 := hb.trans hbi
                go_simp
                refine hK.out _ _ (S5.of hq17 (some (g2, mi, sep)) none (by first | (simp; done) | exact hsaP) (by simp)) (fun hHeld' => ?_); clear hK K hHeld hHeld' hrun hbi hq hb
                (try simp only [Act.put, lsa, lsz, lss])
                have hq := hq17; have hb := hb17; clear hq17 hb17; have hsmP : ∀ s, (some (gm, x.kind)) = some s → (s.2 = 1 ∨ s.2 = 2) ∧ ∃ n D, some (gm, 2, M21) = some (s.1, n, D) ∧ (D = M12 ∨ D = M21) := fun s hs => by cases hs; exact ⟨hxk, 2, M21, rfl, .inr rfl⟩
                have hq := show Q5 W3.heap.size wr.heap.size x _ (some (gm, 2, M21)) X17 from hq; refine wpAnyH_more (S' := S5 wr.heap.size x (some (g2, mi, sep)) (some (gm, x.kind))) (fun w h => S5.less (some (g2, mi, sep)) none (.inr rfl) (.inl rfl) h) _ _ _ _ ?_; have hHeld := S5.of hq (some (g2, mi, sep)) (some (gm, x.kind)) (by first | (simp; done) | exact hsaP) hsmP
                (refine htk 11 33 ?_ rfl ?_ ?_; rotate_left; (intro w hSw; clear hSw; go_simp); (try with_reducible rfl); simp only [lsz, lss])
                (refine htk 14 36 (.string ⟨(eqL x.kind).toArray⟩) rfl ?_ ?_; (intro w hSw; obtain ⟨-, -, -, -, g4⟩ := hSw; have g4 := g4 _ rfl; simp only at g4; go_simp); simp only [lsz, lss])
                refine hrd 18 rfl (fun K hK => ?_); rw [if_pos (by kernel_rfl)]
                go_simp
                have hqf := hq.keep ((Below.refl _ _).alloc (Nat.le_refl _) (.cells #[.string sep, .string x.name, .string ⟨(eqL x.kind).toArray⟩, .string ⟨(quoteL x.text.data.toList).toArray⟩] 9)); refine hK.out _ _ (S5.of hqf _ _ hsaP hsmP) (fun hHeld' => ?_); clear hK K hHeld
                (try simp only [Act.put, lsa, lsz, lss])
                refine hrd 19 rfl (fun K hK => ?_); rw [if_pos (by kernel_rfl)]
                go_simp
                refine (CW.out X17 hb).mono ?_; rintro e' Z ⟨rfl, hstZ, hkpZ⟩
                dsimp only
                refine hK.out _ _ (S5.of (hqf.kp hkpZ gq5 hb5) _ _ hsaP hsmP) (fun hHeld => ?_); clear hK K hHeld hHeld'; refine wpAnyH_done (by kernel_rfl) ?_ _
                all_goals go_wp2
                all_goals exact ⟨⟨k + 1, by omega, by go_num, HEnd.out _ hstZ⟩, by simp [intOf]; omega⟩
        · rw [if_pos (by kernel_rfl)]
          go_simp
          refine (CQ.out X1).mono ?_; rintro e' X18 ⟨rfl, hbq⟩; have hq18 := hq.keep hbq; have hb18 := hb.trans (hbq.mono hb.size)
          dsimp only
          refine hK.out _ _ (S5.of hq18 (some (g2, mi, sep)) none (by first | (simp; done) | exact hsaP) (by first | (simp; done) | exact hsmP)) (fun hHeld' => ?_); clear hK K hHeld hHeld' hbq hq hb
          (try simp only [Act.put, lsa, lsz, lss])
          have hq := hq18; have hb := hb18; clear hq18 hb18; have hHeld := S5.of hq (some (g2, mi, sep)) none (by first | (simp; done) | exact hsaP) (by first | (simp; done) | exact hsmP); refine hrd 8 rfl (fun K hK => ?_)
          · rw [if_pos (by kernel_rfl)]
            go_simp
            have hq19 := Q5.made hq hb.size; have hb19 := hb.alloc hb.size (.map #[] 0); refine hK.out _ _ (S5.of hq19 (some (g2, mi, sep)) none (by first | (simp; done) | exact hsaP) (by simp)) (fun hHeld' => ?_); clear hK K hHeld hHeld'
            (try simp only [Act.put, lsa, lsz, lss])
            have hga : ∃ gm, X18.heap.size = gm := ⟨_, rfl⟩; obtain ⟨gm, hgm⟩ := hga; obtain ⟨X19, hX19⟩ : ∃ Y, X18.alloc (.map #[] 0) = Y := ⟨_, rfl⟩; rw [hX19, hgm] at hq19; rw [hX19] at hb19
            first | rw [show ({ heap := X18.heap.push (Obj.map #[] 0), tape := X18.tape, drawn := X18.drawn, os := X18.os, output := X18.output } : World) = X19 from hX19, hgm] | rw [hX19, hgm]
            clear hX19 hgm hq hb; have hq := hq19; have hb := hb19; clear hq19 hb19; have hHeld := S5.of hq (some (g2, mi, sep)) none (by first | (simp; done) | exact hsaP) (by simp); refine wpAnyH_ready (rs := [9, 10]) (by kernel_rfl) (by simp) (.cons rfl (fun K hK => ?_) (.cons rfl (fun K hK => ?_) .nil))
            · rw [if_pos (by kernel_rfl)]
              obtain ⟨X20, hrun, hq20, hbi⟩ := Q5.ins hq hgq5 (by decide) 1 (by decide) ⟨#[61]⟩ (by decide); have hb20 := hb.trans hbi
              go_simp
              refine hK.out _ _ (S5.of hq20 (some (g2, mi, sep)) none (by first | (simp; done) | exact hsaP) (by simp)) (fun hHeld' => ?_); clear hK K hHeld hHeld' hrun hbi hq hb
              (try simp only [Act.put, lsa, lsz, lss])
              have hq := hq20; have hb := hb20; clear hq20 hb20; have hHeld := S5.of hq (some (g2, mi, sep)) none (by first | (simp; done) | exact hsaP) (by simp); refine hrd 10 rfl (fun K hK => ?_)
              · rw [if_pos (by kernel_rfl)]
                obtain ⟨X21, hrun, hq21, hbi⟩ := Q5.ins hq hgq5 (by decide) 2 (by decide) ⟨#[33, 61]⟩ (by decide); have hb21 := hb.trans hbi
                go_simp
                refine hK.out _ _ (S5.of hq21 (some (g2, mi, sep)) none (by first | (simp; done) | exact hsaP) (by simp)) (fun hHeld' => ?_); clear hK K hHeld hHeld' hrun hbi hq hb
                (try simp only [Act.put, lsa, lsz, lss])
                have hq := hq21; have hb := hb21; clear hq21 hb21; have hsmP : ∀ s, (some (gm, x.kind)) = some s → (s.2 = 1 ∨ s.2 = 2) ∧ ∃ n D, some (gm, 2, M12) = some (s.1, n, D) ∧ (D = M12 ∨ D = M21) := fun s hs => by cases hs; exact ⟨hxk, 2, M12, rfl, .inl rfl⟩
                have hq := show Q5 W3.heap.size wr.heap.size x _ (some (gm, 2, M12)) X21 from hq; refine wpAnyH_more (S' := S5 wr.heap.size x (some (g2, mi, sep)) (some (gm, x.kind))) (fun w h => S5.less (some (g2, mi, sep)) none (.inr rfl) (.inl rfl) h) _ _ _ _ ?_; have hHeld := S5.of hq (some (g2, mi, sep)) (some (gm, x.kind)) (by first | (simp; done) | exact hsaP) hsmP
                (refine htk 11 33 ?_ rfl ?_ ?_; rotate_left; (intro w hSw; clear hSw; go_simp); (try with_reducible rfl); simp only [lsz, lss])
                (refine htk 14 36 (.string ⟨(eqL x.kind).toArray⟩) rfl ?_ ?_; (intro w hSw; obtain ⟨-, -, -, -, g4⟩ := hSw; have g4 := g4 _ rfl; simp only at g4; go_simp); simp only [lsz, lss])
                refine hrd 18 rfl (fun K hK => ?_); rw [if_pos (by kernel_rfl)]
                go_simp
                have hqf := hq.keep ((Below.refl _ _).alloc (Nat.le_refl _) (.cells #[.string sep, .string x.name, .string ⟨(eqL x.kind).toArray⟩, .string ⟨(quoteL x.text.data.toList).toArray⟩] 9)); refine hK.out _ _ (S5.of hqf _ _ hsaP hsmP) (fun hHeld' => ?_); clear hK K hHeld
                (try simp only [Act.put, lsa, lsz, lss])
                refine hrd 19 rfl (fun K hK => ?_); rw [if_pos (by kernel_rfl)]
                go_simp
                refine (CW.out X21 hb).mono ?_; rintro e' Z ⟨rfl, hstZ, hkpZ⟩
                dsimp only
                refine hK.out _ _ (S5.of (hqf.kp hkpZ gq5 hb5) _ _ hsaP hsmP) (fun hHeld => ?_); clear hK K hHeld hHeld'; refine wpAnyH_done (by kernel_rfl) ?_ _
                all_goals go_wp2
                all_goals exact ⟨⟨k + 1, by omega, by go_num, HEnd.out _ hstZ⟩, by simp [intOf]; omega⟩
            · rw [if_pos (by kernel_rfl)]
              obtain ⟨X22, hrun, hq22, hbi⟩ := Q5.ins hq hgq5 (by decide) 2 (by decide) ⟨#[33, 61]⟩ (by decide); have hb22 := hb.trans hbi
              go_simp
              refine hK.out _ _ (S5.of hq22 (some (g2, mi, sep)) none (by first | (simp; done) | exact hsaP) (by simp)) (fun hHeld' => ?_); clear hK K hHeld hHeld' hrun hbi hq hb
              (try simp only [Act.put, lsa, lsz, lss])
              have hq := hq22; have hb := hb22; clear hq22 hb22; have hHeld := S5.of hq (some (g2, mi, sep)) none (by first | (simp; done) | exact hsaP) (by simp); refine hrd 9 rfl (fun K hK => ?_)
              · rw [if_pos (by kernel_rfl)]
                obtain ⟨X23, hrun, hq23, hbi⟩ := Q5.ins hq hgq5 (by decide) 1 (by decide) ⟨#[61]⟩ (by decide); have hb23 := hb.trans hbi
                go_simp
                refine hK.out _ _ (S5.of hq23 (some (g2, mi, sep)) none (by first | (simp; done) | exact hsaP) (by simp)) (fun hHeld' => ?_); clear hK K hHeld hHeld' hrun hbi hq hb
                (try simp only [Act.put, lsa, lsz, lss])
                have hq := hq23; have hb := hb23; clear hq23 hb23; have hsmP : ∀ s, (some (gm, x.kind)) = some s → (s.2 = 1 ∨ s.2 = 2) ∧ ∃ n D, some (gm, 2, M21) = some (s.1, n, D) ∧ (D = M12 ∨ D = M21) := fun s hs => by cases hs; exact ⟨hxk, 2, M21, rfl, .inr rfl⟩
                have hq := show Q5 W3.heap.size wr.heap.size x _ (some (gm, 2, M21)) X23 from hq; refine wpAnyH_more (S' := S5 wr.heap.size x (some (g2, mi, sep)) (some (gm, x.kind))) (fun w h => S5.less (some (g2, mi, sep)) none (.inr rfl) (.inl rfl) h) _ _ _ _ ?_; have hHeld := S5.of hq (some (g2, mi, sep)) (some (gm, x.kind)) (by first | (simp; done) | exact hsaP) hsmP
                (refine htk 11 33 ?_ rfl ?_ ?_; rotate_left; (intro w hSw; clear hSw; go_simp); (try with_reducible rfl); simp only [lsz, lss])
                (refine htk 14 36 (.string ⟨(eqL x.kind).toArray⟩) rfl ?_ ?_; (intro w hSw; obtain ⟨-, -, -, -, g4⟩ := hSw; have g4 := g4 _ rfl; simp only at g4; go_simp); simp only [lsz, lss])
                refine hrd 18 rfl (fun K hK => ?_); rw [if_pos (by kernel_rfl)]
                go_simp
                have hqf := hq.keep ((Below.refl _ _).alloc (Nat.le_refl _) (.cells #[.string sep, .string x.name, .string ⟨(eqL x.kind).toArray⟩, .string ⟨(quoteL x.text.data.toList).toArray⟩] 9)); refine hK.out _ _ (S5.of hqf _ _ hsaP hsmP) (fun hHeld' => ?_); clear hK K hHeld
                (try simp only [Act.put, lsa, lsz, lss])
                refine hrd 19 rfl (fun K hK => ?_); rw [if_pos (by kernel_rfl)]
                go_simp
                refine (CW.out X23 hb).mono ?_; rintro e' Z ⟨rfl, hstZ, hkpZ⟩
                dsimp only
                refine hK.out _ _ (S5.of (hqf.kp hkpZ gq5 hb5) _ _ hsaP hsmP) (fun hHeld => ?_); clear hK K hHeld hHeld'; refine wpAnyH_done (by kernel_rfl) ?_ _
                all_goals go_wp2
                all_goals exact ⟨⟨k + 1, by omega, by go_num, HEnd.out _ hstZ⟩, by simp [intOf]; omega⟩
      · rw [if_pos (by kernel_rfl)]
        go_simp
        have hq24 := Q5.made hq hb.size; have hb24 := hb.alloc hb.size (.map #[] 0); refine hK.out _ _ (S5.of hq24 none none (by first | (simp; done) | exact hsaP) (by simp)) (fun hHeld' => ?_); clear hK K hHeld hHeld'
        (try simp only [Act.put, lsa, lsz, lss])
        have hga : ∃ gm, X0.heap.size = gm := ⟨_, rfl⟩; obtain ⟨gm, hgm⟩ := hga; obtain ⟨X24, hX24⟩ : ∃ Y, X0.alloc (.map #[] 0) = Y := ⟨_, rfl⟩; rw [hX24, hgm] at hq24; rw [hX24] at hb24
        first | rw [show ({ heap := X0.heap.push (Obj.map #[] 0), tape := X0.tape, drawn := X0.drawn, os := X0.os, output := X0.output } : World) = X24 from hX24, hgm] | rw [hX24, hgm]
        clear hX24 hgm hq hb; have hq := hq24; have hb := hb24; clear hq24 hb24; have hHeld := S5.of hq none none (by first | (simp; done) | exact hsaP) (by simp); refine wpAnyH_ready (rs := [1, 9, 10, 17]) (by kernel_rfl) (by simp) (.cons rfl (fun K hK => ?_) (.cons rfl (fun K hK => ?_) (.cons rfl (fun K hK => ?_) (.cons rfl (fun K hK => ?_) .nil))))
        · rw [if_pos (by kernel_rfl)]
          go_simp
          have hq25 := Q5.slice hq (hb.size); have hb25 := hb.alloc hb.size (.cells sepC.toArray 9); refine hK.out _ _ (S5.of hq25 none none (by simp) (by first | (simp; done) | exact hsmP)) (fun hHeld' => ?_); clear hK K hHeld hHeld'
          (try simp only [Act.put, lsa, lsz, lss])
          have hga : ∃ g2, X24.heap.size = g2 := ⟨_, rfl⟩; obtain ⟨g2, hg2⟩ := hga; obtain ⟨X25, hX25⟩ : ∃ Y, X24.alloc (.cells sepC.toArray 9) = Y := ⟨_, rfl⟩; rw [hX25, hg2] at hq25; rw [hX25] at hb25; have hX25' : X24.alloc (.cells #[.string ⟨#[123]⟩, .string ⟨#[44, 32]⟩] 9) = X25 := hX25
          first | rw [hX25', hg2] | rw [hX25, hg2]
          clear hX25 hX25' hg2 hq hb; have hq := hq25; have hb := hb25; clear hq25 hb25; have hsaP : ∀ s, (some (g2, mi, sep)) = some s → some g2 = some s.1 ∧ sepC[s.2.1]? = some (.string s.2.2) := fun s hs => by cases hs; exact ⟨rfl, hsepc⟩
          refine wpAnyH_more (S' := S5 wr.heap.size x (some (g2, mi, sep)) none) (fun w h => S5.less none none (.inl rfl) (.inr rfl) h) _ _ _ _ ?_; have hHeld := S5.of hq (some (g2, mi, sep)) none hsaP (by first | (simp; done) | exact hsmP)
          (refine htk 4 28 ?_ rfl ?_ ?_; rotate_left; (intro w hSw; clear hSw; go_simp); (try with_reducible rfl); simp only [lsz, lss])
          (refine htk 5 29 (.string sep) rfl ?_ ?_; (intro w hSw; obtain ⟨-, -, -, g3, -⟩ := hSw; have g3 := g3 _ rfl; simp only at g3; go_simp); simp only [lsz, lss])
          refine wpAnyH_ready (rs := [9, 10, 17]) (by kernel_rfl) (by simp) (.cons rfl (fun K hK => ?_) (.cons rfl (fun K hK => ?_) (.cons rfl (fun K hK => ?_) .nil)))
          · rw [if_pos (by kernel_rfl)]
            obtain ⟨X26, hrun, hq26, hbi⟩ := Q5.ins hq hgq5 (by decide) 1 (by decide) ⟨#[61]⟩ (by decide); have hb26 := hb.trans hbi
            go_simp
            refine hK.out _ _ (S5.of hq26 (some (g2, mi, sep)) none (by first | (simp; done) | exact hsaP) (by simp)) (fun hHeld' => ?_); clear hK K hHeld hHeld' hrun hbi hq hb
            (try simp only [Act.put, lsa, lsz, lss])
            have hq := hq26; have hb := hb26; clear hq26 hb26; have hHeld := S5.of hq (some (g2, mi, sep)) none (by first | (simp; done) | exact hsaP) (by simp); refine wpAnyH_ready (rs := [10, 17]) (by kernel_rfl) (by simp) (.cons rfl (fun K hK => ?_) (.cons rfl (fun K hK => ?_) .nil))
            · rw [if_pos (by kernel_rfl)]
              obtain ⟨X27, hrun, hq27, hbi⟩ := Q5.ins hq hgq5 (by decide) 2 (by decide) ⟨#[33, 61]⟩ (by decide); have hb27 := hb.trans hbi
              go_simp
              refine hK.out _ _ (S5.of hq27 (some (g2, mi, sep)) none (by first | (simp; done) | exact hsaP) (by simp)) (fun hHeld' => ?_); clear hK K hHeld hHeld' hrun hbi hq hb
              (try simp only [Act.put, lsa, lsz, lss])
              have hq := hq27; have hb := hb27; clear hq27 hb27; have hsmP : ∀ s, (some (gm, x.kind)) = some s → (s.2 = 1 ∨ s.2 = 2) ∧ ∃ n D, some (gm, 2, M12) = some (s.1, n, D) ∧ (D = M12 ∨ D = M21) := fun s hs => by cases hs; exact ⟨hxk, 2, M12, rfl, .inl rfl⟩
              have hq := show Q5 W3.heap.size wr.heap.size x _ (some (gm, 2, M12)) X27 from hq; refine wpAnyH_more (S' := S5 wr.heap.size x (some (g2, mi, sep)) (some (gm, x.kind))) (fun w h => S5.less (some (g2, mi, sep)) none (.inr rfl) (.inl rfl) h) _ _ _ _ ?_; have hHeld := S5.of hq (some (g2, mi, sep)) (some (gm, x.kind)) (by first | (simp; done) | exact hsaP) hsmP
              (refine htk 11 33 ?_ rfl ?_ ?_; rotate_left; (intro w hSw; clear hSw; go_simp); (try with_reducible rfl); simp only [lsz, lss])
              (refine htk 14 36 (.string ⟨(eqL x.kind).toArray⟩) rfl ?_ ?_; (intro w hSw; obtain ⟨-, -, -, -, g4⟩ := hSw; have g4 := g4 _ rfl; simp only at g4; go_simp); simp only [lsz, lss])
              refine hrd 17 rfl (fun K hK => ?_)
              · rw [if_pos (by kernel_rfl)]
                go_simp
                refine (CQ.out X27).mono ?_; rintro e' X28 ⟨rfl, hbq⟩; have hq28 := hq.keep hbq; have hb28 := hb.trans (hbq.mono hb.size)
                dsimp only
                refine hK.out _ _ (S5.of hq28 (some (g2, mi, sep)) (some (gm, x.kind)) (by first | (simp; done) | exact hsaP) (by first | (simp; done) | exact hsmP)) (fun hHeld' => ?_); clear hK K hHeld hHeld' hbq hq hb
                (try simp only [Act.put, lsa, lsz, lss])
                have hq := hq28; have hb := hb28; clear hq28 hb28; have hHeld := S5.of hq (some (g2, mi, sep)) (some (gm, x.kind)) (by first | (simp; done) | exact hsaP) (by first | (simp; done) | exact hsmP); refine hrd 18 rfl (fun K hK => ?_); rw [if_pos (by kernel_rfl)]
                go_simp
                have hqf := hq.keep ((Below.refl _ _).alloc (Nat.le_refl _) (.cells #[.string sep, .string x.name, .string ⟨(eqL x.kind).toArray⟩, .string ⟨(quoteL x.text.data.toList).toArray⟩] 9)); refine hK.out _ _ (S5.of hqf _ _ hsaP hsmP) (fun hHeld' => ?_); clear hK K hHeld
                (try simp only [Act.put, lsa, lsz, lss])
                refine hrd 19 rfl (fun K hK => ?_); rw [if_pos (by kernel_rfl)]
                go_simp
                refine (CW.out X28 hb).mono ?_; rintro e' Z ⟨rfl, hstZ, hkpZ⟩
                dsimp only
                refine hK.out _ _ (S5.of (hqf.kp hkpZ gq5 hb5) _ _ hsaP hsmP) (fun hHeld => ?_); clear hK K hHeld hHeld'; refine wpAnyH_done (by kernel_rfl) ?_ _
                all_goals go_wp2
                all_goals exact ⟨⟨k + 1, by omega, by go_num, HEnd.out _ hstZ⟩, by simp [intOf]; omega⟩
            · rw [if_pos (by kernel_rfl)]
              go_simp
              refine (CQ.out X26).mono ?_; rintro e' X29 ⟨rfl, hbq⟩; have hq29 := hq.keep hbq; have hb29 := hb.trans (hbq.mono hb.size)
              dsimp only
              refine hK.out _ _ (S5.of hq29 (some (g2, mi, sep)) none (by first | (simp; done) | exact hsaP) (by first | (simp; done) | exact hsmP)) (fun hHeld' => ?_); clear hK K hHeld hHeld' hbq hq hb
              (try simp only [Act.put, lsa, lsz, lss])
              have hq := hq29; have hb := hb29; clear hq29 hb29; have hHeld := S5.of hq (some (g2, mi, sep)) none (by first | (simp; done) | exact hsaP) (by first | (simp; done) | exact hsmP); refine hrd 10 rfl (fun K hK => ?_)
              · rw [if_pos (by kernel_rfl)]
                obtain ⟨X30, hrun, hq30, hbi⟩ := Q5.ins hq hgq5 (by decide) 2 (by decide) ⟨#[33, 61]⟩ (by decide); have hb30 := hb.trans hbi
                go_simp
                refine hK.out _ _ (S5.of hq30 (some (g2, mi, sep)) none (by first | (simp; done) | exact hsaP) (by simp)) (fun hHeld' => ?_); clear hK K hHeld hHeld' hrun hbi hq hb
                (try simp only [Act.put, lsa, lsz, lss])
                have hq := hq30; have hb := hb30; clear hq30 hb30; have hsmP : ∀ s, (some (gm, x.kind)) = some s → (s.2 = 1 ∨ s.2 = 2) ∧ ∃ n D, some (gm, 2, M12) = some (s.1, n, D) ∧ (D = M12 ∨ D = M21) := fun s hs => by cases hs; exact ⟨hxk, 2, M12, rfl, .inl rfl⟩
                have hq := show Q5 W3.heap.size wr.heap.size x _ (some (gm, 2, M12)) X30 from hq; refine wpAnyH_more (S' := S5 wr.heap.size x (some (g2, mi, sep)) (some (gm, x.kind))) (fun w h => S5.less (some (g2, mi, sep)) none (.inr rfl) (.inl rfl) h) _ _ _ _ ?_; have hHeld := S5.of hq (some (g2, mi, sep)) (some (gm, x.kind)) (by first | (simp; done) | exact hsaP) hsmP
                (refine htk 11 33 ?_ rfl ?_ ?_; rotate_left; (intro w hSw; clear hSw; go_simp); (try with_reducible rfl); simp only [lsz, lss])
                (refine htk 14 36 (.string ⟨(eqL x.kind).toArray⟩) rfl ?_ ?_; (intro w hSw; obtain ⟨-, -, -, -, g4⟩ := hSw; have g4 := g4 _ rfl; simp only at g4; go_simp); simp only [lsz, lss])
                refine hrd 18 rfl (fun K hK => ?_); rw [if_pos (by kernel_rfl)]
                go_simp
                have hqf := hq.keep ((Below.refl _ _).alloc (Nat.le_refl _) (.cells #[.string sep, .string x.name, .string ⟨(eqL x.kind).toArray⟩, .string ⟨(quoteL x.text.data.toList).toArray⟩] 9)); refine hK.out _ _ (S5.of hqf _ _ hsaP hsmP) (fun hHeld' => ?_); clear hK K hHeld
                (try simp only [Act.put, lsa, lsz, lss])
                refine hrd 19 rfl (fun K hK => ?_); rw [if_pos (by kernel_rfl)]
                go_simp
                refine (CW.out X30 hb).mono ?_; rintro e' Z ⟨rfl, hstZ, hkpZ⟩
                dsimp only
                refine hK.out _ _ (S5.of (hqf.kp hkpZ gq5 hb5) _ _ hsaP hsmP) (fun hHeld => ?_); clear hK K hHeld hHeld'; refine wpAnyH_done (by kernel_rfl) ?_ _
                all_goals go_wp2
                all_goals exact ⟨⟨k + 1, by omega, by go_num, HEnd.out _ hstZ⟩, by simp [intOf]; omega⟩
          · rw [if_pos (by kernel_rfl)]
            obtain ⟨X31, hrun, hq31, hbi⟩ := Q5.ins hq hgq5 (by decide) 2 (by decide) ⟨#[33, 61]⟩ (by decide); have hb31 := hb.trans hbi
            go_simp
            refine hK.out _ _ (S5.of hq31 (some (g2, mi, sep)) none (by first | (simp; done) | exact hsaP) (by simp)) (fun hHeld' => ?_); clear hK K hHeld hHeld' hrun hbi hq hb
            (try simp only [Act.put, lsa, lsz, lss])
            have hq := hq31; have hb := hb31; clear hq31 hb31; have hHeld := S5.of hq (some (g2, mi, sep)) none (by first | (simp; done) | exact hsaP) (by simp); refine wpAnyH_ready (rs := [9, 17]) (by kernel_rfl) (by simp) (.cons rfl (fun K hK => ?_) (.cons rfl (fun K hK => ?_) .nil))
            · rw [if_pos (by kernel_rfl)]
              obtain ⟨X32, hrun, hq32, hbi⟩ := Q5.ins hq hgq5 (by decide) 1 (by decide) ⟨#[61]⟩ (by decide); have hb32 := hb.trans hbi
              go_simp
              refine hK.out _ _ (S5.of hq32 (some (g2, mi, sep)) none (by first | (simp; done) | exact hsaP) (by simp)) (fun hHeld' => ?_); clear hK K hHeld hHeld' hrun hbi hq hb
              (try simp only [Act.put, lsa, lsz, lss])
              have hq := hq32; have hb := hb32; clear hq32 hb32; have hsmP : ∀ s, (some (gm, x.kind)) = some s → (s.2 = 1 ∨ s.2 = 2) ∧ ∃ n D, some (gm, 2, M21) = some (s.1, n, D) ∧ (D = M12 ∨ D = M21) := fun s hs => by cases hs; exact ⟨hxk, 2, M21, rfl, .inr rfl⟩
              have hq := show Q5 W3.heap.size wr.heap.size x _ (some (gm, 2, M21)) X32 from hq; refine wpAnyH_more (S' := S5 wr.heap.size x (some (g2, mi, sep)) (some (gm, x.kind))) (fun w h => S5.less (some (g2, mi, sep)) none (.inr rfl) (.inl rfl) h) _ _ _ _ ?_; have hHeld := S5.of hq (some (g2, mi, sep)) (some (gm, x.kind)) (by first | (simp; done) | exact hsaP) hsmP
              (refine htk 11 33 ?_ rfl ?_ ?_; rotate_left; (intro w hSw; clear hSw; go_simp); (try with_reducible rfl); simp only [lsz, lss])
              (refine htk 14 36 (.string ⟨(eqL x.kind).toArray⟩) rfl ?_ ?_; (intro w hSw; obtain ⟨-, -, -, -, g4⟩ := hSw; have g4 := g4 _ rfl; simp only at g4; go_simp); simp only [lsz, lss])
              refine hrd 17 rfl (fun K hK => ?_)
              · rw [if_pos (by kernel_rfl)]
                go_simp
                refine (CQ.out X32).mono ?_; rintro e' X33 ⟨rfl, hbq⟩; have hq33 := hq.keep hbq; have hb33 := hb.trans (hbq.mono hb.size)
                dsimp only
                refine hK.out _ _ (S5.of hq33 (some (g2, mi, sep)) (some (gm, x.kind)) (by first | (simp; done) | exact hsaP) (by first | (simp; done) | exact hsmP)) (fun hHeld' => ?_); clear hK K hHeld hHeld' hbq hq hb
                (try simp only [Act.put, lsa, lsz, lss])
                have hq := hq33; have hb := hb33; clear hq33 hb33; have hHeld := S5.of hq (some (g2, mi, sep)) (some (gm, x.kind)) (by first | (simp; done) | exact hsaP) (by first | (simp; done) | exact hsmP); refine hrd 18 rfl (fun K hK => ?_); rw [if_pos (by kernel_rfl)]
                go_simp
                have hqf := hq.keep ((Below.refl _ _).alloc (Nat.le_refl _) (.cells #[.string sep, .string x.name, .string ⟨(eqL x.kind).toArray⟩, .string ⟨(quoteL x.text.data.toList).toArray⟩] 9)); refine hK.out _ _ (S5.of hqf _ _ hsaP hsmP) (fun hHeld' => ?_); clear hK K hHeld
                (try simp only [Act.put, lsa, lsz, lss])
                refine hrd 19 rfl (fun K hK => ?_); rw [if_pos (by kernel_rfl)]
                go_simp
                refine (CW.out X33 hb).mono ?_; rintro e' Z ⟨rfl, hstZ, hkpZ⟩
                dsimp only
                refine hK.out _ _ (S5.of (hqf.kp hkpZ gq5 hb5) _ _ hsaP hsmP) (fun hHeld => ?_); clear hK K hHeld hHeld'; refine wpAnyH_done (by kernel_rfl) ?_ _
                all_goals go_wp2
                all_goals exact ⟨⟨k + 1, by omega, by go_num, HEnd.out _ hstZ⟩, by simp [intOf]; omega⟩
            · rw [if_pos (by kernel_rfl)]
              go_simp
              refine (CQ.out X31).mono ?_; rintro e' X34 ⟨rfl, hbq⟩; have hq34 := hq.keep hbq; have hb34 := hb.trans (hbq.mono hb.size)
              dsimp only
              refine hK.out _ _ (S5.of hq34 (some (g2, mi, sep)) none (by first | (simp; done) | exact hsaP) (by first | (simp; done) | exact hsmP)) (fun hHeld' => ?_); clear hK K hHeld hHeld' hbq hq hb
              (try simp only [Act.put, lsa, lsz, lss])
              have hq := hq34; have hb := hb34; clear hq34 hb34; have hHeld := S5.of hq (some (g2, mi, sep)) none (by first | (simp; done) | exact hsaP) (by first | (simp; done) | exact hsmP); refine hrd 9 rfl (fun K hK => ?_)
              · rw [if_pos (by kernel_rfl)]
                obtain ⟨X35, hrun, hq35, hbi⟩ := Q5.ins hq hgq5 (by decide) 1 (by decide) ⟨#[61]⟩ (by decide); have hb35 := hb.trans hbi
                go_simp
                refine hK.out _ _ (S5.of hq35 (some (g2, mi, sep)) none (by first | (simp; done) | exact hsaP) (by simp)) (fun hHeld' => ?_); clear hK K hHeld hHeld' hrun hbi hq hb
                (try simp only [Act.put, lsa, lsz, lss])
                have hq := hq35; have hb := hb35; clear hq35 hb35; have hsmP : ∀ s, (some (gm, x.kind)) = some s → (s.2 = 1 ∨ s.2 = 2) ∧ ∃ n D, some (gm, 2, M21) = some (s.1, n, D) ∧ (D = M12 ∨ D = M21) := fun s hs => by cases hs; exact ⟨hxk, 2, M21, rfl, .inr rfl⟩
                have hq := show Q5 W3.heap.size wr.heap.size x _ (some (gm, 2, M21)) X35 from hq; refine wpAnyH_more (S' := S5 wr.heap.size x (some (g2, mi, sep)) (some (gm, x.kind))) (fun w h => S5.less (some (g2, mi, sep)) none (.inr rfl) (.inl rfl) h) _ _ _ _ ?_; have hHeld := S5.of hq (some (g2, mi, sep)) (some (gm, x.kind)) (by first | (simp; done) | exact hsaP) hsmP
                (refine htk 11 33 ?_ rfl ?_ ?_; rotate_left; (intro w hSw; clear hSw; go_simp); (try with_reducible rfl); simp only [lsz, lss])
                (refine htk 14 36 (.string ⟨(eqL x.kind).toArray⟩) rfl ?_ ?_; (intro w hSw; obtain ⟨-, -, -, -, g4⟩ := hSw; have g4 := g4 _ rfl; simp only at g4; go_simp); simp only [lsz, lss])
                refine hrd 18 rfl (fun K hK => ?_); rw [if_pos (by kernel_rfl)]
                go_simp
                have hqf := hq.keep ((Below.refl _ _).alloc (Nat.le_refl _) (.cells #[.string sep, .string x.name, .string ⟨(eqL x.kind).toArray⟩, .string ⟨(quoteL x.text.data.toList).toArray⟩] 9)); refine hK.out _ _ (S5.of hqf _ _ hsaP hsmP) (fun hHeld' => ?_); clear hK K hHeld
                (try simp only [Act.put, lsa, lsz, lss])
                refine hrd 19 rfl (fun K hK => ?_); rw [if_pos (by kernel_rfl)]
                go_simp
                refine (CW.out X35 hb).mono ?_; rintro e' Z ⟨rfl, hstZ, hkpZ⟩
                dsimp only
                refine hK.out _ _ (S5.of (hqf.kp hkpZ gq5 hb5) _ _ hsaP hsmP) (fun hHeld => ?_); clear hK K hHeld hHeld'; refine wpAnyH_done (by kernel_rfl) ?_ _
                all_goals go_wp2
                all_goals exact ⟨⟨k + 1, by omega, by go_num, HEnd.out _ hstZ⟩, by simp [intOf]; omega⟩
          · rw [if_pos (by kernel_rfl)]
            go_simp
            refine (CQ.out X25).mono ?_; rintro e' X36 ⟨rfl, hbq⟩; have hq36 := hq.keep hbq; have hb36 := hb.trans (hbq.mono hb.size)
            dsimp only
            refine hK.out _ _ (S5.of hq36 (some (g2, mi, sep)) none (by first | (simp; done) | exact hsaP) (by first | (simp; done) | exact hsmP)) (fun hHeld' => ?_); clear hK K hHeld hHeld' hbq hq hb
            (try simp only [Act.put, lsa, lsz, lss])
            have hq := hq36; have hb := hb36; clear hq36 hb36; have hHeld := S5.of hq (some (g2, mi, sep)) none (by first | (simp; done) | exact hsaP) (by first | (simp; done) | exact hsmP); refine wpAnyH_ready (rs := [9, 10]) (by kernel_rfl) (by simp) (.cons rfl (fun K hK => ?_) (.cons rfl (fun K hK => ?_) .nil))
            · rw [if_pos (by kernel_rfl)]
              obtain ⟨X37, hrun, hq37, hbi⟩ := Q5.ins hq hgq5 (by decide) 1 (by decide) ⟨#[61]⟩ (by decide); have hb37 := hb.trans hbi
              go_simp
              refine hK.out _ _ (S5.of hq37 (some (g2, mi, sep)) none (by first | (simp; done) | exact hsaP) (by simp)) (fun hHeld' => ?_); clear hK K hHeld hHeld' hrun hbi hq hb
              (try simp only [Act.put, lsa, lsz, lss])
              have hq := hq37; have hb := hb37; clear hq37 hb37; have hHeld := S5.of hq (some (g2, mi, sep)) none (by first | (simp; done) | exact hsaP) (by simp); refine hrd 10 rfl (fun K hK => ?_)
              · rw [if_pos (by kernel_rfl)]
                obtain ⟨X38, hrun, hq38, hbi⟩ := Q5.ins hq hgq5 (by decide) 2 (by decide) ⟨#[33, 61]⟩ (by decide); have hb38 := hb.trans hbi
                go_simp
                refine hK.out _ _ (S5.of hq38 (some (g2, mi, sep)) none (by first | (simp; done) | exact hsaP) (by simp)) (fun hHeld' => ?_); clear hK K hHeld hHeld' hrun hbi hq hb
                (try simp only [Act.put, lsa, lsz, lss])
                have hq := hq38; have hb := hb38; clear hq38 hb38; have hsmP : ∀ s, (some (gm, x.kind)) = some s → (s.2 = 1 ∨ s.2 = 2) ∧ ∃ n D, some (gm, 2, M12) = some (s.1, n, D) ∧ (D = M12 ∨ D = M21) := fun s hs => by cases hs; exact ⟨hxk, 2, M12, rfl, .inl rfl⟩
                have hq := show Q5 W3.heap.size wr.heap.size x _ (some (gm, 2, M12)) X38 from hq; refine wpAnyH_more (S' := S5 wr.heap.size x (some (g2, mi, sep)) (some (gm, x.kind))) (fun w h => S5.less (some (g2, mi, sep)) none (.inr rfl) (.inl rfl) h) _ _ _ _ ?_; have hHeld := S5.of hq (some (g2, mi, sep)) (some (gm, x.kind)) (by first | (simp; done) | exact hsaP) hsmP
                (refine htk 11 33 ?_ rfl ?_ ?_; rotate_left; (intro w hSw; clear hSw; go_simp); (try with_reducible rfl); simp only [lsz, lss])
                (refine htk 14 36 (.string ⟨(eqL x.kind).toArray⟩) rfl ?_ ?_; (intro w hSw; obtain ⟨-, -, -, -, g4⟩ := hSw; have g4 := g4 _ rfl; simp only at g4; go_simp); simp only [lsz, lss])
                refine hrd 18 rfl (fun K hK => ?_); rw [if_pos (by kernel_rfl)]
                go_simp
                have hqf := hq.keep ((Below.refl _ _).alloc (Nat.le_refl _) (.cells #[.string sep, .string x.name, .string ⟨(eqL x.kind).toArray⟩, .string ⟨(quoteL x.text.data.toList).toArray⟩] 9)); refine hK.out _ _ (S5.of hqf _ _ hsaP hsmP) (fun hHeld' => ?_); clear hK K hHeld
                (try simp only [Act.put, lsa, lsz, lss])
                refine hrd 19 rfl (fun K hK => ?_); rw [if_pos (by kernel_rfl)]
                go_simp
                refine (CW.out X38 hb).mono ?_; rintro e' Z ⟨rfl, hstZ, hkpZ⟩
                dsimp only
                refine hK.out _ _ (S5.of (hqf.kp hkpZ gq5 hb5) _ _ hsaP hsmP) (fun hHeld => ?_); clear hK K hHeld hHeld'; refine wpAnyH_done (by kernel_rfl) ?_ _
                all_goals go_wp2
                all_goals exact ⟨⟨k + 1, by omega, by go_num, HEnd.out _ hstZ⟩, by simp [intOf]; omega⟩
            · rw [if_pos (by kernel_rfl)]
              obtain ⟨X39, hrun, hq39, hbi⟩ := Q5.ins hq hgq5 (by decide) 2 (by decide) ⟨#[33, 61]⟩ (by decide); have hb39 := hb.trans hbi
              go_simp
              refine hK.out _ _ (S5.of hq39 (some (g2, mi, sep)) none (by first | (simp; done) | exact hsaP) (by simp)) (fun hHeld' => ?_); clear hK K hHeld hHeld' hrun hbi hq hb
              (try simp only [Act.put, lsa, lsz, lss])
              have hq := hq39; have hb := hb39; clear hq39 hb39; have hHeld := S5.of hq (some (g2, mi, sep)) none (by first | (simp; done) | exact hsaP) (by simp); refine hrd 9 rfl (fun K hK => ?_)
              · rw [if_pos (by kernel_rfl)]
                obtain ⟨X40, hrun, hq40, hbi⟩ := Q5.ins hq hgq5 (by decide) 1 (by decide) ⟨#[61]⟩ (by decide); have hb40 := hb.trans hbi
                go_simp
                refine hK.out _ _ (S5.of hq40 (some (g2, mi, sep)) none (by first | (simp; done) | exact hsaP) (by simp)) (fun hHeld' => ?_); clear hK K hHeld hHeld' hrun hbi hq hb
                (try simp only [Act.put, lsa, lsz, lss])
                have hq := hq40; have hb := hb40; clear hq40 hb40; have hsmP : ∀ s, (some (gm, x.kind)) = some s → (s.2 = 1 ∨ s.2 = 2) ∧ ∃ n D, some (gm, 2, M21) = some (s.1, n, D) ∧ (D = M12 ∨ D = M21) := fun s hs => by cases hs; exact ⟨hxk, 2, M21, rfl, .inr rfl⟩
                have hq := show Q5 W3.heap.size wr.heap.size x _ (some (gm, 2, M21)) X40 from hq; refine wpAnyH_more (S' := S5 wr.heap.size x (some (g2, mi, sep)) (some (gm, x.kind))) (fun w h => S5.less (some (g2, mi, sep)) none (.inr rfl) (.inl rfl) h) _ _ _ _ ?_; have hHeld := S5.of hq (some (g2, mi, sep)) (some (gm, x.kind)) (by first | (simp; done) | exact hsaP) hsmP
                (refine htk 11 33 ?_ rfl ?_ ?_; rotate_left; (intro w hSw; clear hSw; go_simp); (try with_reducible rfl); simp only [lsz, lss])
                (refine htk 14 36 (.string ⟨(eqL x.kind).toArray⟩) rfl ?_ ?_; (intro w hSw; obtain ⟨-, -, -, -, g4⟩ := hSw; have g4 := g4 _ rfl; simp only at g4; go_simp); simp only [lsz, lss])
                refine hrd 18 rfl (fun K hK => ?_); rw [if_pos (by kernel_rfl)]
                go_simp
                have hqf := hq.keep ((Below.refl _ _).alloc (Nat.le_refl _) (.cells #[.string sep, .string x.name, .string ⟨(eqL x.kind).toArray⟩, .string ⟨(quoteL x.text.data.toList).toArray⟩] 9)); refine hK.out _ _ (S5.of hqf _ _ hsaP hsmP) (fun hHeld' => ?_); clear hK K hHeld
                (try simp only [Act.put, lsa, lsz, lss])
                refine hrd 19 rfl (fun K hK => ?_); rw [if_pos (by kernel_rfl)]
                go_simp
                refine (CW.out X40 hb).mono ?_; rintro e' Z ⟨rfl, hstZ, hkpZ⟩
                dsimp only
                refine hK.out _ _ (S5.of (hqf.kp hkpZ gq5 hb5) _ _ hsaP hsmP) (fun hHeld => ?_); clear hK K hHeld hHeld'; refine wpAnyH_done (by kernel_rfl) ?_ _
                all_goals go_wp2
                all_goals exact ⟨⟨k + 1, by omega, by go_num, HEnd.out _ hstZ⟩, by simp [intOf]; omega⟩
        · rw [if_pos (by kernel_rfl)]
          obtain ⟨X41, hrun, hq41, hbi⟩ := Q5.ins hq hgq5 (by decide) 1 (by decide) ⟨#[61]⟩ (by decide); have hb41 := hb.trans hbi
          go_simp
          refine hK.out _ _ (S5.of hq41 none none (by first | (simp; done) | exact hsaP) (by simp)) (fun hHeld' => ?_); clear hK K hHeld hHeld' hrun hbi hq hb
          (try simp only [Act.put, lsa, lsz, lss])
          have hq := hq41; have hb := hb41; clear hq41 hb41; have hHeld := S5.of hq none none (by first | (simp; done) | exact hsaP) (by simp); refine wpAnyH_ready (rs := [1, 10, 17]) (by kernel_rfl) (by simp) (.cons rfl (fun K hK => ?_) (.cons rfl (fun K hK => ?_) (.cons rfl (fun K hK => ?_) .nil)))
          · rw [if_pos (by kernel_rfl)]
            go_simp
            have hq42 := Q5.slice hq (hb.size); have hb42 := hb.alloc hb.size (.cells sepC.toArray 9); refine hK.out _ _ (S5.of hq42 none none (by simp) (by first | (simp; done) | exact hsmP)) (fun hHeld' => ?_); clear hK K hHeld hHeld'
            (try simp only [Act.put, lsa, lsz, lss])
            have hga : ∃ g2, X41.heap.size = g2 := ⟨_, rfl⟩; obtain ⟨g2, hg2⟩ := hga; obtain ⟨X42, hX42⟩ : ∃ Y, X41.alloc (.cells sepC.toArray 9) = Y := ⟨_, rfl⟩; rw [hX42, hg2] at hq42; rw [hX42] at hb42; have hX42' : X41.alloc (.cells #[.string ⟨#[123]⟩, .string ⟨#[44, 32]⟩] 9) = X42 := hX42
            first | rw [hX42', hg2] | rw [hX42, hg2]
            clear hX42 hX42' hg2 hq hb; have hq := hq42; have hb := hb42; clear hq42 hb42; have hsaP : ∀ s, (some (g2, mi, sep)) = some s → some g2 = some s.1 ∧ sepC[s.2.1]? = some (.string s.2.2) := fun s hs => by cases hs; exact ⟨rfl, hsepc⟩
            refine wpAnyH_more (S' := S5 wr.heap.size x (some (g2, mi, sep)) none) (fun w h => S5.less none none (.inl rfl) (.inr rfl) h) _ _ _ _ ?_; have hHeld := S5.of hq (some (g2, mi, sep)) none hsaP (by first | (simp; done) | exact hsmP)
            (refine htk 4 28 ?_ rfl ?_ ?_; rotate_left; (intro w hSw; clear hSw; go_simp); (try with_reducible rfl); simp only [lsz, lss])
            (refine htk 5 29 (.string sep) rfl ?_ ?_; (intro w hSw; obtain ⟨-, -, -, g3, -⟩ := hSw; have g3 := g3 _ rfl; simp only at g3; go_simp); simp only [lsz, lss])
            refine wpAnyH_ready (rs := [10, 17]) (by kernel_rfl) (by simp) (.cons rfl (fun K hK => ?_) (.cons rfl (fun K hK => ?_) .nil))
            · rw [if_pos (by kernel_rfl)]
              obtain ⟨X43, hrun, hq43, hbi⟩ := Q5.ins hq hgq5 (by decide) 2 (by decide) ⟨#[33, 61]⟩ (by decide); have hb43 := hb.trans hbi
              go_simp
              refine hK.out _ _ (S5.of hq43 (some (g2, mi, sep)) none (by first | (simp; done) | exact hsaP) (by simp)) (fun hHeld' => ?_); clear hK K hHeld hHeld' hrun hbi hq hb
              (try simp only [Act.put, lsa, lsz, lss])
              have hq := hq43; have hb := hb43; clear hq43 hb43; have hsmP : ∀ s, (some (gm, x.kind)) = some s → (s.2 = 1 ∨ s.2 = 2) ∧ ∃ n D, some (gm, 2, M12) = some (s.1, n, D) ∧ (D = M12 ∨ D = M21) := fun s hs => by cases hs; exact ⟨hxk, 2, M12, rfl, .inl rfl⟩
              have hq := show Q5 W3.heap.size wr.heap.size x _ (some (gm, 2, M12)) X43 from hq; refine wpAnyH_more (S' := S5 wr.heap.size x (some (g2, mi, sep)) (some (gm, x.kind))) (fun w h => S5.less (some (g2, mi, sep)) none (.inr rfl) (.inl rfl) h) _ _ _ _ ?_; have hHeld := S5.of hq (some (g2, mi, sep)) (some (gm, x.kind)) (by first | (simp; done) | exact hsaP) hsmP
              (refine htk 11 33 ?_ rfl ?_ ?_; rotate_left; (intro w hSw; clear hSw; go_simp); (try with_reducible rfl); simp only [lsz, lss])
              (refine htk 14 36 (.string ⟨(eqL x.kind).toArray⟩) rfl ?_ ?_; (intro w hSw; obtain ⟨-, -, -, -, g4⟩ := hSw; have g4 := g4 _ rfl; simp only at g4; go_simp); simp only [lsz, lss])
              refine hrd 17 rfl (fun K hK => ?_)
              · rw [if_pos (by kernel_rfl)]
                go_simp
                refine (CQ.out X43).mono ?_; rintro e' X44 ⟨rfl, hbq⟩; have hq44 := hq.keep hbq; have hb44 := hb.trans (hbq.mono hb.size)
                dsimp only
                refine hK.out _ _ (S5.of hq44 (some (g2, mi, sep)) (some (gm, x.kind)) (by first | (simp; done) | exact hsaP) (by first | (simp; done) | exact hsmP)) (fun hHeld' => ?_); clear hK K hHeld hHeld' hbq hq hb
                (try simp only [Act.put, lsa, lsz, lss])
                have hq := hq44; have hb := hb44; clear hq44 hb44; have hHeld := S5.of hq (some (g2, mi, sep)) (some (gm, x.kind)) (by first | (simp; done) | exact hsaP) (by first | (simp; done) | exact hsmP); refine hrd 18 rfl (fun K hK => ?_); rw [if_pos (by kernel_rfl)]
                go_simp
                have hqf := hq.keep ((Below.refl _ _).alloc (Nat.le_refl _) (.cells #[.string sep, .string x.name, .string ⟨(eqL x.kind).toArray⟩, .string ⟨(quoteL x.text.data.toList).toArray⟩] 9)); refine hK.out _ _ (S5.of hqf _ _ hsaP hsmP) (fun hHeld' => ?_); clear hK K hHeld
                (try simp only [Act.put, lsa, lsz, lss])
                refine hrd 19 rfl (fun K hK => ?_); rw [if_pos (by kernel_rfl)]
                go_simp
                refine (CW.out X44 hb).mono ?_; rintro e' Z ⟨rfl, hstZ, hkpZ⟩
                dsimp only
                refine hK.out _ _ (S5.of (hqf.kp hkpZ gq5 hb5) _ _ hsaP hsmP) (fun hHeld => ?_); clear hK K hHeld hHeld'; refine wpAnyH_done (by kernel_rfl) ?_ _
                all_goals go_wp2
                all_goals exact ⟨⟨k + 1, by omega, by go_num, HEnd.out _ hstZ⟩, by simp [intOf]; omega⟩
            · rw [if_pos (by kernel_rfl)]
              go_simp
              refine (CQ.out X42).mono ?_; rintro e' X45 ⟨rfl, hbq⟩; have hq45 := hq.keep hbq; have hb45 := hb.trans (hbq.mono hb.size)
              dsimp only
              refine hK.out _ _ (S5.of hq45 (some (g2, mi, sep)) none (by first | (simp; done) | exact hsaP) (by first | (simp; done) | exact hsmP)) (fun hHeld' => ?_); clear hK K hHeld hHeld' hbq hq hb
              (try simp only [Act.put, lsa, lsz, lss])
              have hq := hq45; have hb := hb45; clear hq45 hb45; have hHeld := S5.of hq (some (g2, mi, sep)) none (by first | (simp; done) | exact hsaP) (by first | (simp; done) | exact hsmP); refine hrd 10 rfl (fun K hK => ?_)
              · rw [if_pos (by kernel_rfl)]
                obtain ⟨X46, hrun, hq46, hbi⟩ := Q5.ins hq hgq5 (by decide) 2 (by decide) ⟨#[33, 61]⟩ (by decide); have hb46 := hb.trans hbi
                go_simp
                refine hK.out _ _ (S5.of hq46 (some (g2, mi, sep)) none (by first | (simp; done) | exact hsaP) (by simp)) (fun hHeld' => ?_); clear hK K hHeld hHeld' hrun hbi hq hb
                (try simp only [Act.put, lsa, lsz, lss])
                have hq := hq46; have hb := hb46; clear hq46 hb46; have hsmP : ∀ s, (some (gm, x.kind)) = some s → (s.2 = 1 ∨ s.2 = 2) ∧ ∃ n D, some (gm, 2, M12) = some (s.1, n, D) ∧ (D = M12 ∨ D = M21) := fun s hs => by cases hs; exact ⟨hxk, 2, M12, rfl, .inl rfl⟩
                have hq := show Q5 W3.heap.size wr.heap.size x _ (some (gm, 2, M12)) X46 from hq; refine wpAnyH_more (S' := S5 wr.heap.size x (some (g2, mi, sep)) (some (gm, x.kind))) (fun w h => S5.less (some (g2, mi, sep)) none (.inr rfl) (.inl rfl) h) _ _ _ _ ?_; have hHeld := S5.of hq (some (g2, mi, sep)) (some (gm, x.kind)) (by first | (simp; done) | exact hsaP) hsmP
                (refine htk 11 33 ?_ rfl ?_ ?_; rotate_left; (intro w hSw; clear hSw; go_simp); (try with_reducible rfl); simp only [lsz, lss])
                (refine htk 14 36 (.string ⟨(eqL x.kind).toArray⟩) rfl ?_ ?_; (intro w hSw; obtain ⟨-, -, -, -, g4⟩ := hSw; have g4 := g4 _ rfl; simp only at g4; go_simp); simp only [lsz, lss])
                refine hrd 18 rfl (fun K hK => ?_); rw [if_pos (by kernel_rfl)]
                go_simp
                have hqf := hq.keep ((Below.refl _ _).alloc (Nat.le_refl _) (.cells #[.string sep, .string x.name, .string ⟨(eqL x.kind).toArray⟩, .string ⟨(quoteL x.text.data.toList).toArray⟩] 9)); refine hK.out _ _ (S5.of hqf _ _ hsaP hsmP) (fun hHeld' => ?_); clear hK K hHeld
                (try simp only [Act.put, lsa, lsz, lss])
                refine hrd 19 rfl (fun K hK => ?_); rw [if_pos (by kernel_rfl)]
                go_simp
                refine (CW.out X46 hb).mono ?_; rintro e' Z ⟨rfl, hstZ, hkpZ⟩
                dsimp only
                refine hK.out _ _ (S5.of (hqf.kp hkpZ gq5 hb5) _ _ hsaP hsmP) (fun hHeld => ?_); clear hK K hHeld hHeld'; refine wpAnyH_done (by kernel_rfl) ?_ _
                all_goals go_wp2
                all_goals exact ⟨⟨k + 1, by omega, by go_num, HEnd.out _ hstZ⟩, by simp [intOf]; omega⟩
          · rw [if_pos (by kernel_rfl)]
            obtain ⟨X47, hrun, hq47, hbi⟩ := Q5.ins hq hgq5 (by decide) 2 (by decide) ⟨#[33, 61]⟩ (by decide); have hb47 := hb.trans hbi
            go_simp
            refine hK.out _ _ (S5.of hq47 none none (by first | (simp; done) | exact hsaP) (by simp)) (fun hHeld' => ?_); clear hK K hHeld hHeld' hrun hbi hq hb
            (try simp only [Act.put, lsa, lsz, lss])
            have hq := hq47; have hb := hb47; clear hq47 hb47; have hsmP : ∀ s, (some (gm, x.kind)) = some s → (s.2 = 1 ∨ s.2 = 2) ∧ ∃ n D, some (gm, 2, M12) = some (s.1, n, D) ∧ (D = M12 ∨ D = M21) := fun s hs => by cases hs; exact ⟨hxk, 2, M12, rfl, .inl rfl⟩
            have hq := show Q5 W3.heap.size wr.heap.size x _ (some (gm, 2, M12)) X47 from hq; refine wpAnyH_more (S' := S5 wr.heap.size x none (some (gm, x.kind))) (fun w h => S5.less none none (.inr rfl) (.inl rfl) h) _ _ _ _ ?_; have hHeld := S5.of hq none (some (gm, x.kind)) (by first | (simp; done) | exact hsaP) hsmP
            (refine htk 11 33 ?_ rfl ?_ ?_; rotate_left; (intro w hSw; clear hSw; go_simp); (try with_reducible rfl); simp only [lsz, lss])
            (refine htk 14 36 (.string ⟨(eqL x.kind).toArray⟩) rfl ?_ ?_; (intro w hSw; obtain ⟨-, -, -, -, g4⟩ := hSw; have g4 := g4 _ rfl; simp only at g4; go_simp); simp only [lsz, lss])
            refine wpAnyH_ready (rs := [1, 17]) (by kernel_rfl) (by simp) (.cons rfl (fun K hK => ?_) (.cons rfl (fun K hK => ?_) .nil))
            · rw [if_pos (by kernel_rfl)]
              go_simp
              have hq48 := Q5.slice hq (hb.size); have hb48 := hb.alloc hb.size (.cells sepC.toArray 9); refine hK.out _ _ (S5.of hq48 none (some (gm, x.kind)) (by simp) (by first | (simp; done) | exact hsmP)) (fun hHeld' => ?_); clear hK K hHeld hHeld'
              (try simp only [Act.put, lsa, lsz, lss])
              have hga : ∃ g2, X47.heap.size = g2 := ⟨_, rfl⟩; obtain ⟨g2, hg2⟩ := hga; obtain ⟨X48, hX48⟩ : ∃ Y, X47.alloc (.cells sepC.toArray 9) = Y := ⟨_, rfl⟩; rw [hX48, hg2] at hq48; rw [hX48] at hb48; have hX48' : X47.alloc (.cells #[.string ⟨#[123]⟩, .string ⟨#[44, 32]⟩] 9) = X48 := hX48
              first | rw [hX48', hg2] | rw [hX48, hg2]
              clear hX48 hX48' hg2 hq hb; have hq := hq48; have hb := hb48; clear hq48 hb48; have hsaP : ∀ s, (some (g2, mi, sep)) = some s → some g2 = some s.1 ∧ sepC[s.2.1]? = some (.string s.2.2) := fun s hs => by cases hs; exact ⟨rfl, hsepc⟩
              refine wpAnyH_more (S' := S5 wr.heap.size x (some (g2, mi, sep)) (some (gm, x.kind))) (fun w h => S5.less none (some (gm, x.kind)) (.inl rfl) (.inr rfl) h) _ _ _ _ ?_; have hHeld := S5.of hq (some (g2, mi, sep)) (some (gm, x.kind)) hsaP (by first | (simp; done) | exact hsmP)
              (refine htk 4 28 ?_ rfl ?_ ?_; rotate_left; (intro w hSw; clear hSw; go_simp); (try with_reducible rfl); simp only [lsz, lss])
              (refine htk 5 29 (.string sep) rfl ?_ ?_; (intro w hSw; obtain ⟨-, -, -, g3, -⟩ := hSw; have g3 := g3 _ rfl; simp only at g3; go_simp); simp only [lsz, lss])
              refine hrd 17 rfl (fun K hK => ?_)
              · rw [if_pos (by kernel_rfl)]
                go_simp
                refine (CQ.out X48).mono ?_; rintro e' X49 ⟨rfl, hbq⟩; have hq49 := hq.keep hbq; have hb49 := hb.trans (hbq.mono hb.size)
                dsimp only
                refine hK.out _ _ (S5.of hq49 (some (g2, mi, sep)) (some (gm, x.kind)) (by first | (simp; done) | exact hsaP) (by first | (simp; done) | exact hsmP)) (fun hHeld' => ?_); clear hK K hHeld hHeld' hbq hq hb
                (try simp only [Act.put, lsa, lsz, lss])
                have hq := hq49; have hb := hb49; clear hq49 hb49; have hHeld := S5.of hq (some (g2, mi, sep)) (some (gm, x.kind)) (by first | (simp; done) | exact hsaP) (by first | (simp; done) | exact hsmP); refine hrd 18 rfl (fun K hK => ?_); rw [if_pos (by kernel_rfl)]
                go_simp
                have hqf := hq.keep ((Below.refl _ _).alloc (Nat.le_refl _) (.cells #[.string sep, .string x.name, .string ⟨(eqL x.kind).toArray⟩, .string ⟨(quoteL x.text.data.toList).toArray⟩] 9)); refine hK.out _ _ (S5.of hqf _ _ hsaP hsmP) (fun hHeld' => ?_); clear hK K hHeld
                (try simp only [Act.put, lsa, lsz, lss])
                refine hrd 19 rfl (fun K hK => ?_); rw [if_pos (by kernel_rfl)]
                go_simp
                refine (CW.out X49 hb).mono ?_; rintro e' Z ⟨rfl, hstZ, hkpZ⟩
                dsimp only
                refine hK.out _ _ (S5.of (hqf.kp hkpZ gq5 hb5) _ _ hsaP hsmP) (fun hHeld => ?_); clear hK K hHeld hHeld'; refine wpAnyH_done (by kernel_rfl) ?_ _
                all_goals go_wp2
                all_goals exact ⟨⟨k + 1, by omega, by go_num, HEnd.out _ hstZ⟩, by simp [intOf]; omega⟩
            · rw [if_pos (by kernel_rfl)]
              go_simp
              refine (CQ.out X47).mono ?_; rintro e' X50 ⟨rfl, hbq⟩; have hq50 := hq.keep hbq; have hb50 := hb.trans (hbq.mono hb.size)
              dsimp only
              refine hK.out _ _ (S5.of hq50 none (some (gm, x.kind)) (by first | (simp; done) | exact hsaP) (by first | (simp; done) | exact hsmP)) (fun hHeld' => ?_); clear hK K hHeld hHeld' hbq hq hb
              (try simp only [Act.put, lsa, lsz, lss])
              have hq := hq50; have hb := hb50; clear hq50 hb50; have hHeld := S5.of hq none (some (gm, x.kind)) (by first | (simp; done) | exact hsaP) (by first | (simp; done) | exact hsmP); refine hrd 1 rfl (fun K hK => ?_)
              · rw [if_pos (by kernel_rfl)]
                go_simp
                have hq51 := Q5.slice hq (hb.size); have hb51 := hb.alloc hb.size (.cells sepC.toArray 9); refine hK.out _ _ (S5.of hq51 none (some (gm, x.kind)) (by simp) (by first | (simp; done) | exact hsmP)) (fun hHeld' => ?_); clear hK K hHeld hHeld'
                (try simp only [Act.put, lsa, lsz, lss])
                have hga : ∃ g2, X50.heap.size = g2 := ⟨_, rfl⟩; obtain ⟨g2, hg2⟩ := hga; obtain ⟨X51, hX51⟩ : ∃ Y, X50.alloc (.cells sepC.toArray 9) = Y := ⟨_, rfl⟩; rw [hX51, hg2] at hq51; rw [hX51] at hb51; have hX51' : X50.alloc (.cells #[.string ⟨#[123]⟩, .string ⟨#[44, 32]⟩] 9) = X51 := hX51
                first | rw [hX51', hg2] | rw [hX51, hg2]
                clear hX51 hX51' hg2 hq hb; have hq := hq51; have hb := hb51; clear hq51 hb51; have hsaP : ∀ s, (some (g2, mi, sep)) = some s → some g2 = some s.1 ∧ sepC[s.2.1]? = some (.string s.2.2) := fun s hs => by cases hs; exact ⟨rfl, hsepc⟩
                refine wpAnyH_more (S' := S5 wr.heap.size x (some (g2, mi, sep)) (some (gm, x.kind))) (fun w h => S5.less none (some (gm, x.kind)) (.inl rfl) (.inr rfl) h) _ _ _ _ ?_; have hHeld := S5.of hq (some (g2, mi, sep)) (some (gm, x.kind)) hsaP (by first | (simp; done) | exact hsmP)
                (refine htk 4 28 ?_ rfl ?_ ?_; rotate_left; (intro w hSw; clear hSw; go_simp); (try with_reducible rfl); simp only [lsz, lss])
                (refine htk 5 29 (.string sep) rfl ?_ ?_; (intro w hSw; obtain ⟨-, -, -, g3, -⟩ := hSw; have g3 := g3 _ rfl; simp only at g3; go_simp); simp only [lsz, lss])
                refine hrd 18 rfl (fun K hK => ?_); rw [if_pos (by kernel_rfl)]
                go_simp
                have hqf := hq.keep ((Below.refl _ _).alloc (Nat.le_refl _) (.cells #[.string sep, .string x.name, .string ⟨(eqL x.kind).toArray⟩, .string ⟨(quoteL x.text.data.toList).toArray⟩] 9)); refine hK.out _ _ (S5.of hqf _ _ hsaP hsmP) (fun hHeld' => ?_); clear hK K hHeld
                (try simp only [Act.put, lsa, lsz, lss])
                refine hrd 19 rfl (fun K hK => ?_); rw [if_pos (by kernel_rfl)]
                go_simp
                refine (CW.out X51 hb).mono ?_; rintro e' Z ⟨rfl, hstZ, hkpZ⟩
                dsimp only
                refine hK.out _ _ (S5.of (hqf.kp hkpZ gq5 hb5) _ _ hsaP hsmP) (fun hHeld => ?_); clear hK K hHeld hHeld'; refine wpAnyH_done (by kernel_rfl) ?_ _
                all_goals go_wp2
                all_goals exact ⟨⟨k + 1, by omega, by go_num, HEnd.out _ hstZ⟩, by simp [intOf]; omega⟩
          · rw [if_pos (by kernel_rfl)]
            go_simp
            refine (CQ.out X41).mono ?_; rintro e' X52 ⟨rfl, hbq⟩; have hq52 := hq.keep hbq; have hb52 := hb.trans (hbq.mono hb.size)
            dsimp only
            refine hK.out _ _ (S5.of hq52 none none (by first | (simp; done) | exact hsaP) (by first | (simp; done) | exact hsmP)) (fun hHeld' => ?_); clear hK K hHeld hHeld' hbq hq hb
            (try simp only [Act.put, lsa, lsz, lss])
            have hq := hq52; have hb := hb52; clear hq52 hb52; have hHeld := S5.of hq none none (by first | (simp; done) | exact hsaP) (by first | (simp; done) | exact hsmP); refine wpAnyH_ready (rs := [1, 10]) (by kernel_rfl) (by simp) (.cons rfl (fun K hK => ?_) (.cons rfl (fun K hK => ?_) .nil))
            · rw [if_pos (by kernel_rfl)]
              go_simp
              have hq53 := Q5.slice hq (hb.size); have hb53 := hb.alloc hb.size (.cells sepC.toArray 9); refine hK.out _ _ (S5.of hq53 none none (by simp) (by first | (simp; done) | exact hsmP)) (fun hHeld' => ?_); clear hK K hHeld hHeld'
              (try simp only [Act.put, lsa, lsz, lss])
              have hga : ∃ g2, X52.heap.size = g2 := ⟨_, rfl⟩; obtain ⟨g2, hg2⟩ := hga; obtain ⟨X53, hX53⟩ : ∃ Y, X52.alloc (.cells sepC.toArray 9) = Y := ⟨_, rfl⟩; rw [hX53, hg2] at hq53; rw [hX53] at hb53; have hX53' : X52.alloc (.cells #[.string ⟨#[123]⟩, .string ⟨#[44, 32]⟩] 9) = X53 := hX53
              first | rw [hX53', hg2] | rw [hX53, hg2]
              clear hX53 hX53' hg2 hq hb; have hq := hq53; have hb := hb53; clear hq53 hb53; have hsaP : ∀ s, (some (g2, mi, sep)) = some s → some g2 = some s.1 ∧ sepC[s.2.1]? = some (.string s.2.2) := fun s hs => by cases hs; exact ⟨rfl, hsepc⟩
              refine wpAnyH_more (S' := S5 wr.heap.size x (some (g2, mi, sep)) none) (fun w h => S5.less none none (.inl rfl) (.inr rfl) h) _ _ _ _ ?_; have hHeld := S5.of hq (some (g2, mi, sep)) none hsaP (by first | (simp; done) | exact hsmP)
              (refine htk 4 28 ?_ rfl ?_ ?_; rotate_left; (intro w hSw; clear hSw; go_simp); (try with_reducible rfl); simp only [lsz, lss])
              (refine htk 5 29 (.string sep) rfl ?_ ?_; (intro w hSw; obtain ⟨-, -, -, g3, -⟩ := hSw; have g3 := g3 _ rfl; simp only at g3; go_simp); simp only [lsz, lss])
              refine hrd 10 rfl (fun K hK => ?_)
              · rw [if_pos (by kernel_rfl)]
                obtain ⟨X54, hrun, hq54, hbi⟩ := Q5.ins hq hgq5 (by decide) 2 (by decide) ⟨#[33, 61]⟩ (by decide); have hb54 := hb.trans hbi
                go_simp
                refine hK.out _ _ (S5.of hq54 (some (g2, mi, sep)) none (by first | (simp; done) | exact hsaP) (by simp)) (fun hHeld' => ?_); clear hK K hHeld hHeld' hrun hbi hq hb
                (try simp only [Act.put, lsa, lsz, lss])
                have hq := hq54; have hb := hb54; clear hq54 hb54; have hsmP : ∀ s, (some (gm, x.kind)) = some s → (s.2 = 1 ∨ s.2 = 2) ∧ ∃ n D, some (gm, 2, M12) = some (s.1, n, D) ∧ (D = M12 ∨ D = M21) := fun s hs => by cases hs; exact ⟨hxk, 2, M12, rfl, .inl rfl⟩
                have hq := show Q5 W3.heap.size wr.heap.size x _ (some (gm, 2, M12)) X54 from hq; refine wpAnyH_more (S' := S5 wr.heap.size x (some (g2, mi, sep)) (some (gm, x.kind))) (fun w h => S5.less (some (g2, mi, sep)) none (.inr rfl) (.inl rfl) h) _ _ _ _ ?_; have hHeld := S5.of hq (some (g2, mi, sep)) (some (gm, x.kind)) (by first | (simp; done) | exact hsaP) hsmP
                (refine htk 11 33 ?_ rfl ?_ ?_; rotate_left; (intro w hSw; clear hSw; go_simp); (try with_reducible rfl); simp only [lsz, lss])
                (refine htk 14 36 (.string ⟨(eqL x.kind).toArray⟩) rfl ?_ ?_; (intro w hSw; obtain ⟨-, -, -, -, g4⟩ := hSw; have g4 := g4 _ rfl; simp only at g4; go_simp); simp only [lsz, lss])
                refine hrd 18 rfl (fun K hK => ?_); rw [if_pos (by kernel_rfl)]
                go_simp
                have hqf := hq.keep ((Below.refl _ _).alloc (Nat.le_refl _) (.cells #[.string sep, .string x.name, .string ⟨(eqL x.kind).toArray⟩, .string ⟨(quoteL x.text.data.toList).toArray⟩] 9)); refine hK.out _ _ (S5.of hqf _ _ hsaP hsmP) (fun hHeld' => ?_); clear hK K hHeld
                (try simp only [Act.put, lsa, lsz, lss])
                refine hrd 19 rfl (fun K hK => ?_); rw [if_pos (by kernel_rfl)]
                go_simp
                refine (CW.out X54 hb).mono ?_; rintro e' Z ⟨rfl, hstZ, hkpZ⟩
                dsimp only
                refine hK.out _ _ (S5.of (hqf.kp hkpZ gq5 hb5) _ _ hsaP hsmP) (fun hHeld => ?_); clear hK K hHeld hHeld'; refine wpAnyH_done (by kernel_rfl) ?_ _
                all_goals go_wp2
                all_goals exact ⟨⟨k + 1, by omega, by go_num, HEnd.out _ hstZ⟩, by simp [intOf]; omega⟩
            · rw [if_pos (by kernel_rfl)]
              obtain ⟨X55, hrun, hq55, hbi⟩ := Q5.ins hq hgq5 (by decide) 2 (by decide) ⟨#[33, 61]⟩ (by decide); have hb55 := hb.trans hbi
              go_simp
              refine hK.out _ _ (S5.of hq55 none none (by first | (simp; done) | exact hsaP) (by simp)) (fun hHeld' => ?_); clear hK K hHeld hHeld' hrun hbi hq hb
              (try simp only [Act.put, lsa, lsz, lss])
              have hq := hq55; have hb := hb55; clear hq55 hb55; have hsmP : ∀ s, (some (gm, x.kind)) = some s → (s.2 = 1 ∨ s.2 = 2) ∧ ∃ n D, some (gm, 2, M12) = some (s.1, n, D) ∧ (D = M12 ∨ D = M21) := fun s hs => by cases hs; exact ⟨hxk, 2, M12, rfl, .inl rfl⟩
              have hq := show Q5 W3.heap.size wr.heap.size x _ (some (gm, 2, M12)) X55 from hq; refine wpAnyH_more (S' := S5 wr.heap.size x none (some (gm, x.kind))) (fun w h => S5.less none none (.inr rfl) (.inl rfl) h) _ _ _ _ ?_; have hHeld := S5.of hq none (some (gm, x.kind)) (by first | (simp; done) | exact hsaP) hsmP
              (refine htk 11 33 ?_ rfl ?_ ?_; rotate_left; (intro w hSw; clear hSw; go_simp); (try with_reducible rfl); simp only [lsz, lss])
              (refine htk 14 36 (.string ⟨(eqL x.kind).toArray⟩) rfl ?_ ?_; (intro w hSw; obtain ⟨-, -, -, -, g4⟩ := hSw; have g4 := g4 _ rfl; simp only at g4; go_simp); simp only [lsz, lss])
              refine hrd 1 rfl (fun K hK => ?_)
              · rw [if_pos (by kernel_rfl)]
                go_simp
                have hq56 := Q5.slice hq (hb.size); have hb56 := hb.alloc hb.size (.cells sepC.toArray 9); refine hK.out _ _ (S5.of hq56 none (some (gm, x.kind)) (by simp) (by first | (simp; done) | exact hsmP)) (fun hHeld' => ?_); clear hK K hHeld hHeld'
                (try simp only [Act.put, lsa, lsz, lss])
                have hga : ∃ g2, X55.heap.size = g2 := ⟨_, rfl⟩; obtain ⟨g2, hg2⟩ := hga; obtain ⟨X56, hX56⟩ : ∃ Y, X55.alloc (.cells sepC.toArray 9) = Y := ⟨_, rfl⟩; rw [hX56, hg2] at hq56; rw [hX56] at hb56; have hX56' : X55.alloc (.cells #[.string ⟨#[123]⟩, .string ⟨#[44, 32]⟩] 9) = X56 := hX56
                first | rw [hX56', hg2] | rw [hX56, hg2]
                clear hX56 hX56' hg2 hq hb; have hq := hq56; have hb := hb56; clear hq56 hb56; have hsaP : ∀ s, (some (g2, mi, sep)) = some s → some g2 = some s.1 ∧ sepC[s.2.1]? = some (.string s.2.2) := fun s hs => by cases hs; exact ⟨rfl, hsepc⟩
                refine wpAnyH_more (S' := S5 wr.heap.size x (some (g2, mi, sep)) (some (gm, x.kind))) (fun w h => S5.less none (some (gm, x.kind)) (.inl rfl) (.inr rfl) h) _ _ _ _ ?_; have hHeld := S5.of hq (some (g2, mi, sep)) (some (gm, x.kind)) hsaP (by first | (simp; done) | exact hsmP)
                (refine htk 4 28 ?_ rfl ?_ ?_; rotate_left; (intro w hSw; clear hSw; go_simp); (try with_reducible rfl); simp only [lsz, lss])
                (refine htk 5 29 (.string sep) rfl ?_ ?_; (intro w hSw; obtain ⟨-, -, -, g3, -⟩ := hSw; have g3 := g3 _ rfl; simp only at g3; go_simp); simp only [lsz, lss])
                refine hrd 18 rfl (fun K hK => ?_); rw [if_pos (by kernel_rfl)]
                go_simp
                have hqf := hq.keep ((Below.refl _ _).alloc (Nat.le_refl _) (.cells #[.string sep, .string x.name, .string ⟨(eqL x.kind).toArray⟩, .string ⟨(quoteL x.text.data.toList).toArray⟩] 9)); refine hK.out _ _ (S5.of hqf _ _ hsaP hsmP) (fun hHeld' => ?_); clear hK K hHeld
                (try simp only [Act.put, lsa, lsz, lss])
                refine hrd 19 rfl (fun K hK => ?_); rw [if_pos (by kernel_rfl)]
                go_simp
                refine (CW.out X56 hb).mono ?_; rintro e' Z ⟨rfl, hstZ, hkpZ⟩
                dsimp only
                refine hK.out _ _ (S5.of (hqf.kp hkpZ gq5 hb5) _ _ hsaP hsmP) (fun hHeld => ?_); clear hK K hHeld hHeld'; refine wpAnyH_done (by kernel_rfl) ?_ _
                all_goals go_wp2
                all_goals exact ⟨⟨k + 1, by omega, by go_num, HEnd.out _ hstZ⟩, by simp [intOf]; omega⟩
        · rw [if_pos (by kernel_rfl)]
          obtain ⟨X57, hrun, hq57, hbi⟩ := Q5.ins hq hgq5 (by decide) 2 (by decide) ⟨#[33, 61]⟩ (by decide); have hb57 := hb.trans hbi
          go_simp
          refine hK.out _ _ (S5.of hq57 none none (by first | (simp; done) | exact hsaP) (by simp)) (fun hHeld' => ?_); clear hK K hHeld hHeld' hrun hbi hq hb
          (try simp only [Act.put, lsa, lsz, lss])
          have hq := hq57; have hb := hb57; clear hq57 hb57; have hHeld := S5.of hq none none (by first | (simp; done) | exact hsaP) (by simp); refine wpAnyH_ready (rs := [1, 9, 17]) (by kernel_rfl) (by simp) (.cons rfl (fun K hK => ?_) (.cons rfl (fun K hK => ?_) (.cons rfl (fun K hK => ?_) .nil)))
          · rw [if_pos (by kernel_rfl)]
            go_simp
            have hq58 := Q5.slice hq (hb.size); have hb58 := hb.alloc hb.size (.cells sepC.toArray 9); refine hK.out _ _ (S5.of hq58 none none (by simp) (by first | (simp; done) | exact hsmP)) (fun hHeld' => ?_); clear hK K hHeld hHeld'
            (try simp only [Act.put, lsa, lsz, lss])
            have hga : ∃ g2, X57.heap.size = g2 := ⟨_, rfl⟩; obtain ⟨g2, hg2⟩ := hga; obtain ⟨X58, hX58⟩ : ∃ Y, X57.alloc (.cells sepC.toArray 9) = Y := ⟨_, rfl⟩; rw [hX58, hg2] at hq58; rw [hX58] at hb58; have hX58' : X57.alloc (.cells #[.string ⟨#[123]⟩, .string ⟨#[44, 32]⟩] 9) = X58 := hX58
            first | rw [hX58', hg2] | rw [hX58, hg2]
            clear hX58 hX58' hg2 hq hb; have hq := hq58; have hb := hb58; clear hq58 hb58; have hsaP : ∀ s, (some (g2, mi, sep)) = some s → some g2 = some s.1 ∧ sepC[s.2.1]? = some (.string s.2.2) := fun s hs => by cases hs; exact ⟨rfl, hsepc⟩
            refine wpAnyH_more (S' := S5 wr.heap.size x (some (g2, mi, sep)) none) (fun w h => S5.less none none (.inl rfl) (.inr rfl) h) _ _ _ _ ?_; have hHeld := S5.of hq (some (g2, mi, sep)) none hsaP (by first | (simp; done) | exact hsmP)
            (refine htk 4 28 ?_ rfl ?_ ?_; rotate_left; (intro w hSw; clear hSw; go_simp); (try with_reducible rfl); simp only [lsz, lss])
            (refine htk 5 29 (.string sep) rfl ?_ ?_; (intro w hSw; obtain ⟨-, -, -, g3, -⟩ := hSw; have g3 := g3 _ rfl; simp only at g3; go_simp); simp only [lsz, lss])
            refine wpAnyH_ready (rs := [9, 17]) (by kernel_rfl) (by simp) (.cons rfl (fun K hK => ?_) (.cons rfl (fun K hK => ?_) .nil))
            · rw [if_pos (by kernel_rfl)]
              obtain ⟨X59, hrun, hq59, hbi⟩ := Q5.ins hq hgq5 (by decide) 1 (by decide) ⟨#[61]⟩ (by decide); have hb59 := hb.trans hbi
              go_simp
              refine hK.out _ _ (S5.of hq59 (some (g2, mi, sep)) none (by first | (simp; done) | exact hsaP) (by simp)) (fun hHeld' => ?_); clear hK K hHeld hHeld' hrun hbi hq hb
              (try simp only [Act.put, lsa, lsz, lss])
              have hq := hq59; have hb := hb59; clear hq59 hb59; have hsmP : ∀ s, (some (gm, x.kind)) = some s → (s.2 = 1 ∨ s.2 = 2) ∧ ∃ n D, some (gm, 2, M21) = some (s.1, n, D) ∧ (D = M12 ∨ D = M21) := fun s hs => by cases hs; exact ⟨hxk, 2, M21, rfl, .inr rfl⟩
              have hq := show Q5 W3.heap.size wr.heap.size x _ (some (gm, 2, M21)) X59 from hq; refine wpAnyH_more (S' := S5 wr.heap.size x (some (g2, mi, sep)) (some (gm, x.kind))) (fun w h => S5.less (some (g2, mi, sep)) none (.inr rfl) (.inl rfl) h) _ _ _ _ ?_; have hHeld := S5.of hq (some (g2, mi, sep)) (some (gm, x.kind)) (by first | (simp; done) | exact hsaP) hsmP
              (refine htk 11 33 ?_ rfl ?_ ?_; rotate_left; (intro w hSw; clear hSw; go_simp); (try with_reducible rfl); simp only [lsz, lss])
              (refine htk 14 36 (.string ⟨(eqL x.kind).toArray⟩) rfl ?_ ?_; (intro w hSw; obtain ⟨-, -, -, -, g4⟩ := hSw; have g4 := g4 _ rfl; simp only at g4; go_simp); simp only [lsz, lss])
              refine hrd 17 rfl (fun K hK => ?_)
              · rw [if_pos (by kernel_rfl)]
                go_simp
                refine (CQ.out X59).mono ?_; rintro e' X60 ⟨rfl, hbq⟩; have hq60 := hq.keep hbq; have hb60 := hb.trans (hbq.mono hb.size)
                dsimp only
                refine hK.out _ _ (S5.of hq60 (some (g2, mi, sep)) (some (gm, x.kind)) (by first | (simp; done) | exact hsaP) (by first | (simp; done) | exact hsmP)) (fun hHeld' => ?_); clear hK K hHeld hHeld' hbq hq hb
                (try simp only [Act.put, lsa, lsz, lss])
                have hq := hq60; have hb := hb60; clear hq60 hb60; have hHeld := S5.of hq (some (g2, mi, sep)) (some (gm, x.kind)) (by first | (simp; done) | exact hsaP) (by first | (simp; done) | exact hsmP); refine hrd 18 rfl (fun K hK => ?_); rw [if_pos (by kernel_rfl)]
                go_simp
                have hqf := hq.keep ((Below.refl _ _).alloc (Nat.le_refl _) (.cells #[.string sep, .string x.name, .string ⟨(eqL x.kind).toArray⟩, .string ⟨(quoteL x.text.data.toList).toArray⟩] 9)); refine hK.out _ _ (S5.of hqf _ _ hsaP hsmP) (fun hHeld' => ?_); clear hK K hHeld
                (try simp only [Act.put, lsa, lsz, lss])
                refine hrd 19 rfl (fun K hK => ?_); rw [if_pos (by kernel_rfl)]
                go_simp
                refine (CW.out X60 hb).mono ?_; rintro e' Z ⟨rfl, hstZ, hkpZ⟩
                dsimp only
                refine hK.out _ _ (S5.of (hqf.kp hkpZ gq5 hb5) _ _ hsaP hsmP) (fun hHeld => ?_); clear hK K hHeld hHeld'; refine wpAnyH_done (by kernel_rfl) ?_ _
                all_goals go_wp2
                all_goals exact ⟨⟨k + 1, by omega, by go_num, HEnd.out _ hstZ⟩, by simp [intOf]; omega⟩
            · rw [if_pos (by kernel_rfl)]
              go_simp
              refine (CQ.out X58).mono ?_; rintro e' X61 ⟨rfl, hbq⟩; have hq61 := hq.keep hbq; have hb61 := hb.trans (hbq.mono hb.size)
              dsimp only
              refine hK.out _ _ (S5.of hq61 (some (g2, mi, sep)) none (by first | (simp; done) | exact hsaP) (by first | (simp; done) | exact hsmP)) (fun hHeld' => ?_); clear hK K hHeld hHeld' hbq hq hb
              (try simp only [Act.put, lsa, lsz, lss])
              have hq := hq61; have hb := hb61; clear hq61 hb61; have hHeld := S5.of hq (some (g2, mi, sep)) none (by first | (simp; done) | exact hsaP) (by first | (simp; done) | exact hsmP); refine hrd 9 rfl (fun K hK => ?_)
              · rw [if_pos (by kernel_rfl)]
                obtain ⟨X62, hrun, hq62, hbi⟩ := Q5.ins hq hgq5 (by decide) 1 (by decide) ⟨#[61]⟩ (by decide); have hb62 := hb.trans hbi
                go_simp
                refine hK.out _ _ (S5.of hq62 (some (g2, mi, sep)) none (by first | (simp; done) | exact hsaP) (by simp)) (fun hHeld' => ?_); clear hK K hHeld hHeld' hrun hbi hq hb
                (try simp only [Act.put, lsa, lsz, lss])
                have hq := hq62; have hb := hb62; clear hq62 hb62; have hsmP : ∀ s, (some (gm, x.kind)) = some s → (s.2 = 1 ∨ s.2 = 2) ∧ ∃ n D, some (gm, 2, M21) = some (s.1, n, D) ∧ (D = M12 ∨ D = M21) := fun s hs => by cases hs; exact ⟨hxk, 2, M21, rfl, .inr rfl⟩
                have hq := show Q5 W3.heap.size wr.heap.size x _ (some (gm, 2, M21)) X62 from hq; refine wpAnyH_more (S' := S5 wr.heap.size x (some (g2, mi, sep)) (some (gm, x.kind))) (fun w h => S5.less (some (g2, mi, sep)) none (.inr rfl) (.inl rfl) h) _ _ _ _ ?_; have hHeld := S5.of hq (some (g2, mi, sep)) (some (gm, x.kind)) (by first | (simp; done) | exact hsaP) hsmP
                (refine htk 11 33 ?_ rfl ?_ ?_; rotate_left; (intro w hSw; clear hSw; go_simp); (try with_reducible rfl); simp only [lsz, lss])
                (refine htk 14 36 (.string ⟨(eqL x.kind).toArray⟩) rfl ?_ ?_; (intro w hSw; obtain ⟨-, -, -, -, g4⟩ := hSw; have g4 := g4 _ rfl; simp only at g4; go_simp); simp only [lsz, lss])
                refine hrd 18 rfl (fun K hK => ?_); rw [if_pos (by kernel_rfl)]
                go_simp
                have hqf := hq.keep ((Below.refl _ _).alloc (Nat.le_refl _) (.cells #[.string sep, .string x.name, .string ⟨(eqL x.kind).toArray⟩, .string ⟨(quoteL x.text.data.toList).toArray⟩] 9)); refine hK.out _ _ (S5.of hqf _ _ hsaP hsmP) (fun hHeld' => ?_); clear hK K hHeld
                (try simp only [Act.put, lsa, lsz, lss])
                refine hrd 19 rfl (fun K hK => ?_); rw [if_pos (by kernel_rfl)]
                go_simp
                refine (CW.out X62 hb).mono ?_; rintro e' Z ⟨rfl, hstZ, hkpZ⟩
                dsimp only
                refine hK.out _ _ (S5.of (hqf.kp hkpZ gq5 hb5) _ _ hsaP hsmP) (fun hHeld => ?_); clear hK K hHeld hHeld'; refine wpAnyH_done (by kernel_rfl) ?_ _
                all_goals go_wp2
                all_goals exact ⟨⟨k + 1, by omega, by go_num, HEnd.out _ hstZ⟩, by simp [intOf]; omega⟩
          · rw [if_pos (by kernel_rfl)]
            obtain ⟨X63, hrun, hq63, hbi⟩ := Q5.ins hq hgq5 (by decide) 1 (by decide) ⟨#[61]⟩ (by decide); have hb63 := hb.trans hbi
            go_simp
            refine hK.out _ _ (S5.of hq63 none none (by first | (simp; done) | exact hsaP) (by simp)) (fun hHeld' => ?_); clear hK K hHeld hHeld' hrun hbi hq hb
            (try simp only [Act.put, lsa, lsz, lss])
            have hq := hq63; have hb := hb63; clear hq63 hb63; have hsmP : ∀ s, (some (gm, x.kind)) = some s → (s.2 = 1 ∨ s.2 = 2) ∧ ∃ n D, some (gm, 2, M21) = some (s.1, n, D) ∧ (D = M12 ∨ D = M21) := fun s hs => by cases hs; exact ⟨hxk, 2, M21, rfl, .inr rfl⟩
            have hq := show Q5 W3.heap.size wr.heap.size x _ (some (gm, 2, M21)) X63 from hq; refine wpAnyH_more (S' := S5 wr.heap.size x none (some (gm, x.kind))) (fun w h => S5.less none none (.inr rfl) (.inl rfl) h) _ _ _ _ ?_; have hHeld := S5.of hq none (some (gm, x.kind)) (by first | (simp; done) | exact hsaP) hsmP
            (refine htk 11 33 ?_ rfl ?_ ?_; rotate_left; (intro w hSw; clear hSw; go_simp); (try with_reducible rfl); simp only [lsz, lss])
            (refine htk 14 36 (.string ⟨(eqL x.kind).toArray⟩) rfl ?_ ?_; (intro w hSw; obtain ⟨-, -, -, -, g4⟩ := hSw; have g4 := g4 _ rfl; simp only at g4; go_simp); simp only [lsz, lss])
            refine wpAnyH_ready (rs := [1, 17]) (by kernel_rfl) (by simp) (.cons rfl (fun K hK => ?_) (.cons rfl (fun K hK => ?_) .nil))
            · rw [if_pos (by kernel_rfl)]
              go_simp
              have hq64 := Q5.slice hq (hb.size); have hb64 := hb.alloc hb.size (.cells sepC.toArray 9); refine hK.out _ _ (S5.of hq64 none (some (gm, x.kind)) (by simp) (by first | (simp; done) | exact hsmP)) (fun hHeld' => ?_); clear hK K hHeld hHeld'
              (try simp only [Act.put, lsa, lsz, lss])
              have hga : ∃ g2, X63.heap.size = g2 := ⟨_, rfl⟩; obtain ⟨g2, hg2⟩ := hga; obtain ⟨X64, hX64⟩ : ∃ Y, X63.alloc (.cells sepC.toArray 9) = Y := ⟨_, rfl⟩; rw [hX64, hg2] at hq64; rw [hX64] at hb64; have hX64' : X63.alloc (.cells #[.string ⟨#[123]⟩, .string ⟨#[44, 32]⟩] 9) = X64 := hX64
              first | rw [hX64', hg2] | rw [hX64, hg2]
              clear hX64 hX64' hg2 hq hb; have hq := hq64; have hb := hb64; clear hq64 hb64; have hsaP : ∀ s, (some (g2, mi, sep)) = some s → some g2 = some s.1 ∧ sepC[s.2.1]? = some (.string s.2.2) := fun s hs => by cases hs; exact ⟨rfl, hsepc⟩
              refine wpAnyH_more (S' := S5 wr.heap.size x (some (g2, mi, sep)) (some (gm, x.kind))) (fun w h => S5.less none (some (gm, x.kind)) (.inl rfl) (.inr rfl) h) _ _ _ _ ?_; have hHeld := S5.of hq (some (g2, mi, sep)) (some (gm, x.kind)) hsaP (by first | (simp; done) | exact hsmP)
              (refine htk 4 28 ?_ rfl ?_ ?_; rotate_left; (intro w hSw; clear hSw; go_simp); (try with_reducible rfl); simp only [lsz, lss])
              (refine htk 5 29 (.string sep) rfl ?_ ?_; (intro w hSw; obtain ⟨-, -, -, g3, -⟩ := hSw; have g3 := g3 _ rfl; simp only at g3; go_simp); simp only [lsz, lss])
              refine hrd 17 rfl (fun K hK => ?_)
              · rw [if_pos (by kernel_rfl)]
                go_simp
                refine (CQ.out X64).mono ?_; rintro e' X65 ⟨rfl, hbq⟩; have hq65 := hq.keep hbq; have hb65 := hb.trans (hbq.mono hb.size)
                dsimp only
                refine hK.out _ _ (S5.of hq65 (some (g2, mi, sep)) (some (gm, x.kind)) (by first | (simp; done) | exact hsaP) (by first | (simp; done) | exact hsmP)) (fun hHeld' => ?_); clear hK K hHeld hHeld' hbq hq hb
                (try simp only [Act.put, lsa, lsz, lss])
                have hq := hq65; have hb := hb65; clear hq65 hb65; have hHeld := S5.of hq (some (g2, mi, sep)) (some (gm, x.kind)) (by first | (simp; done) | exact hsaP) (by first | (simp; done) | exact hsmP); refine hrd 18 rfl (fun K hK => ?_); rw [if_pos (by kernel_rfl)]
                go_simp
                have hqf := hq.keep ((Below.refl _ _).alloc (Nat.le_refl _) (.cells #[.string sep, .string x.name, .string ⟨(eqL x.kind).toArray⟩, .string ⟨(quoteL x.text.data.toList).toArray⟩] 9)); refine hK.out _ _ (S5.of hqf _ _ hsaP hsmP) (fun hHeld' => ?_); clear hK K hHeld
                (try simp only [Act.put, lsa, lsz, lss])
                refine hrd 19 rfl (fun K hK => ?_); rw [if_pos (by kernel_rfl)]
                go_simp
                refine (CW.out X65 hb).mono ?_; rintro e' Z ⟨rfl, hstZ, hkpZ⟩
                dsimp only
                refine hK.out _ _ (S5.of (hqf.kp hkpZ gq5 hb5) _ _ hsaP hsmP) (fun hHeld => ?_); clear hK K hHeld hHeld'; refine wpAnyH_done (by kernel_rfl) ?_ _
                all_goals go_wp2
                all_goals exact ⟨⟨k + 1, by omega, by go_num, HEnd.out _ hstZ⟩, by simp [intOf]; omega⟩
            · rw [if_pos (by kernel_rfl)]
              go_simp
              refine (CQ.out X63).mono ?_; rintro e' X66 ⟨rfl, hbq⟩; have hq66 := hq.keep hbq; have hb66 := hb.trans (hbq.mono hb.size)
              dsimp only
              refine hK.out _ _ (S5.of hq66 none (some (gm, x.kind)) (by first | (simp; done) | exact hsaP) (by first | (simp; done) | exact hsmP)) (fun hHeld' => ?_); clear hK K hHeld hHeld' hbq hq hb
              (try simp only [Act.put, lsa, lsz, lss])
              have hq := hq66; have hb := hb66; clear hq66 hb66; have hHeld := S5.of hq none (some (gm, x.kind)) (by first | (simp; done) | exact hsaP) (by first | (simp; done) | exact hsmP); refine hrd 1 rfl (fun K hK => ?_)
              · rw [if_pos (by kernel_rfl)]
                go_simp
                have hq67 := Q5.slice hq (hb.size); have hb67 := hb.alloc hb.size (.cells sepC.toArray 9); refine hK.out _ _ (S5.of hq67 none (some (gm, x.kind)) (by simp) (by first | (simp; done) | exact hsmP)) (fun hHeld' => ?_); clear hK K hHeld hHeld'
                (try simp only [Act.put, lsa, lsz, lss])
                have hga : ∃ g2, X66.heap.size = g2 := ⟨_, rfl⟩; obtain ⟨g2, hg2⟩ := hga; obtain ⟨X67, hX67⟩ : ∃ Y, X66.alloc (.cells sepC.toArray 9) = Y := ⟨_, rfl⟩; rw [hX67, hg2] at hq67; rw [hX67] at hb67; have hX67' : X66.alloc (.cells #[.string ⟨#[123]⟩, .string ⟨#[44, 32]⟩] 9) = X67 := hX67
                first | rw [hX67', hg2] | rw [hX67, hg2]
                clear hX67 hX67' hg2 hq hb; have hq := hq67; have hb := hb67; clear hq67 hb67; have hsaP : ∀ s, (some (g2, mi, sep)) = some s → some g2 = some s.1 ∧ sepC[s.2.1]? = some (.string s.2.2) := fun s hs => by cases hs; exact ⟨rfl, hsepc⟩
                refine wpAnyH_more (S' := S5 wr.heap.size x (some (g2, mi, sep)) (some (gm, x.kind))) (fun w h => S5.less none (some (gm, x.kind)) (.inl rfl) (.inr rfl) h) _ _ _ _ ?_; have hHeld := S5.of hq (some (g2, mi, sep)) (some (gm, x.kind)) hsaP (by first | (simp; done) | exact hsmP)
                (refine htk 4 28 ?_ rfl ?_ ?_; rotate_left; (intro w hSw; clear hSw; go_simp); (try with_reducible rfl); simp only [lsz, lss])
                (refine htk 5 29 (.string sep) rfl ?_ ?_; (intro w hSw; obtain ⟨-, -, -, g3, -⟩ := hSw; have g3 := g3 _ rfl; simp only at g3; go_simp); simp only [lsz, lss])
                refine hrd 18 rfl (fun K hK => ?_); rw [if_pos (by kernel_rfl)]
                go_simp
                have hqf := hq.keep ((Below.refl _ _).alloc (Nat.le_refl _) (.cells #[.string sep, .string x.name, .string ⟨(eqL x.kind).toArray⟩, .string ⟨(quoteL x.text.data.toList).toArray⟩] 9)); refine hK.out _ _ (S5.of hqf _ _ hsaP hsmP) (fun hHeld' => ?_); clear hK K hHeld
                (try simp only [Act.put, lsa, lsz, lss])
                refine hrd 19 rfl (fun K hK => ?_); rw [if_pos (by kernel_rfl)]
                go_simp
                refine (CW.out X67 hb).mono ?_; rintro e' Z ⟨rfl, hstZ, hkpZ⟩
                dsimp only
                refine hK.out _ _ (S5.of (hqf.kp hkpZ gq5 hb5) _ _ hsaP hsmP) (fun hHeld => ?_); clear hK K hHeld hHeld'; refine wpAnyH_done (by kernel_rfl) ?_ _
                all_goals go_wp2
                all_goals exact ⟨⟨k + 1, by omega, by go_num, HEnd.out _ hstZ⟩, by simp [intOf]; omega⟩
          · rw [if_pos (by kernel_rfl)]
            go_simp
            refine (CQ.out X57).mono ?_; rintro e' X68 ⟨rfl, hbq⟩; have hq68 := hq.keep hbq; have hb68 := hb.trans (hbq.mono hb.size)
            dsimp only
            refine hK.out _ _ (S5.of hq68 none none (by first | (simp; done) | exact hsaP) (by first | (simp; done) | exact hsmP)) (fun hHeld' => ?_); clear hK K hHeld hHeld' hbq hq hb
            (try simp only [Act.put, lsa, lsz, lss])
            have hq := hq68; have hb := hb68; clear hq68 hb68; have hHeld := S5.of hq none none (by first | (simp; done) | exact hsaP) (by first | (simp; done) | exact hsmP); refine wpAnyH_ready (rs := [1, 9]) (by kernel_rfl) (by simp) (.cons rfl (fun K hK => ?_) (.cons rfl (fun K hK => ?_) .nil))
            · rw [if_pos (by kernel_rfl)]
              go_simp
              have hq69 := Q5.slice hq (hb.size); have hb69 := hb.alloc hb.size (.cells sepC.toArray 9); refine hK.out _ _ (S5.of hq69 none none (by simp) (by first | (simp; done) | exact hsmP)) (fun hHeld' => ?_); clear hK K hHeld hHeld'
              (try simp only [Act.put, lsa, lsz, lss])
              have hga : ∃ g2, X68.heap.size = g2 := ⟨_, rfl⟩; obtain ⟨g2, hg2⟩ := hga; obtain ⟨X69, hX69⟩ : ∃ Y, X68.alloc (.cells sepC.toArray 9) = Y := ⟨_, rfl⟩; rw [hX69, hg2] at hq69; rw [hX69] at hb69; have hX69' : X68.alloc (.cells #[.string ⟨#[123]⟩, .string ⟨#[44, 32]⟩] 9) = X69 := hX69
              first | rw [hX69', hg2] | rw [hX69, hg2]
              clear hX69 hX69' hg2 hq hb; have hq := hq69; have hb := hb69; clear hq69 hb69; have hsaP : ∀ s, (some (g2, mi, sep)) = some s → some g2 = some s.1 ∧ sepC[s.2.1]? = some (.string s.2.2) := fun s hs => by cases hs; exact ⟨rfl, hsepc⟩
              refine wpAnyH_more (S' := S5 wr.heap.size x (some (g2, mi, sep)) none) (fun w h => S5.less none none (.inl rfl) (.inr rfl) h) _ _ _ _ ?_; have hHeld := S5.of hq (some (g2, mi, sep)) none hsaP (by first | (simp; done) | exact hsmP)
              (refine htk 4 28 ?_ rfl ?_ ?_; rotate_left; (intro w hSw; clear hSw; go_simp); (try with_reducible rfl); simp only [lsz, lss])
              (refine htk 5 29 (.string sep) rfl ?_ ?_; (intro w hSw; obtain ⟨-, -, -, g3, -⟩ := hSw; have g3 := g3 _ rfl; simp only at g3; go_simp); simp only [lsz, lss])
              refine hrd 9 rfl (fun K hK => ?_)
              · rw [if_pos (by kernel_rfl)]
                obtain ⟨X70, hrun, hq70, hbi⟩ := Q5.ins hq hgq5 (by decide) 1 (by decide) ⟨#[61]⟩ (by decide); have hb70 := hb.trans hbi
                go_simp
                refine hK.out _ _ (S5.of hq70 (some (g2, mi, sep)) none (by first | (simp; done) | exact hsaP) (by simp)) (fun hHeld' => ?_); clear hK K hHeld hHeld' hrun hbi hq hb
                (try simp only [Act.put, lsa, lsz, lss])
                have hq := hq70; have hb := hb70; clear hq70 hb70; have hsmP : ∀ s, (some (gm, x.kind)) = some s → (s.2 = 1 ∨ s.2 = 2) ∧ ∃ n D, some (gm, 2, M21) = some (s.1, n, D) ∧ (D = M12 ∨ D = M21) := fun s hs => by cases hs; exact ⟨hxk, 2, M21, rfl, .inr rfl⟩
                have hq := show Q5 W3.heap.size wr.heap.size x _ (some (gm, 2, M21)) X70 from hq; refine wpAnyH_more (S' := S5 wr.heap.size x (some (g2, mi, sep)) (some (gm, x.kind))) (fun w h => S5.less (some (g2, mi, sep)) none (.inr rfl) (.inl rfl) h) _ _ _ _ ?_; have hHeld := S5.of hq (some (g2, mi, sep)) (some (gm, x.kind)) (by first | (simp; done) | exact hsaP) hsmP
                (refine htk 11 33 ?_ rfl ?_ ?_; rotate_left; (intro w hSw; clear hSw; go_simp); (try with_reducible rfl); simp only [lsz, lss])
                (refine htk 14 36 (.string ⟨(eqL x.kind).toArray⟩) rfl ?_ ?_; (intro w hSw; obtain ⟨-, -, -, -, g4⟩ := hSw; have g4 := g4 _ rfl; simp only at g4; go_simp); simp only [lsz, lss])
                refine hrd 18 rfl (fun K hK => ?_); rw [if_pos (by kernel_rfl)]
                go_simp
                have hqf := hq.keep ((Below.refl _ _).alloc (Nat.le_refl _) (.cells #[.string sep, .string x.name, .string ⟨(eqL x.kind).toArray⟩, .string ⟨(quoteL x.text.data.toList).toArray⟩] 9)); refine hK.out _ _ (S5.of hqf _ _ hsaP hsmP) (fun hHeld' => ?_); clear hK K hHeld
                (try simp only [Act.put, lsa, lsz, lss])
                refine hrd 19 rfl (fun K hK => ?_); rw [if_pos (by kernel_rfl)]
                go_simp
                refine (CW.out X70 hb).mono ?_; rintro e' Z ⟨rfl, hstZ, hkpZ⟩
                dsimp only
                refine hK.out _ _ (S5.of (hqf.kp hkpZ gq5 hb5) _ _ hsaP hsmP) (fun hHeld => ?_); clear hK K hHeld hHeld'; refine wpAnyH_done (by kernel_rfl) ?_ _
                all_goals go_wp2
                all_goals exact ⟨⟨k + 1, by omega, by go_num, HEnd.out _ hstZ⟩, by simp [intOf]; omega⟩
            · rw [if_pos (by kernel_rfl)]
              obtain ⟨X71, hrun, hq71, hbi⟩ := Q5.ins hq hgq5 (by decide) 1 (by decide) ⟨#[61]⟩ (by decide); have hb71 := hb.trans hbi
              go_simp
              refine hK.out _ _ (S5.of hq71 none none (by first | (simp; done) | exact hsaP) (by simp)) (fun hHeld' => ?_); clear hK K hHeld hHeld' hrun hbi hq hb
              (try simp only [Act.put, lsa, lsz, lss])
              have hq := hq71; have hb := hb71; clear hq71 hb71; have hsmP : ∀ s, (some (gm, x.kind)) = some s → (s.2 = 1 ∨ s.2 = 2) ∧ ∃ n D, some (gm, 2, M21) = some (s.1, n, D) ∧ (D = M12 ∨ D = M21) := fun s hs => by cases hs; exact ⟨hxk, 2, M21, rfl, .inr rfl⟩
              have hq := show Q5 W3.heap.size wr.heap.size x _ (some (gm, 2, M21)) X71 from hq; refine wpAnyH_more (S' := S5 wr.heap.size x none (some (gm, x.kind))) (fun w h => S5.less none none (.inr rfl) (.inl rfl) h) _ _ _ _ ?_; have hHeld := S5.of hq none (some (gm, x.kind)) (by first | (simp; done) | exact hsaP) hsmP
              (refine htk 11 33 ?_ rfl ?_ ?_; rotate_left; (intro w hSw; clear hSw; go_simp); (try with_reducible rfl); simp only [lsz, lss])
              (refine htk 14 36 (.string ⟨(eqL x.kind).toArray⟩) rfl ?_ ?_; (intro w hSw; obtain ⟨-, -, -, -, g4⟩ := hSw; have g4 := g4 _ rfl; simp only at g4; go_simp); simp only [lsz, lss])
              refine hrd 1 rfl (fun K hK => ?_)
              · rw [if_pos (by kernel_rfl)]
                go_simp
                have hq72 := Q5.slice hq (hb.size); have hb72 := hb.alloc hb.size (.cells sepC.toArray 9); refine hK.out _ _ (S5.of hq72 none (some (gm, x.kind)) (by simp) (by first | (simp; done) | exact hsmP)) (fun hHeld' => ?_); clear hK K hHeld hHeld'
                (try simp only [Act.put, lsa, lsz, lss])
                have hga : ∃ g2, X71.heap.size = g2 := ⟨_, rfl⟩; obtain ⟨g2, hg2⟩ := hga; obtain ⟨X72, hX72⟩ : ∃ Y, X71.alloc (.cells sepC.toArray 9) = Y := ⟨_, rfl⟩; rw [hX72, hg2] at hq72; rw [hX72] at hb72; have hX72' : X71.alloc (.cells #[.string ⟨#[123]⟩, .string ⟨#[44, 32]⟩] 9) = X72 := hX72
                first | rw [hX72', hg2] | rw [hX72, hg2]
                clear hX72 hX72' hg2 hq hb; have hq := hq72; have hb := hb72; clear hq72 hb72; have hsaP : ∀ s, (some (g2, mi, sep)) = some s → some g2 = some s.1 ∧ sepC[s.2.1]? = some (.string s.2.2) := fun s hs => by cases hs; exact ⟨rfl, hsepc⟩
                refine wpAnyH_more (S' := S5 wr.heap.size x (some (g2, mi, sep)) (some (gm, x.kind))) (fun w h => S5.less none (some (gm, x.kind)) (.inl rfl) (.inr rfl) h) _ _ _ _ ?_; have hHeld := S5.of hq (some (g2, mi, sep)) (some (gm, x.kind)) hsaP (by first | (simp; done) | exact hsmP)
                (refine htk 4 28 ?_ rfl ?_ ?_; rotate_left; (intro w hSw; clear hSw; go_simp); (try with_reducible rfl); simp only [lsz, lss])
                (refine htk 5 29 (.string sep) rfl ?_ ?_; (intro w hSw; obtain ⟨-, -, -, g3, -⟩ := hSw; have g3 := g3 _ rfl; simp only at g3; go_simp); simp only [lsz, lss])
                refine hrd 18 rfl (fun K hK => ?_); rw [if_pos (by kernel_rfl)]
                go_simp
                have hqf := hq.keep ((Below.refl _ _).alloc (Nat.le_refl _) (.cells #[.string sep, .string x.name, .string ⟨(eqL x.kind).toArray⟩, .string ⟨(quoteL x.text.data.toList).toArray⟩] 9)); refine hK.out _ _ (S5.of hqf _ _ hsaP hsmP) (fun hHeld' => ?_); clear hK K hHeld
                (try simp only [Act.put, lsa, lsz, lss])
                refine hrd 19 rfl (fun K hK => ?_); rw [if_pos (by kernel_rfl)]
                go_simp
                refine (CW.out X72 hb).mono ?_; rintro e' Z ⟨rfl, hstZ, hkpZ⟩
                dsimp only
                refine hK.out _ _ (S5.of (hqf.kp hkpZ gq5 hb5) _ _ hsaP hsmP) (fun hHeld => ?_); clear hK K hHeld hHeld'; refine wpAnyH_done (by kernel_rfl) ?_ _
                all_goals go_wp2
                all_goals exact ⟨⟨k + 1, by omega, by go_num, HEnd.out _ hstZ⟩, by simp [intOf]; omega⟩
        · rw [if_pos (by kernel_rfl)]
          go_simp
          refine (CQ.out X24).mono ?_; rintro e' X73 ⟨rfl, hbq⟩; have hq73 := hq.keep hbq; have hb73 := hb.trans (hbq.mono hb.size)
          dsimp only
          refine hK.out _ _ (S5.of hq73 none none (by first | (simp; done) | exact hsaP) (by first | (simp; done) | exact hsmP)) (fun hHeld' => ?_); clear hK K hHeld hHeld' hbq hq hb
          (try simp only [Act.put, lsa, lsz, lss])
          have hq := hq73; have hb := hb73; clear hq73 hb73; have hHeld := S5.of hq none none (by first | (simp; done) | exact hsaP) (by first | (simp; done) | exact hsmP); refine wpAnyH_ready (rs := [1, 9, 10]) (by kernel_rfl) (by simp) (.cons rfl (fun K hK => ?_) (.cons rfl (fun K hK => ?_) (.cons rfl (fun K hK => ?_) .nil)))
          · rw [if_pos (by kernel_rfl)]
            go_simp
            have hq74 := Q5.slice hq (hb.size); have hb74 := hb.alloc hb.size (.cells sepC.toArray 9); refine hK.out _ _ (S5.of hq74 none none (by simp) (by first | (simp; done) | exact hsmP)) (fun hHeld' => ?_); clear hK K hHeld hHeld'
            (try simp only [Act.put, lsa, lsz, lss])
            have hga : ∃ g2, X73.heap.size = g2 := ⟨_, rfl⟩; obtain ⟨g2, hg2⟩ := hga; obtain ⟨X74, hX74⟩ : ∃ Y, X73.alloc (.cells sepC.toArray 9) = Y := ⟨_, rfl⟩; rw [hX74, hg2] at hq74; rw [hX74] at hb74; have hX74' : X73.alloc (.cells #[.string ⟨#[123]⟩, .string ⟨#[44, 32]⟩] 9) = X74 := hX74
            first | rw [hX74', hg2] | rw [hX74, hg2]
            clear hX74 hX74' hg2 hq hb; have hq := hq74; have hb := hb74; clear hq74 hb74; have hsaP : ∀ s, (some (g2, mi, sep)) = some s → some g2 = some s.1 ∧ sepC[s.2.1]? = some (.string s.2.2) := fun s hs => by cases hs; exact ⟨rfl, hsepc⟩
            refine wpAnyH_more (S' := S5 wr.heap.size x (some (g2, mi, sep)) none) (fun w h => S5.less none none (.inl rfl) (.inr rfl) h) _ _ _ _ ?_; have hHeld := S5.of hq (some (g2, mi, sep)) none hsaP (by first | (simp; done) | exact hsmP)
            (refine htk 4 28 ?_ rfl ?_ ?_; rotate_left; (intro w hSw; clear hSw; go_simp); (try with_reducible rfl); simp only [lsz, lss])
            (refine htk 5 29 (.string sep) rfl ?_ ?_; (intro w hSw; obtain ⟨-, -, -, g3, -⟩ := hSw; have g3 := g3 _ rfl; simp only at g3; go_simp); simp only [lsz, lss])
            refine wpAnyH_ready (rs := [9, 10]) (by kernel_rfl) (by simp) (.cons rfl (fun K hK => ?_) (.cons rfl (fun K hK => ?_) .nil))
            · rw [if_pos (by kernel_rfl)]
              obtain ⟨X75, hrun, hq75, hbi⟩ := Q5.ins hq hgq5 (by decide) 1 (by decide) ⟨#[61]⟩ (by decide); have hb75 := hb.trans hbi
              go_simp
              refine hK.out _ _ (S5.of hq75 (some (g2, mi, sep)) none (by first | (simp; done) | exact hsaP) (by simp)) (fun hHeld' => ?_); clear hK K hHeld hHeld' hrun hbi hq hb
              (try simp only [Act.put, lsa, lsz, lss])
              have hq := hq75; have hb := hb75; clear hq75 hb75; have hHeld := S5.of hq (some (g2, mi, sep)) none (by first | (simp; done) | exact hsaP) (by simp); refine hrd 10 rfl (fun K hK => ?_)
              · rw [if_pos (by kernel_rfl)]
                obtain ⟨X76, hrun, hq76, hbi⟩ := Q5.ins hq hgq5 (by decide) 2 (by decide) ⟨#[33, 61]⟩ (by decide); have hb76 := hb.trans hbi
                go_simp
                refine hK.out _ _ (S5.of hq76 (some (g2, mi, sep)) none (by first | (simp; done) | exact hsaP) (by simp)) (fun hHeld' => ?_); clear hK K hHeld hHeld' hrun hbi hq hb
                (try simp only [Act.put, lsa, lsz, lss])
                have hq := hq76; have hb := hb76; clear hq76 hb76; have hsmP : ∀ s, (some (gm, x.kind)) = some s → (s.2 = 1 ∨ s.2 = 2) ∧ ∃ n D, some (gm, 2, M12) = some (s.1, n, D) ∧ (D = M12 ∨ D = M21) := fun s hs => by cases hs; exact ⟨hxk, 2, M12, rfl, .inl rfl⟩
                have hq := show Q5 W3.heap.size wr.heap.size x _ (some (gm, 2, M12)) X76 from hq; refine wpAnyH_more (S' := S5 wr.heap.size x (some (g2, mi, sep)) (some (gm, x.kind))) (fun w h => S5.less (some (g2, mi, sep)) none (.inr rfl) (.inl rfl) h) _ _ _ _ ?_; have hHeld := S5.of hq (some (g2, mi, sep)) (some (gm, x.kind)) (by first | (simp; done) | exact hsaP) hsmP
                (refine htk 11 33 ?_ rfl ?_ ?_; rotate_left; (intro w hSw; clear hSw; go_simp); (try with_reducible rfl); simp only [lsz, lss])
                (refine htk 14 36 (.string ⟨(eqL x.kind).toArray⟩) rfl ?_ ?_; (intro w hSw; obtain ⟨-, -, -, -, g4⟩ := hSw; have g4 := g4 _ rfl; simp only at g4; go_simp); simp only [lsz, lss])
                refine hrd 18 rfl (fun K hK => ?_); rw [if_pos (by kernel_rfl)]
                go_simp
                have hqf := hq.keep ((Below.refl _ _).alloc (Nat.le_refl _) (.cells #[.string sep, .string x.name, .string ⟨(eqL x.kind).toArray⟩, .string ⟨(quoteL x.text.data.toList).toArray⟩] 9)); refine hK.out _ _ (S5.of hqf _ _ hsaP hsmP) (fun hHeld' => ?_); clear hK K hHeld
                (try simp only [Act.put, lsa, lsz, lss])
                refine hrd 19 rfl (fun K hK => ?_); rw [if_pos (by kernel_rfl)]
                go_simp
                refine (CW.out X76 hb).mono ?_; rintro e' Z ⟨rfl, hstZ, hkpZ⟩
                dsimp only
                refine hK.out _ _ (S5.of (hqf.kp hkpZ gq5 hb5) _ _ hsaP hsmP) (fun hHeld => ?_); clear hK K hHeld hHeld'; refine wpAnyH_done (by kernel_rfl) ?_ _
                all_goals go_wp2
                all_goals exact ⟨⟨k + 1, by omega, by go_num, HEnd.out _ hstZ⟩, by simp [intOf]; omega⟩
            · rw [if_pos (by kernel_rfl)]
              obtain ⟨X77, hrun, hq77, hbi⟩ := Q5.ins hq hgq5 (by decide) 2 (by decide) ⟨#[33, 61]⟩ (by decide); have hb77 := hb.trans hbi
              go_simp
              refine hK.out _ _ (S5.of hq77 (some (g2, mi, sep)) none (by first | (simp; done) | exact hsaP) (by simp)) (fun hHeld' => ?_); clear hK K hHeld hHeld' hrun hbi hq hb
              (try simp only [Act.put, lsa, lsz, lss])
              have hq := hq77; have hb := hb77; clear hq77 hb77; have hHeld := S5.of hq (some (g2, mi, sep)) none (by first | (simp; done) | exact hsaP) (by simp); refine hrd 9 rfl (fun K hK => ?_)
              · rw [if_pos (by kernel_rfl)]
                obtain ⟨X78, hrun, hq78, hbi⟩ := Q5.ins hq hgq5 (by decide) 1 (by decide) ⟨#[61]⟩ (by decide); have hb78 := hb.trans hbi
                go_simp
                refine hK.out _ _ (S5.of hq78 (some (g2, mi, sep)) none (by first | (simp; done) | exact hsaP) (by simp)) (fun hHeld' => ?_); clear hK K hHeld hHeld' hrun hbi hq hb
                (try simp only [Act.put, lsa, lsz, lss])
                have hq := hq78; have hb := hb78; clear hq78 hb78; have hsmP : ∀ s, (some (gm, x.kind)) = some s → (s.2 = 1 ∨ s.2 = 2) ∧ ∃ n D, some (gm, 2, M21) = some (s.1, n, D) ∧ (D = M12 ∨ D = M21) := fun s hs => by cases hs; exact ⟨hxk, 2, M21, rfl, .inr rfl⟩
                have hq := show Q5 W3.heap.size wr.heap.size x _ (some (gm, 2, M21)) X78 from hq; refine wpAnyH_more (S' := S5 wr.heap.size x (some (g2, mi, sep)) (some (gm, x.kind))) (fun w h => S5.less (some (g2, mi, sep)) none (.inr rfl) (.inl rfl) h) _ _ _ _ ?_; have hHeld := S5.of hq (some (g2, mi, sep)) (some (gm, x.kind)) (by first | (simp; done) | exact hsaP) hsmP
                (refine htk 11 33 ?_ rfl ?_ ?_; rotate_left; (intro w hSw; clear hSw; go_simp); (try with_reducible rfl); simp only [lsz, lss])
                (refine htk 14 36 (.string ⟨(eqL x.kind).toArray⟩) rfl ?_ ?_; (intro w hSw; obtain ⟨-, -, -, -, g4⟩ := hSw; have g4 := g4 _ rfl; simp only at g4; go_simp); simp only [lsz, lss])
                refine hrd 18 rfl (fun K hK => ?_); rw [if_pos (by kernel_rfl)]
                go_simp
                have hqf := hq.keep ((Below.refl _ _).alloc (Nat.le_refl _) (.cells #[.string sep, .string x.name, .string ⟨(eqL x.kind).toArray⟩, .string ⟨(quoteL x.text.data.toList).toArray⟩] 9)); refine hK.out _ _ (S5.of hqf _ _ hsaP hsmP) (fun hHeld' => ?_); clear hK K hHeld
                (try simp only [Act.put, lsa, lsz, lss])
                refine hrd 19 rfl (fun K hK => ?_); rw [if_pos (by kernel_rfl)]
                go_simp
                refine (CW.out X78 hb).mono ?_; rintro e' Z ⟨rfl, hstZ, hkpZ⟩
                dsimp only
                refine hK.out _ _ (S5.of (hqf.kp hkpZ gq5 hb5) _ _ hsaP hsmP) (fun hHeld => ?_); clear hK K hHeld hHeld'; refine wpAnyH_done (by kernel_rfl) ?_ _
                all_goals go_wp2
                all_goals exact ⟨⟨k + 1, by omega, by go_num, HEnd.out _ hstZ⟩, by simp [intOf]; omega⟩
          · rw [if_pos (by kernel_rfl)]
            obtain ⟨X79, hrun, hq79, hbi⟩ := Q5.ins hq hgq5 (by decide) 1 (by decide) ⟨#[61]⟩ (by decide); have hb79 := hb.trans hbi
            go_simp
            refine hK.out _ _ (S5.of hq79 none none (by first | (simp; done) | exact hsaP) (by simp)) (fun hHeld' => ?_); clear hK K hHeld hHeld' hrun hbi hq hb
            (try simp only [Act.put, lsa, lsz, lss])
            have hq := hq79; have hb := hb79; clear hq79 hb79; have hHeld := S5.of hq none none (by first | (simp; done) | exact hsaP) (by simp); refine wpAnyH_ready (rs := [1, 10]) (by kernel_rfl) (by simp) (.cons rfl (fun K hK => ?_) (.cons rfl (fun K hK => ?_) .nil))
            · rw [if_pos (by kernel_rfl)]
              go_simp
              have hq80 := Q5.slice hq (hb.size); have hb80 := hb.alloc hb.size (.cells sepC.toArray 9); refine hK.out _ _ (S5.of hq80 none none (by simp) (by first | (simp; done) | exact hsmP)) (fun hHeld' => ?_); clear hK K hHeld hHeld'
              (try simp only [Act.put, lsa, lsz, lss])
              have hga : ∃ g2, X79.heap.size = g2 := ⟨_, rfl⟩; obtain ⟨g2, hg2⟩ := hga; obtain ⟨X80, hX80⟩ : ∃ Y, X79.alloc (.cells sepC.toArray 9) = Y := ⟨_, rfl⟩; rw [hX80, hg2] at hq80; rw [hX80] at hb80; have hX80' : X79.alloc (.cells #[.string ⟨#[123]⟩, .string ⟨#[44, 32]⟩] 9) = X80 := hX80
              first | rw [hX80', hg2] | rw [hX80, hg2]
              clear hX80 hX80' hg2 hq hb; have hq := hq80; have hb := hb80; clear hq80 hb80; have hsaP : ∀ s, (some (g2, mi, sep)) = some s → some g2 = some s.1 ∧ sepC[s.2.1]? = some (.string s.2.2) := fun s hs => by cases hs; exact ⟨rfl, hsepc⟩
              refine wpAnyH_more (S' := S5 wr.heap.size x (some (g2, mi, sep)) none) (fun w h => S5.less none none (.inl rfl) (.inr rfl) h) _ _ _ _ ?_; have hHeld := S5.of hq (some (g2, mi, sep)) none hsaP (by first | (simp; done) | exact hsmP)
              (refine htk 4 28 ?_ rfl ?_ ?_; rotate_left; (intro w hSw; clear hSw; go_simp); (try with_reducible rfl); simp only [lsz, lss])
              (refine htk 5 29 (.string sep) rfl ?_ ?_; (intro w hSw; obtain ⟨-, -, -, g3, -⟩ := hSw; have g3 := g3 _ rfl; simp only at g3; go_simp); simp only [lsz, lss])
              refine hrd 10 rfl (fun K hK => ?_)
              · rw [if_pos (by kernel_rfl)]
                obtain ⟨X81, hrun, hq81, hbi⟩ := Q5.ins hq hgq5 (by decide) 2 (by decide) ⟨#[33, 61]⟩ (by decide); have hb81 := hb.trans hbi
                go_simp
                refine hK.out _ _ (S5.of hq81 (some (g2, mi, sep)) none (by first | (simp; done) | exact hsaP) (by simp)) (fun hHeld' => ?_); clear hK K hHeld hHeld' hrun hbi hq hb
                (try simp only [Act.put, lsa, lsz, lss])
                have hq := hq81; have hb := hb81; clear hq81 hb81; have hsmP : ∀ s, (some (gm, x.kind)) = some s → (s.2 = 1 ∨ s.2 = 2) ∧ ∃ n D, some (gm, 2, M12) = some (s.1, n, D) ∧ (D = M12 ∨ D = M21) := fun s hs => by cases hs; exact ⟨hxk, 2, M12, rfl, .inl rfl⟩
                have hq := show Q5 W3.heap.size wr.heap.size x _ (some (gm, 2, M12)) X81 from hq; refine wpAnyH_more (S' := S5 wr.heap.size x (some (g2, mi, sep)) (some (gm, x.kind))) (fun w h => S5.less (some (g2, mi, sep)) none (.inr rfl) (.inl rfl) h) _ _ _ _ ?_; have hHeld := S5.of hq (some (g2, mi, sep)) (some (gm, x.kind)) (by first | (simp; done) | exact hsaP) hsmP
                (refine htk 11 33 ?_ rfl ?_ ?_; rotate_left; (intro w hSw; clear hSw; go_simp); (try with_reducible rfl); simp only [lsz, lss])
                (refine htk 14 36 (.string ⟨(eqL x.kind).toArray⟩) rfl ?_ ?_; (intro w hSw; obtain ⟨-, -, -, -, g4⟩ := hSw; have g4 := g4 _ rfl; simp only at g4; go_simp); simp only [lsz, lss])
                refine hrd 18 rfl (fun K hK => ?_); rw [if_pos (by kernel_rfl)]
                go_simp
                have hqf := hq.keep ((Below.refl _ _).alloc (Nat.le_refl _) (.cells #[.string sep, .string x.name, .string ⟨(eqL x.kind).toArray⟩, .string ⟨(quoteL x.text.data.toList).toArray⟩] 9)); refine hK.out _ _ (S5.of hqf _ _ hsaP hsmP) (fun hHeld' => ?_); clear hK K hHeld
                (try simp only [Act.put, lsa, lsz, lss])
                refine hrd 19 rfl (fun K hK => ?_); rw [if_pos (by kernel_rfl)]
                go_simp
                refine (CW.out X81 hb).mono ?_; rintro e' Z ⟨rfl, hstZ, hkpZ⟩
                dsimp only
                refine hK.out _ _ (S5.of (hqf.kp hkpZ gq5 hb5) _ _ hsaP hsmP) (fun hHeld => ?_); clear hK K hHeld hHeld'; refine wpAnyH_done (by kernel_rfl) ?_ _
                all_goals go_wp2
                all_goals exact ⟨⟨k + 1, by omega, by go_num, HEnd.out _ hstZ⟩, by simp [intOf]; omega⟩
            · rw [if_pos (by kernel_rfl)]
              obtain ⟨X82, hrun, hq82, hbi⟩ := Q5.ins hq hgq5 (by decide) 2 (by decide) ⟨#[33, 61]⟩ (by decide); have hb82 := hb.trans hbi
              go_simp
              refine hK.out _ _ (S5.of hq82 none none (by first | (simp; done) | exact hsaP) (by simp)) (fun hHeld' => ?_); clear hK K hHeld hHeld' hrun hbi hq hb
              (try simp only [Act.put, lsa, lsz, lss])
              have hq := hq82; have hb := hb82; clear hq82 hb82; have hsmP : ∀ s, (some (gm, x.kind)) = some s → (s.2 = 1 ∨ s.2 = 2) ∧ ∃ n D, some (gm, 2, M12) = some (s.1, n, D) ∧ (D = M12 ∨ D = M21) := fun s hs => by cases hs; exact ⟨hxk, 2, M12, rfl, .inl rfl⟩
              have hq := show Q5 W3.heap.size wr.heap.size x _ (some (gm, 2, M12)) X82 from hq; refine wpAnyH_more (S' := S5 wr.heap.size x none (some (gm, x.kind))) (fun w h => S5.less none none (.inr rfl) (.inl rfl) h) _ _ _ _ ?_; have hHeld := S5.of hq none (some (gm, x.kind)) (by first | (simp; done) | exact hsaP) hsmP
              (refine htk 11 33 ?_ rfl ?_ ?_; rotate_left; (intro w hSw; clear hSw; go_simp); (try with_reducible rfl); simp only [lsz, lss])
              (refine htk 14 36 (.string ⟨(eqL x.kind).toArray⟩) rfl ?_ ?_; (intro w hSw; obtain ⟨-, -, -, -, g4⟩ := hSw; have g4 := g4 _ rfl; simp only at g4; go_simp); simp only [lsz, lss])
              refine hrd 1 rfl (fun K hK => ?_)
              · rw [if_pos (by kernel_rfl)]
                go_simp
                have hq83 := Q5.slice hq (hb.size); have hb83 := hb.alloc hb.size (.cells sepC.toArray 9); refine hK.out _ _ (S5.of hq83 none (some (gm, x.kind)) (by simp) (by first | (simp; done) | exact hsmP)) (fun hHeld' => ?_); clear hK K hHeld hHeld'
                (try simp only [Act.put, lsa, lsz, lss])
                have hga : ∃ g2, X82.heap.size = g2 := ⟨_, rfl⟩; obtain ⟨g2, hg2⟩ := hga; obtain ⟨X83, hX83⟩ : ∃ Y, X82.alloc (.cells sepC.toArray 9) = Y := ⟨_, rfl⟩; rw [hX83, hg2] at hq83; rw [hX83] at hb83; have hX83' : X82.alloc (.cells #[.string ⟨#[123]⟩, .string ⟨#[44, 32]⟩] 9) = X83 := hX83
                first | rw [hX83', hg2] | rw [hX83, hg2]
                clear hX83 hX83' hg2 hq hb; have hq := hq83; have hb := hb83; clear hq83 hb83; have hsaP : ∀ s, (some (g2, mi, sep)) = some s → some g2 = some s.1 ∧ sepC[s.2.1]? = some (.string s.2.2) := fun s hs => by cases hs; exact ⟨rfl, hsepc⟩
                refine wpAnyH_more (S' := S5 wr.heap.size x (some (g2, mi, sep)) (some (gm, x.kind))) (fun w h => S5.less none (some (gm, x.kind)) (.inl rfl) (.inr rfl) h) _ _ _ _ ?_; have hHeld := S5.of hq (some (g2, mi, sep)) (some (gm, x.kind)) hsaP (by first | (simp; done) | exact hsmP)
                (refine htk 4 28 ?_ rfl ?_ ?_; rotate_left; (intro w hSw; clear hSw; go_simp); (try with_reducible rfl); simp only [lsz, lss])
                (refine htk 5 29 (.string sep) rfl ?_ ?_; (intro w hSw; obtain ⟨-, -, -, g3, -⟩ := hSw; have g3 := g3 _ rfl; simp only at g3; go_simp); simp only [lsz, lss])
                refine hrd 18 rfl (fun K hK => ?_); rw [if_pos (by kernel_rfl)]
                go_simp
                have hqf := hq.keep ((Below.refl _ _).alloc (Nat.le_refl _) (.cells #[.string sep, .string x.name, .string ⟨(eqL x.kind).toArray⟩, .string ⟨(quoteL x.text.data.toList).toArray⟩] 9)); refine hK.out _ _ (S5.of hqf _ _ hsaP hsmP) (fun hHeld' => ?_); clear hK K hHeld
                (try simp only [Act.put, lsa, lsz, lss])
                refine hrd 19 rfl (fun K hK => ?_); rw [if_pos (by kernel_rfl)]
                go_simp
                refine (CW.out X83 hb).mono ?_; rintro e' Z ⟨rfl, hstZ, hkpZ⟩
                dsimp only
                refine hK.out _ _ (S5.of (hqf.kp hkpZ gq5 hb5) _ _ hsaP hsmP) (fun hHeld => ?_); clear hK K hHeld hHeld'; refine wpAnyH_done (by kernel_rfl) ?_ _
                all_goals go_wp2
                all_goals exact ⟨⟨k + 1, by omega, by go_num, HEnd.out _ hstZ⟩, by simp [intOf]; omega⟩
          · rw [if_pos (by kernel_rfl)]
            obtain ⟨X84, hrun, hq84, hbi⟩ := Q5.ins hq hgq5 (by decide) 2 (by decide) ⟨#[33, 61]⟩ (by decide); have hb84 := hb.trans hbi
            go_simp
            refine hK.out _ _ (S5.of hq84 none none (by first | (simp; done) | exact hsaP) (by simp)) (fun hHeld' => ?_); clear hK K hHeld hHeld' hrun hbi hq hb
            (try simp only [Act.put, lsa, lsz, lss])
            have hq := hq84; have hb := hb84; clear hq84 hb84; have hHeld := S5.of hq none none (by first | (simp; done) | exact hsaP) (by simp); refine wpAnyH_ready (rs := [1, 9]) (by kernel_rfl) (by simp) (.cons rfl (fun K hK => ?_) (.cons rfl (fun K hK => ?_) .nil))
            · rw [if_pos (by kernel_rfl)]
              go_simp
              have hq85 := Q5.slice hq (hb.size); have hb85 := hb.alloc hb.size (.cells sepC.toArray 9); refine hK.out _ _ (S5.of hq85 none none (by simp) (by first | (simp; done) | exact hsmP)) (fun hHeld' => ?_); clear hK K hHeld hHeld'
              (try simp only [Act.put, lsa, lsz, lss])
              have hga : ∃ g2, X84.heap.size = g2 := ⟨_, rfl⟩; obtain ⟨g2, hg2⟩ := hga; obtain ⟨X85, hX85⟩ : ∃ Y, X84.alloc (.cells sepC.toArray 9) = Y := ⟨_, rfl⟩; rw [hX85, hg2] at hq85; rw [hX85] at hb85; have hX85' : X84.alloc (.cells #[.string ⟨#[123]⟩, .string ⟨#[44, 32]⟩] 9) = X85 := hX85
              first | rw [hX85', hg2] | rw [hX85, hg2]
              clear hX85 hX85' hg2 hq hb; have hq := hq85; have hb := hb85; clear hq85 hb85; have hsaP : ∀ s, (some (g2, mi, sep)) = some s → some g2 = some s.1 ∧ sepC[s.2.1]? = some (.string s.2.2) := fun s hs => by cases hs; exact ⟨rfl, hsepc⟩
              refine wpAnyH_more (S' := S5 wr.heap.size x (some (g2, mi, sep)) none) (fun w h => S5.less none none (.inl rfl) (.inr rfl) h) _ _ _ _ ?_; have hHeld := S5.of hq (some (g2, mi, sep)) none hsaP (by first | (simp; done) | exact hsmP)
              (refine htk 4 28 ?_ rfl ?_ ?_; rotate_left; (intro w hSw; clear hSw; go_simp); (try with_reducible rfl); simp only [lsz, lss])
              (refine htk 5 29 (.string sep) rfl ?_ ?_; (intro w hSw; obtain ⟨-, -, -, g3, -⟩ := hSw; have g3 := g3 _ rfl; simp only at g3; go_simp); simp only [lsz, lss])
              refine hrd 9 rfl (fun K hK => ?_)
              · rw [if_pos (by kernel_rfl)]
                obtain ⟨X86, hrun, hq86, hbi⟩ := Q5.ins hq hgq5 (by decide) 1 (by decide) ⟨#[61]⟩ (by decide); have hb86 := hb.trans hbi
                go_simp
                refine hK.out _ _ (S5.of hq86 (some (g2, mi, sep)) none (by first | (simp; done) | exact hsaP) (by simp)) (fun hHeld' => ?_); clear hK K hHeld hHeld' hrun hbi hq hb
                (try simp only [Act.put, lsa, lsz, lss])
                have hq := hq86; have hb := hb86; clear hq86 hb86; have hsmP : ∀ s, (some (gm, x.kind)) = some s → (s.2 = 1 ∨ s.2 = 2) ∧ ∃ n D, some (gm, 2, M21) = some (s.1, n, D) ∧ (D = M12 ∨ D = M21) := fun s hs => by cases hs; exact ⟨hxk, 2, M21, rfl, .inr rfl⟩
                have hq := show Q5 W3.heap.size wr.heap.size x _ (some (gm, 2, M21)) X86 from hq; refine wpAnyH_more (S' := S5 wr.heap.size x (some (g2, mi, sep)) (some (gm, x.kind))) (fun w h => S5.less (some (g2, mi, sep)) none (.inr rfl) (.inl rfl) h) _ _ _ _ ?_; have hHeld := S5.of hq (some (g2, mi, sep)) (some (gm, x.kind)) (by first | (simp; done) | exact hsaP) hsmP
                (refine htk 11 33 ?_ rfl ?_ ?_; rotate_left; (intro w hSw; clear hSw; go_simp); (try with_reducible rfl); simp only [lsz, lss])
                (refine htk 14 36 (.string ⟨(eqL x.kind).toArray⟩) rfl ?_ ?_; (intro w hSw; obtain ⟨-, -, -, -, g4⟩ := hSw; have g4 := g4 _ rfl; simp only at g4; go_simp); simp only [lsz, lss])
                refine hrd 18 rfl (fun K hK => ?_); rw [if_pos (by kernel_rfl)]
                go_simp
                have hqf := hq.keep ((Below.refl _ _).alloc (Nat.le_refl _) (.cells #[.string sep, .string x.name, .string ⟨(eqL x.kind).toArray⟩, .string ⟨(quoteL x.text.data.toList).toArray⟩] 9)); refine hK.out _ _ (S5.of hqf _ _ hsaP hsmP) (fun hHeld' => ?_); clear hK K hHeld
                (try simp only [Act.put, lsa, lsz, lss])
                refine hrd 19 rfl (fun K hK => ?_); rw [if_pos (by kernel_rfl)]
                go_simp
                refine (CW.out X86 hb).mono ?_; rintro e' Z ⟨rfl, hstZ, hkpZ⟩
                dsimp only
                refine hK.out _ _ (S5.of (hqf.kp hkpZ gq5 hb5) _ _ hsaP hsmP) (fun hHeld => ?_); clear hK K hHeld hHeld'; refine wpAnyH_done (by kernel_rfl) ?_ _
                all_goals go_wp2
                all_goals exact ⟨⟨k + 1, by omega, by go_num, HEnd.out _ hstZ⟩, by simp [intOf]; omega⟩
            · rw [if_pos (by kernel_rfl)]
              obtain ⟨X87, hrun, hq87, hbi⟩ := Q5.ins hq hgq5 (by decide) 1 (by decide) ⟨#[61]⟩ (by decide); have hb87 := hb.trans hbi
              go_simp
              refine hK.out _ _ (S5.of hq87 none none (by first | (simp; done) | exact hsaP) (by simp)) (fun hHeld' => ?_); clear hK K hHeld hHeld' hrun hbi hq hb
              (try simp only [Act.put, lsa, lsz, lss])
              have hq := hq87; have hb := hb87; clear hq87 hb87; have hsmP : ∀ s, (some (gm, x.kind)) = some s → (s.2 = 1 ∨ s.2 = 2) ∧ ∃ n D, some (gm, 2, M21) = some (s.1, n, D) ∧ (D = M12 ∨ D = M21) := fun s hs => by cases hs; exact ⟨hxk, 2, M21, rfl, .inr rfl⟩
              have hq := show Q5 W3.heap.size wr.heap.size x _ (some (gm, 2, M21)) X87 from hq; refine wpAnyH_more (S' := S5 wr.heap.size x none (some (gm, x.kind))) (fun w h => S5.less none none (.inr rfl) (.inl rfl) h) _ _ _ _ ?_; have hHeld := S5.of hq none (some (gm, x.kind)) (by first | (simp; done) | exact hsaP) hsmP
              (refine htk 11 33 ?_ rfl ?_ ?_; rotate_left; (intro w hSw; clear hSw; go_simp); (try with_reducible rfl); simp only [lsz, lss])
              (refine htk 14 36 (.string ⟨(eqL x.kind).toArray⟩) rfl ?_ ?_; (intro w hSw; obtain ⟨-, -, -, -, g4⟩ := hSw; have g4 := g4 _ rfl; simp only at g4; go_simp); simp only [lsz, lss])
              refine hrd 1 rfl (fun K hK => ?_)
              · rw [if_pos (by kernel_rfl)]
                go_simp
                have hq88 := Q5.slice hq (hb.size); have hb88 := hb.alloc hb.size (.cells sepC.toArray 9); refine hK.out _ _ (S5.of hq88 none (some (gm, x.kind)) (by simp) (by first | (simp; done) | exact hsmP)) (fun hHeld' => ?_); clear hK K hHeld hHeld'
                (try simp only [Act.put, lsa, lsz, lss])
                have hga : ∃ g2, X87.heap.size = g2 := ⟨_, rfl⟩; obtain ⟨g2, hg2⟩ := hga; obtain ⟨X88, hX88⟩ : ∃ Y, X87.alloc (.cells sepC.toArray 9) = Y := ⟨_, rfl⟩; rw [hX88, hg2] at hq88; rw [hX88] at hb88; have hX88' : X87.alloc (.cells #[.string ⟨#[123]⟩, .string ⟨#[44, 32]⟩] 9) = X88 := hX88
                first | rw [hX88', hg2] | rw [hX88, hg2]
                clear hX88 hX88' hg2 hq hb; have hq := hq88; have hb := hb88; clear hq88 hb88; have hsaP : ∀ s, (some (g2, mi, sep)) = some s → some g2 = some s.1 ∧ sepC[s.2.1]? = some (.string s.2.2) := fun s hs => by cases hs; exact ⟨rfl, hsepc⟩
                refine wpAnyH_more (S' := S5 wr.heap.size x (some (g2, mi, sep)) (some (gm, x.kind))) (fun w h => S5.less none (some (gm, x.kind)) (.inl rfl) (.inr rfl) h) _ _ _ _ ?_; have hHeld := S5.of hq (some (g2, mi, sep)) (some (gm, x.kind)) hsaP (by first | (simp; done) | exact hsmP)
                (refine htk 4 28 ?_ rfl ?_ ?_; rotate_left; (intro w hSw; clear hSw; go_simp); (try with_reducible rfl); simp only [lsz, lss])
                (refine htk 5 29 (.string sep) rfl ?_ ?_; (intro w hSw; obtain ⟨-, -, -, g3, -⟩ := hSw; have g3 := g3 _ rfl; simp only at g3; go_simp); simp only [lsz, lss])
                refine hrd 18 rfl (fun K hK => ?_); rw [if_pos (by kernel_rfl)]
                go_simp
                have hqf := hq.keep ((Below.refl _ _).alloc (Nat.le_refl _) (.cells #[.string sep, .string x.name, .string ⟨(eqL x.kind).toArray⟩, .string ⟨(quoteL x.text.data.toList).toArray⟩] 9)); refine hK.out _ _ (S5.of hqf _ _ hsaP hsmP) (fun hHeld' => ?_); clear hK K hHeld
                (try simp only [Act.put, lsa, lsz, lss])
                refine hrd 19 rfl (fun K hK => ?_); rw [if_pos (by kernel_rfl)]
                go_simp
                refine (CW.out X88 hb).mono ?_; rintro e' Z ⟨rfl, hstZ, hkpZ⟩
                dsimp only
                refine hK.out _ _ (S5.of (hqf.kp hkpZ gq5 hb5) _ _ hsaP hsmP) (fun hHeld => ?_); clear hK K hHeld hHeld'; refine wpAnyH_done (by kernel_rfl) ?_ _
                all_goals go_wp2
                all_goals exact ⟨⟨k + 1, by omega, by go_num, HEnd.out _ hstZ⟩, by simp [intOf]; omega⟩
      · rw [if_pos (by kernel_rfl)]
        go_simp
        refine (CQ.out X0).mono ?_; rintro e' X89 ⟨rfl, hbq⟩; have hq89 := hq.keep hbq; have hb89 := hb.trans (hbq.mono hb.size)
        dsimp only
        refine hK.out _ _ (S5.of hq89 none none (by first | (simp; done) | exact hsaP) (by first | (simp; done) | exact hsmP)) (fun hHeld' => ?_); clear hK K hHeld hHeld' hbq hq hb
        (try simp only [Act.put, lsa, lsz, lss])
        have hq := hq89; have hb := hb89; clear hq89 hb89; have hHeld := S5.of hq none none (by first | (simp; done) | exact hsaP) (by first | (simp; done) | exact hsmP); refine wpAnyH_ready (rs := [1, 8]) (by kernel_rfl) (by simp) (.cons rfl (fun K hK => ?_) (.cons rfl (fun K hK => ?_) .nil))
        · rw [if_pos (by kernel_rfl)]
          go_simp
          have hq90 := Q5.slice hq (hb.size); have hb90 := hb.alloc hb.size (.cells sepC.toArray 9); refine hK.out _ _ (S5.of hq90 none none (by simp) (by first | (simp; done) | exact hsmP)) (fun hHeld' => ?_); clear hK K hHeld hHeld'
          (try simp only [Act.put, lsa, lsz, lss])
          have hga : ∃ g2, X89.heap.size = g2 := ⟨_, rfl⟩; obtain ⟨g2, hg2⟩ := hga; obtain ⟨X90, hX90⟩ : ∃ Y, X89.alloc (.cells sepC.toArray 9) = Y := ⟨_, rfl⟩; rw [hX90, hg2] at hq90; rw [hX90] at hb90; have hX90' : X89.alloc (.cells #[.string ⟨#[123]⟩, .string ⟨#[44, 32]⟩] 9) = X90 := hX90
          first | rw [hX90', hg2] | rw [hX90, hg2]
          clear hX90 hX90' hg2 hq hb; have hq := hq90; have hb := hb90; clear hq90 hb90; have hsaP : ∀ s, (some (g2, mi, sep)) = some s → some g2 = some s.1 ∧ sepC[s.2.1]? = some (.string s.2.2) := fun s hs => by cases hs; exact ⟨rfl, hsepc⟩
          refine wpAnyH_more (S' := S5 wr.heap.size x (some (g2, mi, sep)) none) (fun w h => S5.less none none (.inl rfl) (.inr rfl) h) _ _ _ _ ?_; have hHeld := S5.of hq (some (g2, mi, sep)) none hsaP (by first | (simp; done) | exact hsmP)
          (refine htk 4 28 ?_ rfl ?_ ?_; rotate_left; (intro w hSw; clear hSw; go_simp); (try with_reducible rfl); simp only [lsz, lss])
          (refine htk 5 29 (.string sep) rfl ?_ ?_; (intro w hSw; obtain ⟨-, -, -, g3, -⟩ := hSw; have g3 := g3 _ rfl; simp only at g3; go_simp); simp only [lsz, lss])
          refine hrd 8 rfl (fun K hK => ?_)
          · rw [if_pos (by kernel_rfl)]
            go_simp
            have hq91 := Q5.made hq hb.size; have hb91 := hb.alloc hb.size (.map #[] 0); refine hK.out _ _ (S5.of hq91 (some (g2, mi, sep)) none (by first | (simp; done) | exact hsaP) (by simp)) (fun hHeld' => ?_); clear hK K hHeld hHeld'
            (try simp only [Act.put, lsa, lsz, lss])
            have hga : ∃ gm, X90.heap.size = gm := ⟨_, rfl⟩; obtain ⟨gm, hgm⟩ := hga; obtain ⟨X91, hX91⟩ : ∃ Y, X90.alloc (.map #[] 0) = Y := ⟨_, rfl⟩; rw [hX91, hgm] at hq91; rw [hX91] at hb91
            first | rw [show ({ heap := X90.heap.push (Obj.map #[] 0), tape := X90.tape, drawn := X90.drawn, os := X90.os, output := X90.output } : World) = X91 from hX91, hgm] | rw [hX91, hgm]
            clear hX91 hgm hq hb; have hq := hq91; have hb := hb91; clear hq91 hb91; have hHeld := S5.of hq (some (g2, mi, sep)) none (by first | (simp; done) | exact hsaP) (by simp); refine wpAnyH_ready (rs := [9, 10]) (by kernel_rfl) (by simp) (.cons rfl (fun K hK => ?_) (.cons rfl (fun K hK => ?_) .nil))
            · rw [if_pos (by kernel_rfl)]
              obtain ⟨X92, hrun, hq92, hbi⟩ := Q5.ins hq hgq5 (by decide) 1 (by decide) ⟨#[61]⟩ (by decide); have hb92 := hb.trans hbi
              go_simp
              refine hK.out _ _ (S5.of hq92 (some (g2, mi, sep)) none (by first | (simp; done) | exact hsaP) (by simp)) (fun hHeld' => ?_); clear hK K hHeld hHeld' hrun hbi hq hb
              (try simp only [Act.put, lsa, lsz, lss])
              have hq := hq92; have hb := hb92; clear hq92 hb92; have hHeld := S5.of hq (some (g2, mi, sep)) none (by first | (simp; done) | exact hsaP) (by simp); refine hrd 10 rfl (fun K hK => ?_)
              · rw [if_pos (by kernel_rfl)]
                obtain ⟨X93, hrun, hq93, hbi⟩ := Q5.ins hq hgq5 (by decide) 2 (by decide) ⟨#[33, 61]⟩ (by decide); have hb93 := hb.trans hbi
                go_simp
                refine hK.out _ _ (S5.of hq93 (some (g2, mi, sep)) none (by first | (simp; done) | exact hsaP) (by simp)) (fun hHeld' => ?_); clear hK K hHeld hHeld' hrun hbi hq hb
                (try simp only [Act.put, lsa, lsz, lss])
                have hq := hq93; have hb := hb93; clear hq93 hb93; have hsmP : ∀ s, (some (gm, x.kind)) = some s → (s.2 = 1 ∨ s.2 = 2) ∧ ∃ n D, some (gm, 2, M12) = some (s.1, n, D) ∧ (D = M12 ∨ D = M21) := fun s hs => by cases hs; exact ⟨hxk, 2, M12, rfl, .inl rfl⟩
                have hq := show Q5 W3.heap.size wr.heap.size x _ (some (gm, 2, M12)) X93 from hq; refine wpAnyH_more (S' := S5 wr.heap.size x (some (g2, mi, sep)) (some (gm, x.kind))) (fun w h => S5.less (some (g2, mi, sep)) none (.inr rfl) (.inl rfl) h) _ _ _ _ ?_; have hHeld := S5.of hq (some (g2, mi, sep)) (some (gm, x.kind)) (by first | (simp; done) | exact hsaP) hsmP
                (refine htk 11 33 ?_ rfl ?_ ?_; rotate_left; (intro w hSw; clear hSw; go_simp); (try with_reducible rfl); simp only [lsz, lss])
                (refine htk 14 36 (.string ⟨(eqL x.kind).toArray⟩) rfl ?_ ?_; (intro w hSw; obtain ⟨-, -, -, -, g4⟩ := hSw; have g4 := g4 _ rfl; simp only at g4; go_simp); simp only [lsz, lss])
                refine hrd 18 rfl (fun K hK => ?_); rw [if_pos (by kernel_rfl)]
                go_simp
                have hqf := hq.keep ((Below.refl _ _).alloc (Nat.le_refl _) (.cells #[.string sep, .string x.name, .string ⟨(eqL x.kind).toArray⟩, .string ⟨(quoteL x.text.data.toList).toArray⟩] 9)); refine hK.out _ _ (S5.of hqf _ _ hsaP hsmP) (fun hHeld' => ?_); clear hK K hHeld
                (try simp only [Act.put, lsa, lsz, lss])
                refine hrd 19 rfl (fun K hK => ?_); rw [if_pos (by kernel_rfl)]
                go_simp
                refine (CW.out X93 hb).mono ?_; rintro e' Z ⟨rfl, hstZ, hkpZ⟩
                dsimp only
                refine hK.out _ _ (S5.of (hqf.kp hkpZ gq5 hb5) _ _ hsaP hsmP) (fun hHeld => ?_); clear hK K hHeld hHeld'; refine wpAnyH_done (by kernel_rfl) ?_ _
                all_goals go_wp2
                all_goals exact ⟨⟨k + 1, by omega, by go_num, HEnd.out _ hstZ⟩, by simp [intOf]; omega⟩
            · rw [if_pos (by kernel_rfl)]
              obtain ⟨X94, hrun, hq94, hbi⟩ := Q5.ins hq hgq5 (by decide) 2 (by decide) ⟨#[33, 61]⟩ (by decide); have hb94 := hb.trans hbi
              go_simp
              refine hK.out _ _ (S5.of hq94 (some (g2, mi, sep)) none (by first | (simp; done) | exact hsaP) (by simp)) (fun hHeld' => ?_); clear hK K hHeld hHeld' hrun hbi hq hb
              (try simp only [Act.put, lsa, lsz, lss])
              have hq := hq94; have hb := hb94; clear hq94 hb94; have hHeld := S5.of hq (some (g2, mi, sep)) none (by first | (simp; done) | exact hsaP) (by simp); refine hrd 9 rfl (fun K hK => ?_)
              · rw [if_pos (by kernel_rfl)]
                obtain ⟨X95, hrun, hq95, hbi⟩ := Q5.ins hq hgq5 (by decide) 1 (by decide) ⟨#[61]⟩ (by decide); have hb95 := hb.trans hbi
                go_simp
                refine hK.out _ _ (S5.of hq95 (some (g2, mi, sep)) none (by first | (simp; done) | exact hsaP) (by simp)) (fun hHeld' => ?_); clear hK K hHeld hHeld' hrun hbi hq hb
                (try simp only [Act.put, lsa, lsz, lss])
                have hq := hq95; have hb := hb95; clear hq95 hb95; have hsmP : ∀ s, (some (gm, x.kind)) = some s → (s.2 = 1 ∨ s.2 = 2) ∧ ∃ n D, some (gm, 2, M21) = some (s.1, n, D) ∧ (D = M12 ∨ D = M21) := fun s hs => by cases hs; exact ⟨hxk, 2, M21, rfl, .inr rfl⟩
                have hq := show Q5 W3.heap.size wr.heap.size x _ (some (gm, 2, M21)) X95 from hq; refine wpAnyH_more (S' := S5 wr.heap.size x (some (g2, mi, sep)) (some (gm, x.kind))) (fun w h => S5.less (some (g2, mi, sep)) none (.inr rfl) (.inl rfl) h) _ _ _ _ ?_; have hHeld := S5.of hq (some (g2, mi, sep)) (some (gm, x.kind)) (by first | (simp; done) | exact hsaP) hsmP
                (refine htk 11 33 ?_ rfl ?_ ?_; rotate_left; (intro w hSw; clear hSw; go_simp); (try with_reducible rfl); simp only [lsz, lss])
                (refine htk 14 36 (.string ⟨(eqL x.kind).toArray⟩) rfl ?_ ?_; (intro w hSw; obtain ⟨-, -, -, -, g4⟩ := hSw; have g4 := g4 _ rfl; simp only at g4; go_simp); simp only [lsz, lss])
                refine hrd 18 rfl (fun K hK => ?_); rw [if_pos (by kernel_rfl)]
                go_simp
                have hqf := hq.keep ((Below.refl _ _).alloc (Nat.le_refl _) (.cells #[.string sep, .string x.name, .string ⟨(eqL x.kind).toArray⟩, .string ⟨(quoteL x.text.data.toList).toArray⟩] 9)); refine hK.out _ _ (S5.of hqf _ _ hsaP hsmP) (fun hHeld' => ?_); clear hK K hHeld
                (try simp only [Act.put, lsa, lsz, lss])
                refine hrd 19 rfl (fun K hK => ?_); rw [if_pos (by kernel_rfl)]
                go_simp
                refine (CW.out X95 hb).mono ?_; rintro e' Z ⟨rfl, hstZ, hkpZ⟩
                dsimp only
                refine hK.out _ _ (S5.of (hqf.kp hkpZ gq5 hb5) _ _ hsaP hsmP) (fun hHeld => ?_); clear hK K hHeld hHeld'; refine wpAnyH_done (by kernel_rfl) ?_ _
                all_goals go_wp2
                all_goals exact ⟨⟨k + 1, by omega, by go_num, HEnd.out _ hstZ⟩, by simp [intOf]; omega⟩
        · rw [if_pos (by kernel_rfl)]
          go_simp
          have hq96 := Q5.made hq hb.size; have hb96 := hb.alloc hb.size (.map #[] 0); refine hK.out _ _ (S5.of hq96 none none (by first | (simp; done) | exact hsaP) (by simp)) (fun hHeld' => ?_); clear hK K hHeld hHeld'
          (try simp only [Act.put, lsa, lsz, lss])
          have hga : ∃ gm, X89.heap.size = gm := ⟨_, rfl⟩; obtain ⟨gm, hgm⟩ := hga; obtain ⟨X96, hX96⟩ : ∃ Y, X89.alloc (.map #[] 0) = Y := ⟨_, rfl⟩; rw [hX96, hgm] at hq96; rw [hX96] at hb96
          first | rw [show ({ heap := X89.heap.push (Obj.map #[] 0), tape := X89.tape, drawn := X89.drawn, os := X89.os, output := X89.output } : World) = X96 from hX96, hgm] | rw [hX96, hgm]
          clear hX96 hgm hq hb; have hq := hq96; have hb := hb96; clear hq96 hb96; have hHeld := S5.of hq none none (by first | (simp; done) | exact hsaP) (by simp); refine wpAnyH_ready (rs := [1, 9, 10]) (by kernel_rfl) (by simp) (.cons rfl (fun K hK => ?_) (.cons rfl (fun K hK => ?_) (.cons rfl (fun K hK => ?_) .nil)))
          · rw [if_pos (by kernel_rfl)]
            go_simp
            have hq97 := Q5.slice hq (hb.size); have hb97 := hb.alloc hb.size (.cells sepC.toArray 9); refine hK.out _ _ (S5.of hq97 none none (by simp) (by first | (simp; done) | exact hsmP)) (fun hHeld' => ?_); clear hK K hHeld hHeld'
            (try simp only [Act.put, lsa, lsz, lss])
            have hga : ∃ g2, X96.heap.size = g2 := ⟨_, rfl⟩; obtain ⟨g2, hg2⟩ := hga; obtain ⟨X97, hX97⟩ : ∃ Y, X96.alloc (.cells sepC.toArray 9) = Y := ⟨_, rfl⟩; rw [hX97, hg2] at hq97; rw [hX97] at hb97; have hX97' : X96.alloc (.cells #[.string ⟨#[123]⟩, .string ⟨#[44, 32]⟩] 9) = X97 := hX97
            first | rw [hX97', hg2] | rw [hX97, hg2]
            clear hX97 hX97' hg2 hq hb; have hq := hq97; have hb := hb97; clear hq97 hb97; have hsaP : ∀ s, (some (g2, mi, sep)) = some s → some g2 = some s.1 ∧ sepC[s.2.1]? = some (.string s.2.2) := fun s hs => by cases hs; exact ⟨rfl, hsepc⟩
            refine wpAnyH_more (S' := S5 wr.heap.size x (some (g2, mi, sep)) none) (fun w h => S5.less none none (.inl rfl) (.inr rfl) h) _ _ _ _ ?_; have hHeld := S5.of hq (some (g2, mi, sep)) none hsaP (by first | (simp; done) | exact hsmP)
            (refine htk 4 28 ?_ rfl ?_ ?_; rotate_left; (intro w hSw; clear hSw; go_simp); (try with_reducible rfl); simp only [lsz, lss])
            (refine htk 5 29 (.string sep) rfl ?_ ?_; (intro w hSw; obtain ⟨-, -, -, g3, -⟩ := hSw; have g3 := g3 _ rfl; simp only at g3; go_simp); simp only [lsz, lss])
            refine wpAnyH_ready (rs := [9, 10]) (by kernel_rfl) (by simp) (.cons rfl (fun K hK => ?_) (.cons rfl (fun K hK => ?_) .nil))
            · rw [if_pos (by kernel_rfl)]
              obtain ⟨X98, hrun, hq98, hbi⟩ := Q5.ins hq hgq5 (by decide) 1 (by decide) ⟨#[61]⟩ (by decide); have hb98 := hb.trans hbi
              go_simp
              refine hK.out _ _ (S5.of hq98 (some (g2, mi, sep)) none (by first | (simp; done) | exact hsaP) (by simp)) (fun hHeld' => ?_); clear hK K hHeld hHeld' hrun hbi hq hb
              (try simp only [Act.put, lsa, lsz, lss])
              have hq := hq98; have hb := hb98; clear hq98 hb98; have hHeld := S5.of hq (some (g2, mi, sep)) none (by first | (simp; done) | exact hsaP) (by simp); refine hrd 10 rfl (fun K hK => ?_)
              · rw [if_pos (by kernel_rfl)]
                obtain ⟨X99, hrun, hq99, hbi⟩ := Q5.ins hq hgq5 (by decide) 2 (by decide) ⟨#[33, 61]⟩ (by decide); have hb99 := hb.trans hbi
                go_simp
                refine hK.out _ _ (S5.of hq99 (some (g2, mi, sep)) none (by first | (simp; done) | exact hsaP) (by simp)) (fun hHeld' => ?_); clear hK K hHeld hHeld' hrun hbi hq hb
                (try simp only [Act.put, lsa, lsz, lss])
                have hq := hq99; have hb := hb99; clear hq99 hb99; have hsmP : ∀ s, (some (gm, x.kind)) = some s → (s.2 = 1 ∨ s.2 = 2) ∧ ∃ n D, some (gm, 2, M12) = some (s.1, n, D) ∧ (D = M12 ∨ D = M21) := fun s hs => by cases hs; exact ⟨hxk, 2, M12, rfl, .inl rfl⟩
                have hq := show Q5 W3.heap.size wr.heap.size x _ (some (gm, 2, M12)) X99 from hq; refine wpAnyH_more (S' := S5 wr.heap.size x (some (g2, mi, sep)) (some (gm, x.kind))) (fun w h => S5.less (some (g2, mi, sep)) none (.inr rfl) (.inl rfl) h) _ _ _ _ ?_; have hHeld := S5.of hq (some (g2, mi, sep)) (some (gm, x.kind)) (by first | (simp; done) | exact hsaP) hsmP
                (refine htk 11 33 ?_ rfl ?_ ?_; rotate_left; (intro w hSw; clear hSw; go_simp); (try with_reducible rfl); simp only [lsz, lss])
                (refine htk 14 36 (.string ⟨(eqL x.kind).toArray⟩) rfl ?_ ?_; (intro w hSw; obtain ⟨-, -, -, -, g4⟩ := hSw; have g4 := g4 _ rfl; simp only at g4; go_simp); simp only [lsz, lss])
                refine hrd 18 rfl (fun K hK => ?_); rw [if_pos (by kernel_rfl)]
                go_simp
                have hqf := hq.keep ((Below.refl _ _).alloc (Nat.le_refl _) (.cells #[.string sep, .string x.name, .string ⟨(eqL x.kind).toArray⟩, .string ⟨(quoteL x.text.data.toList).toArray⟩] 9)); refine hK.out _ _ (S5.of hqf _ _ hsaP hsmP) (fun hHeld' => ?_); clear hK K hHeld
                (try simp only [Act.put, lsa, lsz, lss])
                refine hrd 19 rfl (fun K hK => ?_); rw [if_pos (by kernel_rfl)]
                go_simp
                refine (CW.out X99 hb).mono ?_; rintro e' Z ⟨rfl, hstZ, hkpZ⟩
                dsimp only
                refine hK.out _ _ (S5.of (hqf.kp hkpZ gq5 hb5) _ _ hsaP hsmP) (fun hHeld => ?_); clear hK K hHeld hHeld'; refine wpAnyH_done (by kernel_rfl) ?_ _
                all_goals go_wp2
                all_goals exact ⟨⟨k + 1, by omega, by go_num, HEnd.out _ hstZ⟩, by simp [intOf]; omega⟩
            · rw [if_pos (by kernel_rfl)]
              obtain ⟨X100, hrun, hq100, hbi⟩ := Q5.ins hq hgq5 (by decide) 2 (by decide) ⟨#[33, 61]⟩ (by decide); have hb100 := hb.trans hbi
              go_simp
              refine hK.out _ _ (S5.of hq100 (some (g2, mi, sep)) none (by first | (simp; done) | exact hsaP) (by simp)) (fun hHeld' => ?_); clear hK K hHeld hHeld' hrun hbi hq hb
              (try simp only [Act.put, lsa, lsz, lss])
              have hq := hq100; have hb := hb100; clear hq100 hb100; have hHeld := S5.of hq (some (g2, mi, sep)) none (by first | (simp; done) | exact hsaP) (by simp); refine hrd 9 rfl (fun K hK => ?_)
              · rw [if_pos (by kernel_rfl)]
                obtain ⟨X101, hrun, hq101, hbi⟩ := Q5.ins hq hgq5 (by decide) 1 (by decide) ⟨#[61]⟩ (by decide); have hb101 := hb.trans hbi
                go_simp
                refine hK.out _ _ (S5.of hq101 (some (g2, mi, sep)) none (by first | (simp; done) | exact hsaP) (by simp)) (fun hHeld' => ?_); clear hK K hHeld hHeld' hrun hbi hq hb
                (try simp only [Act.put, lsa, lsz, lss])
                have hq := hq101; have hb := hb101; clear hq101 hb101; have hsmP : ∀ s, (some (gm, x.kind)) = some s → (s.2 = 1 ∨ s.2 = 2) ∧ ∃ n D, some (gm, 2, M21) = some (s.1, n, D) ∧ (D = M12 ∨ D = M21) := fun s hs => by cases hs; exact ⟨hxk, 2, M21, rfl, .inr rfl⟩
                have hq := show Q5 W3.heap.size wr.heap.size x _ (some (gm, 2, M21)) X101 from hq; refine wpAnyH_more (S' := S5 wr.heap.size x (some (g2, mi, sep)) (some (gm, x.kind))) (fun w h => S5.less (some (g2, mi, sep)) none (.inr rfl) (.inl rfl) h) _ _ _ _ ?_; have hHeld := S5.of hq (some (g2, mi, sep)) (some (gm, x.kind)) (by first | (simp; done) | exact hsaP) hsmP
                (refine htk 11 33 ?_ rfl ?_ ?_; rotate_left; (intro w hSw; clear hSw; go_simp); (try with_reducible rfl); simp only [lsz, lss])
                (refine htk 14 36 (.string ⟨(eqL x.kind).toArray⟩) rfl ?_ ?_; (intro w hSw; obtain ⟨-, -, -, -, g4⟩ := hSw; have g4 := g4 _ rfl; simp only at g4; go_simp); simp only [lsz, lss])
                refine hrd 18 rfl (fun K hK => ?_); rw [if_pos (by kernel_rfl)]
                go_simp
                have hqf := hq.keep ((Below.refl _ _).alloc (Nat.le_refl _) (.cells #[.string sep, .string x.name, .string ⟨(eqL x.kind).toArray⟩, .string ⟨(quoteL x.text.data.toList).toArray⟩] 9)); refine hK.out _ _ (S5.of hqf _ _ hsaP hsmP) (fun hHeld' => ?_); clear hK K hHeld
                (try simp only [Act.put, lsa, lsz, lss])
                refine hrd 19 rfl (fun K hK => ?_); rw [if_pos (by kernel_rfl)]
                go_simp
                refine (CW.out X101 hb).mono ?_; rintro e' Z ⟨rfl, hstZ, hkpZ⟩
                dsimp only
                refine hK.out _ _ (S5.of (hqf.kp hkpZ gq5 hb5) _ _ hsaP hsmP) (fun hHeld => ?_); clear hK K hHeld hHeld'; refine wpAnyH_done (by kernel_rfl) ?_ _
                all_goals go_wp2
                all_goals exact ⟨⟨k + 1, by omega, by go_num, HEnd.out _ hstZ⟩, by simp [intOf]; omega⟩
          · rw [if_pos (by kernel_rfl)]
            obtain ⟨X102, hrun, hq102, hbi⟩ := Q5.ins hq hgq5 (by decide) 1 (by decide) ⟨#[61]⟩ (by decide); have hb102 := hb.trans hbi
            go_simp
            refine hK.out _ _ (S5.of hq102 none none (by first | (simp; done) | exact hsaP) (by simp)) (fun hHeld' => ?_); clear hK K hHeld hHeld' hrun hbi hq hb
            (try simp only [Act.put, lsa, lsz, lss])
            have hq := hq102; have hb := hb102; clear hq102 hb102; have hHeld := S5.of hq none none (by first | (simp; done) | exact hsaP) (by simp); refine wpAnyH_ready (rs := [1, 10]) (by kernel_rfl) (by simp) (.cons rfl (fun K hK => ?_) (.cons rfl (fun K hK => ?_) .nil))
            · rw [if_pos (by kernel_rfl)]
              go_simp
              have hq103 := Q5.slice hq (hb.size); have hb103 := hb.alloc hb.size (.cells sepC.toArray 9); refine hK.out _ _ (S5.of hq103 none none (by simp) (by first | (simp; done) | exact hsmP)) (fun hHeld' => ?_); clear hK K hHeld hHeld'
              (try simp only [Act.put, lsa, lsz, lss])
              have hga : ∃ g2, X102.heap.size = g2 := ⟨_, rfl⟩; obtain ⟨g2, hg2⟩ := hga; obtain ⟨X103, hX103⟩ : ∃ Y, X102.alloc (.cells sepC.toArray 9) = Y := ⟨_, rfl⟩; rw [hX103, hg2] at hq103; rw [hX103] at hb103; have hX103' : X102.alloc (.cells #[.string ⟨#[123]⟩, .string ⟨#[44, 32]⟩] 9) = X103 := hX103
              first | rw [hX103', hg2] | rw [hX103, hg2]
              clear hX103 hX103' hg2 hq hb; have hq := hq103; have hb := hb103; clear hq103 hb103; have hsaP : ∀ s, (some (g2, mi, sep)) = some s → some g2 = some s.1 ∧ sepC[s.2.1]? = some (.string s.2.2) := fun s hs => by cases hs; exact ⟨rfl, hsepc⟩
              refine wpAnyH_more (S' := S5 wr.heap.size x (some (g2, mi, sep)) none) (fun w h => S5.less none none (.inl rfl) (.inr rfl) h) _ _ _ _ ?_; have hHeld := S5.of hq (some (g2, mi, sep)) none hsaP (by first | (simp; done) | exact hsmP)
              (refine htk 4 28 ?_ rfl ?_ ?_; rotate_left; (intro w hSw; clear hSw; go_simp); (try with_reducible rfl); simp only [lsz, lss])
              (refine htk 5 29 (.string sep) rfl ?_ ?_; (intro w hSw; obtain ⟨-, -, -, g3, -⟩ := hSw; have g3 := g3 _ rfl; simp only at g3; go_simp); simp only [lsz, lss])
              refine hrd 10 rfl (fun K hK => ?_)
              · rw [if_pos (by kernel_rfl)]
                obtain ⟨X104, hrun, hq104, hbi⟩ := Q5.ins hq hgq5 (by decide) 2 (by decide) ⟨#[33, 61]⟩ (by decide); have hb104 := hb.trans hbi
                go_simp
                refine hK.out _ _ (S5.of hq104 (some (g2, mi, sep)) none (by first | (simp; done) | exact hsaP) (by simp)) (fun hHeld' => ?_); clear hK K hHeld hHeld' hrun hbi hq hb
                (try simp only [Act.put, lsa, lsz, lss])
                have hq := hq104; have hb := hb104; clear hq104 hb104; have hsmP : ∀ s, (some (gm, x.kind)) = some s → (s.2 = 1 ∨ s.2 = 2) ∧ ∃ n D, some (gm, 2, M12) = some (s.1, n, D) ∧ (D = M12 ∨ D = M21) := fun s hs => by cases hs; exact ⟨hxk, 2, M12, rfl, .inl rfl⟩
                have hq := show Q5 W3.heap.size wr.heap.size x _ (some (gm, 2, M12)) X104 from hq; refine wpAnyH_more (S' := S5 wr.heap.size x (some (g2, mi, sep)) (some (gm, x.kind))) (fun w h => S5.less (some (g2, mi, sep)) none (.inr rfl) (.inl rfl) h) _ _ _ _ ?_; have hHeld := S5.of hq (some (g2, mi, sep)) (some (gm, x.kind)) (by first | (simp; done) | exact hsaP) hsmP
                (refine htk 11 33 ?_ rfl ?_ ?_; rotate_left; (intro w hSw; clear hSw; go_simp); (try with_reducible rfl); simp only [lsz, lss])
                (refine htk 14 36 (.string ⟨(eqL x.kind).toArray⟩) rfl ?_ ?_; (intro w hSw; obtain ⟨-, -, -, -, g4⟩ := hSw; have g4 := g4 _ rfl; simp only at g4; go_simp); simp only [lsz, lss])
                refine hrd 18 rfl (fun K hK => ?_); rw [if_pos (by kernel_rfl)]
                go_simp
                have hqf := hq.keep ((Below.refl _ _).alloc (Nat.le_refl _) (.cells #[.string sep, .string x.name, .string ⟨(eqL x.kind).toArray⟩, .string ⟨(quoteL x.text.data.toList).toArray⟩] 9)); refine hK.out _ _ (S5.of hqf _ _ hsaP hsmP) (fun hHeld' => ?_); clear hK K hHeld
                (try simp only [Act.put, lsa, lsz, lss])
                refine hrd 19 rfl (fun K hK => ?_); rw [if_pos (by kernel_rfl)]
                go_simp
                refine (CW.out X104 hb).mono ?_; rintro e' Z ⟨rfl, hstZ, hkpZ⟩
                dsimp only
                refine hK.out _ _ (S5.of (hqf.kp hkpZ gq5 hb5) _ _ hsaP hsmP) (fun hHeld => ?_); clear hK K hHeld hHeld'; refine wpAnyH_done (by kernel_rfl) ?_ _
                all_goals go_wp2
                all_goals exact ⟨⟨k + 1, by omega, by go_num, HEnd.out _ hstZ⟩, by simp [intOf]; omega⟩
            · rw [if_pos (by kernel_rfl)]
              obtain ⟨X105, hrun, hq105, hbi⟩ := Q5.ins hq hgq5 (by decide) 2 (by decide) ⟨#[33, 61]⟩ (by decide); have hb105 := hb.trans hbi
              go_simp
              refine hK.out _ _ (S5.of hq105 none none (by first | (simp; done) | exact hsaP) (by simp)) (fun hHeld' => ?_); clear hK K hHeld hHeld' hrun hbi hq hb
              (try simp only [Act.put, lsa, lsz, lss])
              have hq := hq105; have hb := hb105; clear hq105 hb105; have hsmP : ∀ s, (some (gm, x.kind)) = some s → (s.2 = 1 ∨ s.2 = 2) ∧ ∃ n D, some (gm, 2, M12) = some (s.1, n, D) ∧ (D = M12 ∨ D = M21) := fun s hs => by cases hs; exact ⟨hxk, 2, M12, rfl, .inl rfl⟩
              have hq := show Q5 W3.heap.size wr.heap.size x _ (some (gm, 2, M12)) X105 from hq; refine wpAnyH_more (S' := S5 wr.heap.size x none (some (gm, x.kind))) (fun w h => S5.less none none (.inr rfl) (.inl rfl) h) _ _ _ _ ?_; have hHeld := S5.of hq none (some (gm, x.kind)) (by first | (simp; done) | exact hsaP) hsmP
              (refine htk 11 33 ?_ rfl ?_ ?_; rotate_left; (intro w hSw; clear hSw; go_simp); (try with_reducible rfl); simp only [lsz, lss])
              (refine htk 14 36 (.string ⟨(eqL x.kind).toArray⟩) rfl ?_ ?_; (intro w hSw; obtain ⟨-, -, -, -, g4⟩ := hSw; have g4 := g4 _ rfl; simp only at g4; go_simp); simp only [lsz, lss])
              refine hrd 1 rfl (fun K hK => ?_)
              · rw [if_pos (by kernel_rfl)]
                go_simp
                have hq106 := Q5.slice hq (hb.size); have hb106 := hb.alloc hb.size (.cells sepC.toArray 9); refine hK.out _ _ (S5.of hq106 none (some (gm, x.kind)) (by simp) (by first | (simp; done) | exact hsmP)) (fun hHeld' => ?_); clear hK K hHeld hHeld'
                (try simp only [Act.put, lsa, lsz, lss])
                have hga : ∃ g2, X105.heap.size = g2 := ⟨_, rfl⟩; obtain ⟨g2, hg2⟩ := hga; obtain ⟨X106, hX106⟩ : ∃ Y, X105.alloc (.cells sepC.toArray 9) = Y := ⟨_, rfl⟩; rw [hX106, hg2] at hq106; rw [hX106] at hb106; have hX106' : X105.alloc (.cells #[.string ⟨#[123]⟩, .string ⟨#[44, 32]⟩] 9) = X106 := hX106
                first | rw [hX106', hg2] | rw [hX106, hg2]
                clear hX106 hX106' hg2 hq hb; have hq := hq106; have hb := hb106; clear hq106 hb106; have hsaP : ∀ s, (some (g2, mi, sep)) = some s → some g2 = some s.1 ∧ sepC[s.2.1]? = some (.string s.2.2) := fun s hs => by cases hs; exact ⟨rfl, hsepc⟩
                refine wpAnyH_more (S' := S5 wr.heap.size x (some (g2, mi, sep)) (some (gm, x.kind))) (fun w h => S5.less none (some (gm, x.kind)) (.inl rfl) (.inr rfl) h) _ _ _ _ ?_; have hHeld := S5.of hq (some (g2, mi, sep)) (some (gm, x.kind)) hsaP (by first | (simp; done) | exact hsmP)
                (refine htk 4 28 ?_ rfl ?_ ?_; rotate_left; (intro w hSw; clear hSw; go_simp); (try with_reducible rfl); simp only [lsz, lss])
                (refine htk 5 29 (.string sep) rfl ?_ ?_; (intro w hSw; obtain ⟨-, -, -, g3, -⟩ := hSw; have g3 := g3 _ rfl; simp only at g3; go_simp); simp only [lsz, lss])
                refine hrd 18 rfl (fun K hK => ?_); rw [if_pos (by kernel_rfl)]
                go_simp
                have hqf := hq.keep ((Below.refl _ _).alloc (Nat.le_refl _) (.cells #[.string sep, .string x.name, .string ⟨(eqL x.kind).toArray⟩, .string ⟨(quoteL x.text.data.toList).toArray⟩] 9)); refine hK.out _ _ (S5.of hqf _ _ hsaP hsmP) (fun hHeld' => ?_); clear hK K hHeld
                (try simp only [Act.put, lsa, lsz, lss])
                refine hrd 19 rfl (fun K hK => ?_); rw [if_pos (by kernel_rfl)]
                go_simp
                refine (CW.out X106 hb).mono ?_; rintro e' Z ⟨rfl, hstZ, hkpZ⟩
                dsimp only
                refine hK.out _ _ (S5.of (hqf.kp hkpZ gq5 hb5) _ _ hsaP hsmP) (fun hHeld => ?_); clear hK K hHeld hHeld'; refine wpAnyH_done (by kernel_rfl) ?_ _
                all_goals go_wp2
                all_goals exact ⟨⟨k + 1, by omega, by go_num, HEnd.out _ hstZ⟩, by simp [intOf]; omega⟩
          · rw [if_pos (by kernel_rfl)]
            obtain ⟨X107, hrun, hq107, hbi⟩ := Q5.ins hq hgq5 (by decide) 2 (by decide) ⟨#[33, 61]⟩ (by decide); have hb107 := hb.trans hbi
            go_simp
            refine hK.out _ _ (S5.of hq107 none none (by first | (simp; done) | exact hsaP) (by simp)) (fun hHeld' => ?_); clear hK K hHeld hHeld' hrun hbi hq hb
            (try simp only [Act.put, lsa, lsz, lss])
            have hq := hq107; have hb := hb107; clear hq107 hb107; have hHeld := S5.of hq none none (by first | (simp; done) | exact hsaP) (by simp); refine wpAnyH_ready (rs := [1, 9]) (by kernel_rfl) (by simp) (.cons rfl (fun K hK => ?_) (.cons rfl (fun K hK => ?_) .nil))
            · rw [if_pos (by kernel_rfl)]
              go_simp
              have hq108 := Q5.slice hq (hb.size); have hb108 := hb.alloc hb.size (.cells sepC.toArray 9); refine hK.out _ _ (S5.of hq108 none none (by simp) (by first | (simp; done) | exact hsmP)) (fun hHeld' => ?_); clear hK K hHeld hHeld'
              (try simp only [Act.put, lsa, lsz, lss])
              have hga : ∃ g2, X107.heap.size = g2 := ⟨_, rfl⟩; obtain ⟨g2, hg2⟩ := hga; obtain ⟨X108, hX108⟩ : ∃ Y, X107.alloc (.cells sepC.toArray 9) = Y := ⟨_, rfl⟩; rw [hX108, hg2] at hq108; rw [hX108] at hb108; have hX108' : X107.alloc (.cells #[.string ⟨#[123]⟩, .string ⟨#[44, 32]⟩] 9) = X108 := hX108
              first | rw [hX108', hg2] | rw [hX108, hg2]
              clear hX108 hX108' hg2 hq hb; have hq := hq108; have hb := hb108; clear hq108 hb108; have hsaP : ∀ s, (some (g2, mi, sep)) = some s → some g2 = some s.1 ∧ sepC[s.2.1]? = some (.string s.2.2) := fun s hs => by cases hs; exact ⟨rfl, hsepc⟩
              refine wpAnyH_more (S' := S5 wr.heap.size x (some (g2, mi, sep)) none) (fun w h => S5.less none none (.inl rfl) (.inr rfl) h) _ _ _ _ ?_; have hHeld := S5.of hq (some (g2, mi, sep)) none hsaP (by first | (simp; done) | exact hsmP)
              (refine htk 4 28 ?_ rfl ?_ ?_; rotate_left; (intro w hSw; clear hSw; go_simp); (try with_reducible rfl); simp only [lsz, lss])
              (refine htk 5 29 (.string sep) rfl ?_ ?_; (intro w hSw; obtain ⟨-, -, -, g3, -⟩ := hSw; have g3 := g3 _ rfl; simp only at g3; go_simp); simp only [lsz, lss])
              refine hrd 9 rfl (fun K hK => ?_)
              · rw [if_pos (by kernel_rfl)]
                obtain ⟨X109, hrun, hq109, hbi⟩ := Q5.ins hq hgq5 (by decide) 1 (by decide) ⟨#[61]⟩ (by decide); have hb109 := hb.trans hbi
                go_simp
                refine hK.out _ _ (S5.of hq109 (some (g2, mi, sep)) none (by first | (simp; done) | exact hsaP) (by simp)) (fun hHeld' => ?_); clear hK K hHeld hHeld' hrun hbi hq hb
                (try simp only [Act.put, lsa, lsz, lss])
                have hq := hq109; have hb := hb109; clear hq109 hb109; have hsmP : ∀ s, (some (gm, x.kind)) = some s → (s.2 = 1 ∨ s.2 = 2) ∧ ∃ n D, some (gm, 2, M21) = some (s.1, n, D) ∧ (D = M12 ∨ D = M21) := fun s hs => by cases hs; exact ⟨hxk, 2, M21, rfl, .inr rfl⟩
                have hq := show Q5 W3.heap.size wr.heap.size x _ (some (gm, 2, M21)) X109 from hq; refine wpAnyH_more (S' := S5 wr.heap.size x (some (g2, mi, sep)) (some (gm, x.kind))) (fun w h => S5.less (some (g2, mi, sep)) none (.inr rfl) (.inl rfl) h) _ _ _ _ ?_; have hHeld := S5.of hq (some (g2, mi, sep)) (some (gm, x.kind)) (by first | (simp; done) | exact hsaP) hsmP
                (refine htk 11 33 ?_ rfl ?_ ?_; rotate_left; (intro w hSw; clear hSw; go_simp); (try with_reducible rfl); simp only [lsz, lss])
                (refine htk 14 36 (.string ⟨(eqL x.kind).toArray⟩) rfl ?_ ?_; (intro w hSw; obtain ⟨-, -, -, -, g4⟩ := hSw; have g4 := g4 _ rfl; simp only at g4; go_simp); simp only [lsz, lss])
                refine hrd 18 rfl (fun K hK => ?_); rw [if_pos (by kernel_rfl)]
                go_simp
                have hqf := hq.keep ((Below.refl _ _).alloc (Nat.le_refl _) (.cells #[.string sep, .string x.name, .string ⟨(eqL x.kind).toArray⟩, .string ⟨(quoteL x.text.data.toList).toArray⟩] 9)); refine hK.out _ _ (S5.of hqf _ _ hsaP hsmP) (fun hHeld' => ?_); clear hK K hHeld
                (try simp only [Act.put, lsa, lsz, lss])
                refine hrd 19 rfl (fun K hK => ?_); rw [if_pos (by kernel_rfl)]
                go_simp
                refine (CW.out X109 hb).mono ?_; rintro e' Z ⟨rfl, hstZ, hkpZ⟩
                dsimp only
                refine hK.out _ _ (S5.of (hqf.kp hkpZ gq5 hb5) _ _ hsaP hsmP) (fun hHeld => ?_); clear hK K hHeld hHeld'; refine wpAnyH_done (by kernel_rfl) ?_ _
                all_goals go_wp2
                all_goals exact ⟨⟨k + 1, by omega, by go_num, HEnd.out _ hstZ⟩, by simp [intOf]; omega⟩
            · rw [if_pos (by kernel_rfl)]
              obtain ⟨X110, hrun, hq110, hbi⟩ := Q5.ins hq hgq5 (by decide) 1 (by decide) ⟨#[61]⟩ (by decide); have hb110 := hb.trans hbi
              go_simp
              refine hK.out _ _ (S5.of hq110 none none (by first | (simp; done) | exact hsaP) (by simp)) (fun hHeld' => ?_); clear hK K hHeld hHeld' hrun hbi hq hb
              (try simp only [Act.put, lsa, lsz, lss])
              have hq := hq110; have hb := hb110; clear hq110 hb110; have hsmP : ∀ s, (some (gm, x.kind)) = some s → (s.2 = 1 ∨ s.2 = 2) ∧ ∃ n D, some (gm, 2, M21) = some (s.1, n, D) ∧ (D = M12 ∨ D = M21) := fun s hs => by cases hs; exact ⟨hxk, 2, M21, rfl, .inr rfl⟩
              have hq := show Q5 W3.heap.size wr.heap.size x _ (some (gm, 2, M21)) X110 from hq; refine wpAnyH_more (S' := S5 wr.heap.size x none (some (gm, x.kind))) (fun w h => S5.less none none (.inr rfl) (.inl rfl) h) _ _ _ _ ?_; have hHeld := S5.of hq none (some (gm, x.kind)) (by first | (simp; done) | exact hsaP) hsmP
              (refine htk 11 33 ?_ rfl ?_ ?_; rotate_left; (intro w hSw; clear hSw; go_simp); (try with_reducible rfl); simp only [lsz, lss])
              (refine htk 14 36 (.string ⟨(eqL x.kind).toArray⟩) rfl ?_ ?_; (intro w hSw; obtain ⟨-, -, -, -, g4⟩ := hSw; have g4 := g4 _ rfl; simp only at g4; go_simp); simp only [lsz, lss])
              refine hrd 1 rfl (fun K hK => ?_)
              · rw [if_pos (by kernel_rfl)]
                go_simp
                have hq111 := Q5.slice hq (hb.size); have hb111 := hb.alloc hb.size (.cells sepC.toArray 9); refine hK.out _ _ (S5.of hq111 none (some (gm, x.kind)) (by simp) (by first | (simp; done) | exact hsmP)) (fun hHeld' => ?_); clear hK K hHeld hHeld'
                (try simp only [Act.put, lsa, lsz, lss])
                have hga : ∃ g2, X110.heap.size = g2 := ⟨_, rfl⟩; obtain ⟨g2, hg2⟩ := hga; obtain ⟨X111, hX111⟩ : ∃ Y, X110.alloc (.cells sepC.toArray 9) = Y := ⟨_, rfl⟩; rw [hX111, hg2] at hq111; rw [hX111] at hb111; have hX111' : X110.alloc (.cells #[.string ⟨#[123]⟩, .string ⟨#[44, 32]⟩] 9) = X111 := hX111
                first | rw [hX111', hg2] | rw [hX111, hg2]
                clear hX111 hX111' hg2 hq hb; have hq := hq111; have hb := hb111; clear hq111 hb111; have hsaP : ∀ s, (some (g2, mi, sep)) = some s → some g2 = some s.1 ∧ sepC[s.2.1]? = some (.string s.2.2) := fun s hs => by cases hs; exact ⟨rfl, hsepc⟩
                refine wpAnyH_more (S' := S5 wr.heap.size x (some (g2, mi, sep)) (some (gm, x.kind))) (fun w h => S5.less none (some (gm, x.kind)) (.inl rfl) (.inr rfl) h) _ _ _ _ ?_; have hHeld := S5.of hq (some (g2, mi, sep)) (some (gm, x.kind)) hsaP (by first | (simp; done) | exact hsmP)
                (refine htk 4 28 ?_ rfl ?_ ?_; rotate_left; (intro w hSw; clear hSw; go_simp); (try with_reducible rfl); simp only [lsz, lss])
                (refine htk 5 29 (.string sep) rfl ?_ ?_; (intro w hSw; obtain ⟨-, -, -, g3, -⟩ := hSw; have g3 := g3 _ rfl; simp only at g3; go_simp); simp only [lsz, lss])
                refine hrd 18 rfl (fun K hK => ?_); rw [if_pos (by kernel_rfl)]
                go_simp
                have hqf := hq.keep ((Below.refl _ _).alloc (Nat.le_refl _) (.cells #[.string sep, .string x.name, .string ⟨(eqL x.kind).toArray⟩, .string ⟨(quoteL x.text.data.toList).toArray⟩] 9)); refine hK.out _ _ (S5.of hqf _ _ hsaP hsmP) (fun hHeld' => ?_); clear hK K hHeld
                (try simp only [Act.put, lsa, lsz, lss])
                refine hrd 19 rfl (fun K hK => ?_); rw [if_pos (by kernel_rfl)]
                go_simp
                refine (CW.out X111 hb).mono ?_; rintro e' Z ⟨rfl, hstZ, hkpZ⟩
                dsimp only
                refine hK.out _ _ (S5.of (hqf.kp hkpZ gq5 hb5) _ _ hsaP hsmP) (fun hHeld => ?_); clear hK K hHeld hHeld'; refine wpAnyH_done (by kernel_rfl) ?_ _
                all_goals go_wp2
                all_goals exact ⟨⟨k + 1, by omega, by go_num, HEnd.out _ hstZ⟩, by simp [intOf]; omega⟩
    · have hk' : k = e.mats.length := by omega
      subst hk'; rw [List.take_of_length_le (Nat.le_refl _)] at hst; have HS := Lib.hid hst; clear hst; have hlm64 : (Lib.itoa e.span).length ≤ 21 := itoa_len _ (by omega); have h3 : L.length = l.length + (wordL e.kind e.fn).length + 1 + e.metric.data.toList.length := by rw [← hL]; simp [catL]; omega
      have hlen : (L ++ matsL e.mats).length + (catL [⟨#[91]⟩, ⟨(Lib.itoa e.span).toArray⟩, ⟨#[93, 41]⟩]).length ≤ 1000000000 := by
        have h1 := HL.out; unfold windowL at h1; simp only [catL, List.flatMap_cons, List.flatMap_nil, List.length_append, List.length_cons, List.length_nil] at h1 ⊢; omega
      have hlen1 : e.mats ≠ [] → (L ++ matsUp e.mats).length + (catL [⟨#[125]⟩]).length ≤ 1000000000 := fun hne => by
        unfold matsL at hlen; rw [if_neg hne] at hlen; simp only [List.length_append, catL, List.flatMap_cons, List.flatMap_nil, List.length_cons, List.length_nil] at hlen ⊢; omega
      have Hlen := Lib.hid hlen; clear hlen; have Hlen1 := Lib.hid hlen1; clear hlen1 h3; have HFin := Lib.hid (fun (Z : World) (h : St B b W1 (L ++ matsL e.mats ++ catL [⟨#[91]⟩, ⟨(Lib.itoa e.span).toArray⟩, ⟨#[93, 41]⟩]) Z) => show St B b W (l ++ windowL e.kind e.fn e.metric e.mats e.span) Z from by
        have e1 : l ++ windowL e.kind e.fn e.metric e.mats e.span = L ++ matsL e.mats ++ catL [⟨#[91]⟩, ⟨(Lib.itoa e.span).toArray⟩, ⟨#[93, 41]⟩] := by rw [← hL]; simp [windowL, catL]
        rw [e1]; exact HS0.out.other h)
      have CF := Lib.hid (fun (l' : List UInt8) (X : World) (h : St B b W1 l' X) => show Calls Tryz.prog 70 #[.int .i64 e.span, .int .i64 10] X (fun e' w' => e' = .returned (.string ⟨(Lib.itoa e.span).toArray⟩) ∧ St B b W1 l' w') from
        (bFmt e.span (by omega) B X (HT.out.on h.bel)).mono fun e' w' ⟨h1, h2⟩ => ⟨h1, h.keep hB1 h2⟩)
      have CW3 := Lib.hid (fun (X : World) (h : St B b W1 (L ++ matsL e.mats) X) => show Calls Tryz.prog 66 #[.pointer (some ⟨b, 0, none⟩), .slice (some ⟨X.heap.size, 0, none⟩) 3 3] (X.alloc (.cells #[.string ⟨#[91]⟩, .string ⟨(Lib.itoa e.span).toArray⟩, .string ⟨#[93, 41]⟩] 9))
          (fun e' w' => e' = .returned (.tuple #[]) ∧ St B b W1 (L ++ matsL e.mats ++ catL [⟨#[91]⟩, ⟨(Lib.itoa e.span).toArray⟩, ⟨#[93, 41]⟩]) w') from
        h.write (xs := [⟨#[91]⟩, ⟨(Lib.itoa e.span).toArray⟩, ⟨#[93, 41]⟩]) hB1 _ rfl 3 rfl Hlen.out (by decide) _ rfl)
      by_cases h0 : e.mats = []
      · have hl0 : e.mats.length = 0 := by rw [h0]; rfl
        have hst2 : St B b W1 (L ++ matsL e.mats) wr := by have := HS.out; rw [h0] at this ⊢; simpa [matsL, matsUp] using this
        rw [hl0] at hc ⊢; clear h0 hlt
        go_upto_region 9 with fail
        go_wp2_with (first
          | (go_at_call 70; refine (CF.out _ _ hst2).mono ?_; rintro e' w1 ⟨rfl, hst3⟩)
          | (go_at_call 66; refine (CW3.out _ hst3).mono ?_; rintro e' w2 ⟨rfl, hst4⟩))
        refine bodyPost_end (results_none rfl _ _ _) rfl ?_; exact ⟨rfl, HFin.out _ hst4⟩
      · have hl0 : 0 < e.mats.length := List.length_pos_iff.2 h0
        have hl0' : (0 : Int) < (e.mats.length : Int) := by omega
        have CW1 := Lib.hid (show Calls Tryz.prog 66 #[.pointer (some ⟨b, 0, none⟩), .slice (some ⟨wr.heap.size, 0, none⟩) 1 1] (wr.alloc (.cells #[.string ⟨#[125]⟩] 9)) (fun e' w' => e' = .returned (.tuple #[]) ∧ St B b W1 (L ++ matsL e.mats) w') from
          (HS.out.write (xs := [⟨#[125]⟩]) hB1 _ rfl 1 rfl (Hlen1.out h0) (by decide) _ rfl).mono fun e' w' ⟨h1, h2⟩ => ⟨h1, by
            have e1 : L ++ matsL e.mats = L ++ matsUp e.mats ++ catL [⟨#[125]⟩] := by unfold matsL; rw [if_neg h0]; simp [catL]
            rw [e1]; exact h2⟩)
        clear h0 hlt
        go_upto_region 9 with (go_at_call 66; refine CW1.out.mono ?_; rintro e' w0 ⟨rfl, hst2⟩)
        have hc3 := HC.out _ _ hst2
        go_wp2_with (first
          | (go_at_call 70; refine (CF.out _ _ hst2).mono ?_; rintro e' w1 ⟨rfl, hst3⟩)
          | (go_at_call 66; refine (CW3.out _ hst3).mono ?_; rintro e' w2 ⟨rfl, hst4⟩))
        refine bodyPost_end (results_none rfl _ _ _) rfl ?_; exact ⟨rfl, HFin.out _ hst4⟩
end Go.Proofs.YtdjdikiimhhjpaaGreatDoor
namespace Go.Proofs.YtdjdikiimhhjpaaGreatDoor
open Go.RowKit
set_option linter.unusedSimpArgs false
set_option linter.unusedVariables false
theorem sOf (e : Ex) (pm pn pk : Option Addr) (cm cn ck : Nat) (w : World) :
    Calls Tryz.prog 63 #[.agg #[.int .i64 e.kind, .int .i64 e.fn, .int .i64 e.op, .int .i64 e.num, .string e.metric, .slice pm e.mats.length cm, .int .i64 e.span, .slice pn e.names.length cn, .slice pk e.kids.length ck]] w fun e' w' => e' = .returned (.agg #[.int .i64 e.kind, .int .i64 e.op]) ∧ Below w.heap.size w w' := by
  go_enter Tryz.func63, Tryz.ntmps63; (try simp only [List.append_eq, List.cons_append, List.nil_append])
  go_wp2_with (refine wpList_store_new rfl 103 _ _ rfl #[.int .i64 e.kind, .int .i64 e.op] 103 _ rfl rfl (by kernel_rfl) rfl (by rfl) ?_)
  have hblk : ((w.alloc (.cells #[.int .i64 e.kind, .int .i64 e.fn, .int .i64 e.op, .int .i64 e.num, .string e.metric, .slice pm e.mats.length cm, .int .i64 e.span, .slice pn e.names.length cn, .slice pk e.kids.length ck] 37)).alloc (.cells #[.int .i64 e.kind, .int .i64 e.op] 103)).heap[w.heap.size + 1]? = some (.cells #[.int .i64 e.kind, .int .i64 e.op] 103 (0, 0)) := by
    have := World.alloc_heap_new (w.alloc (.cells #[.int .i64 e.kind, .int .i64 e.fn, .int .i64 e.op, .int .i64 e.num, .string e.metric, .slice pm e.mats.length cm, .int .i64 e.span, .slice pn e.names.length cn, .slice pk e.kids.length ck] 37)) (.cells #[.int .i64 e.kind, .int .i64 e.op] 103)
    simpa using this
  exact bodyPost_agg (g := w.heap.size + 1) (fr := (0, 0)) (cs := #[.int .i64 e.kind, .int .i64 e.op]) (d := _) rfl rfl hblk Tryz.underlying103 rfl (by kernel_rfl) rfl ⟨rfl, ((Below.refl _ _).alloc (Nat.le_refl _) _).alloc (by simp) _⟩
theorem bJoin (l : List ByteArray) (p : Option Addr) (cap n : Nat) (sep : ByteArray) (W : World) (h : IsStrs n W (.slice p l.length cap) l) (hn : n ≤ W.heap.size) (h1000 : l.length ≤ 1000) (hlen : (Lib.join (l.map (·.data.toList)) sep.data.toList).length ≤ 1000000000) :
    Calls Tryz.prog 62 #[.slice p l.length cap, .string sep] W fun e w' => e = .returned (.string ⟨(Lib.join (l.map (·.data.toList)) sep.data.toList).toArray⟩) ∧ Below W.heap.size W w' := by
  cases l with
  | nil => exact (Tryz.strings_Join_none p cap sep W).mono fun e w' ⟨h1, h2⟩ => ⟨by rw [h1]; rfl, by rw [h2]; exact Below.refl _ _⟩
  | cons x r =>
    obtain ⟨p', cap', hv, h1, h2, h3⟩ := h.open; cases hv; unfold maxLen at h2 h3; obtain ⟨b, off, rfl, hb, -, -⟩ := h.get (k := 0) (by simp); refine Tryz.strings_Join b off cap (x :: r) sep W (fun j y hy => ?_) (by omega) (by omega) h1 (by omega); obtain ⟨hj, rfl⟩ := List.getElem?_eq_some_iff.1 hy; obtain ⟨b', off', hp, _, hc, _⟩ := h.get hj; cases hp; exact hc
def ShExprC (e : Ex) : Prop := e.flat.all rightB = true → e.num64 → ∀ (cs : List Value) (n B b : Nat) (l : List UInt8) (W : World), IsEx n W e cs → n ≤ B → Bld B b l W → B ≤ W.heap.size → TB B W → l.length + (exT e).length ≤ 1000000000 →
    Calls Tryz.prog 41 #[.pointer (some ⟨b, 0, none⟩), .agg cs.toArray] W fun e' w' => e' = .returned (.tuple #[]) ∧ St B b W (l ++ exT e) w'
theorem sKid (e : Ex) (hE : ShExprC e) (hv : e.flat.all rightB = true) (h64 : e.num64) (least : Int) (cs : List Value) (n B b : Nat) (l : List UInt8) (W : World) (he : IsEx n W e cs) (hn : n ≤ B) (hb : Bld B b l W) (hB : B ≤ W.heap.size) (hT : TB B W)
    (hl : l.length + (kidT least (strI e.kind e.op, exT e)).length ≤ 1000000000) :
    Calls Tryz.prog 68 #[.pointer (some ⟨b, 0, none⟩), .agg cs.toArray, .int .i64 least] W fun e' w' => e' = .returned (.tuple #[]) ∧ St B b W (l ++ kidT least (strI e.kind e.op, exT e)) w' := by
  obtain ⟨pm, cm, pn, cn, pk, ck, rfl, -⟩ := he.cellsE
  have hE1 := hE hv h64
  clear hE
  have HE := Lib.hid hE1; clear hE1 hv h64
  have He := Lib.hid he; clear he
  have HW0 := Lib.hid (St.start hb); clear hb
  go_enter Tryz.func68, Tryz.ntmps68; (try simp only [List.append_eq, List.cons_append, List.nil_append])
  go_upto_region 1 with fail
  have hblk := Blk.new W [.int .i64 e.kind, .int .i64 e.fn, .int .i64 e.op, .int .i64 e.num, .string e.metric, .slice pm e.mats.length cm, .int .i64 e.span, .slice pn e.names.length cn, .slice pk e.kids.length ck] 37
  have hst := HW0.out.alloc hB (.cells [.int .i64 e.kind, .int .i64 e.fn, .int .i64 e.op, .int .i64 e.num, .string e.metric, .slice pm e.mats.length cm, .int .i64 e.span, .slice pn e.names.length cn, .slice pk e.kids.length ck].toArray 37)
  have hT1 := hT.on (hst.bel)
  have HIn := Lib.hid (He.out.mono (hst.bel.mono hn) (Nat.le_refl _))
  obtain ⟨W1, hW1⟩ : ∃ W1, W.alloc (.cells [.int .i64 e.kind, .int .i64 e.fn, .int .i64 e.op, .int .i64 e.num, .string e.metric, .slice pm e.mats.length cm, .int .i64 e.span, .slice pn e.names.length cn, .slice pk e.kids.length ck].toArray 37) = W1 := ⟨_, rfl⟩
  rw [hW1] at hblk hst hT1 HIn
  have hW1' : W.alloc (.cells #[.int .i64 e.kind, .int .i64 e.fn, .int .i64 e.op, .int .i64 e.num, .string e.metric, .slice pm e.mats.length cm, .int .i64 e.span, .slice pn e.names.length cn, .slice pk e.kids.length ck] 37) = W1 := hW1
  rw [hW1']
  have hB1 : B ≤ W1.heap.size := hst.size hB
  have gne : W.heap.size ≠ b := hst.bld.ne hblk (by decide)
  have HS0 := Lib.hid hst; clear hst
  have HT := Lib.hid hT1; clear hT1 hT
  have HBk := Lib.hid hblk; clear hblk hW1 hW1'
  have HC := Lib.hid (fun (l' : List UInt8) (X : World) (h : St B b W1 l' X) => show X.cell? ⟨W.heap.size, 0, none⟩ = some (.int .i64 e.kind) ∧ X.cell? ⟨W.heap.size, 1, none⟩ = some (.int .i64 e.fn) ∧ X.cell? ⟨W.heap.size, 2, none⟩ = some (.int .i64 e.op) ∧ X.cell? ⟨W.heap.size, 3, none⟩ = some (.int .i64 e.num) ∧ X.cell? ⟨W.heap.size, 4, none⟩ = some (.string e.metric) ∧ X.cell? ⟨W.heap.size, 5, none⟩ = some (.slice pm e.mats.length cm) ∧ X.cell? ⟨W.heap.size, 6, none⟩ = some (.int .i64 e.span) ∧ X.cell? ⟨W.heap.size, 7, none⟩ = some (.slice pn e.names.length cn) ∧ X.cell? ⟨W.heap.size, 8, none⟩ = some (.slice pk e.kids.length ck) from
    have q := HBk.out.kp h.kp gne (by decide)
    ⟨q.cell 0 _ rfl, q.cell 1 _ rfl, q.cell 2 _ rfl, q.cell 3 _ rfl, q.cell 4 _ rfl, q.cell 5 _ rfl, q.cell 6 _ rfl, q.cell 7 _ rfl, q.cell 8 _ rfl⟩)
  have CO := Lib.hid (fun (l' : List UInt8) (X : World) (h : St B b W1 l' X) => show Calls Tryz.prog 63 #[.agg #[.int .i64 e.kind, .int .i64 e.fn, .int .i64 e.op, .int .i64 e.num, .string e.metric, .slice pm e.mats.length cm, .int .i64 e.span, .slice pn e.names.length cn, .slice pk e.kids.length ck]] X (fun e' w' => e' = .returned (.agg #[.int .i64 e.kind, .int .i64 e.op]) ∧ St B b W1 l' w') from
    (sOf e pm pn pk cm cn ck X).mono fun e' w' ⟨h1, h2⟩ => ⟨h1, h.keep hB1 h2⟩)
  have CS := Lib.hid (fun (l' : List UInt8) (X : World) (h : St B b W1 l' X) => show Calls Tryz.prog 64 #[.agg #[.int .i64 e.kind, .int .i64 e.op]] X (fun e' w' => e' = .returned (.int .i64 (strI e.kind e.op)) ∧ St B b W1 l' w') from
    (sStrength e.kind e.op X).mono fun e' w' ⟨h1, h2⟩ => ⟨h1, h.keep hB1 h2⟩)
  have CE := Lib.hid (fun (l' : List UInt8) (X : World) (h : St B b W1 l' X) (hl' : l'.length + (exT e).length ≤ 1000000000) => show Calls Tryz.prog 41 #[.pointer (some ⟨b, 0, none⟩), .agg #[.int .i64 e.kind, .int .i64 e.fn, .int .i64 e.op, .int .i64 e.num, .string e.metric, .slice pm e.mats.length cm, .int .i64 e.span, .slice pn e.names.length cn, .slice pk e.kids.length ck]] X (fun e' w' => e' = .returned (.tuple #[]) ∧ St B b W1 (l' ++ exT e) w') from
    (HE.out _ n B b l' X (HIn.out.mono (h.bel.mono hn) (Nat.le_refl _)) hn h.bld (h.size hB1) (HT.out.on h.bel) hl').mono fun e' w' ⟨h1, h2⟩ => ⟨h1, h.other h2⟩)
  have hst0 : St B b W1 l W1 := St.start HS0.out.bld
  have hc0 := HC.out _ _ hst0
  by_cases hge : least ≤ strI e.kind e.op
  · have HF : Hid (kidT least (strI e.kind e.op, exT e) = exT e) := by show _ = _; unfold kidT; rw [if_pos hge]
    rw [HF.out] at hl; have hdec : decide (least ≤ strI e.kind e.op) = true := decide_eq_true hge
    go_upto_region 2 with (first
      | (go_at_call 63; refine (CO.out _ _ hst0).mono ?_; rintro e' w1 ⟨rfl, hst1⟩)
      | (go_at_call 64; refine (CS.out _ _ hst1).mono ?_; rintro e' w2 ⟨rfl, hst2⟩))
    have hc2 := HC.out _ _ hst2
    go_wp2_with (go_at_call 41; refine (CE.out _ _ hst2 (by omega)).mono ?_; rintro e' w3 ⟨rfl, hst3⟩)
    refine bodyPost_ret (results_none rfl _ _ _) rfl ?_; exact ⟨rfl, by rw [HF.out]; exact HS0.out.other hst3⟩
  · have hdec : decide (least ≤ strI e.kind e.op) = false := decide_eq_false hge
    clear hge
    go_upto_region 2 with (first
      | (go_at_call 63; refine (CO.out _ _ hst0).mono ?_; rintro e' w1 ⟨rfl, hst1⟩)
      | (go_at_call 64; refine (CS.out _ _ hst1).mono ?_; rintro e' w2 ⟨rfl, hst2⟩))
    have hc2 := HC.out _ _ hst2; have HF : Hid (kidT least (strI e.kind e.op, exT e) = [40] ++ exT e ++ [41]) := by show _ = _; unfold kidT; rw [if_neg (by simpa using hdec)]
    rw [HF.out] at hl; simp only [List.length_append, List.length_cons, List.length_nil] at hl; have CW1 := Lib.hid (fun (X : World) (h : St B b W1 l X) => show Calls Tryz.prog 66 #[.pointer (some ⟨b, 0, none⟩), .slice (some ⟨X.heap.size, 0, none⟩) 1 1] (X.alloc (.cells #[.string ⟨#[40]⟩] 9)) (fun e' w' => e' = .returned (.tuple #[]) ∧ St B b W1 (l ++ [40]) w') from
      (h.write (xs := [⟨#[40]⟩]) hB1 _ rfl 1 rfl (by rw [catL_one]; show l.length + 1 ≤ _; omega) (by decide) _ rfl).mono fun e' w' ⟨h1, h2⟩ => ⟨h1, by rw [catL_one] at h2; exact h2⟩)
    have CW2 := Lib.hid (fun (X : World) (h : St B b W1 (l ++ [40] ++ exT e) X) => show Calls Tryz.prog 66 #[.pointer (some ⟨b, 0, none⟩), .slice (some ⟨X.heap.size, 0, none⟩) 1 1] (X.alloc (.cells #[.string ⟨#[41]⟩] 9)) (fun e' w' => e' = .returned (.tuple #[]) ∧ St B b W1 (l ++ [40] ++ exT e ++ [41]) w') from
      (h.write (xs := [⟨#[41]⟩]) hB1 _ rfl 1 rfl (by rw [catL_one]; show (l ++ [40] ++ exT e).length + 1 ≤ _; simp only [List.length_append, List.length_cons, List.length_nil]; omega) (by decide) _ rfl).mono fun e' w' ⟨h1, h2⟩ => ⟨h1, by rw [catL_one] at h2; exact h2⟩)
    go_upto_region 4 with (go_at_call 66; refine (CW1.out _ hst2).mono ?_; rintro e' w3 ⟨rfl, hst3⟩)
    clear hc2; have hc3 := HC.out _ _ hst3
    go_upto_region 5 with (go_at_call 41; refine (CE.out _ _ hst3 (by simp only [List.length_append, List.length_cons, List.length_nil]; omega)).mono ?_; rintro e' w4 ⟨rfl, hst4⟩)
    go_wp2_with (go_at_call 66; refine (CW2.out _ hst4).mono ?_; rintro e' w5 ⟨rfl, hst5⟩)
    refine bodyPost_end (results_none rfl _ _ _) rfl ?_; exact ⟨rfl, by rw [HF.out]; have := HS0.out.other hst5; simpa using this⟩
end Go.Proofs.YtdjdikiimhhjpaaGreatDoor
