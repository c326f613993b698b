/- Matchers, names and expressions as data, and how they lie in memory. No program here. -/
import Derived.Test.YtkheeiipkdeihaaBase
namespace Go.Proofs.Ytkheeiipkdeihaa
open Go.RowKit
set_option linter.unusedSimpArgs false
set_option linter.unusedVariables false

structure Mat where
  kind : Int
  name : ByteArray
  text : ByteArray
deriving DecidableEq

def Mat.cells (m : Mat) : List Value := [.int .i64 m.kind, .string m.name, .string m.text]
def Mat.small (m : Mat) : Prop := m.name.size ≤ maxLen ∧ m.text.size ≤ maxLen

/-- A slice of matchers. -/
def IsMats (n : Nat) (w : World) (v : Value) (l : List Mat) : Prop := Arr n w v 3 (l.map Mat.cells) ∧ ∀ m ∈ l, m.small

theorem IsMats.mono {n m : Nat} {w w' : World} {v : Value} {l : List Mat} (h : IsMats n w v l) (hb : Below n w w') (hm : n ≤ m) : IsMats m w' v l :=
  ⟨h.1.mono hb hm, h.2⟩
theorem IsMats.open {n : Nat} {w : World} {v : Value} {l : List Mat} (h : IsMats n w v l) : ∃ p cap, v = .slice p l.length cap ∧ l.length ≤ cap ∧ cap ≤ maxLen ∧ l.length ≤ maxLen := by
  obtain ⟨⟨p, cap, hv, h1, h2, _⟩, _⟩ := h
  simp only [List.length_map] at hv h1
  exact ⟨p, cap, hv, h1, h2, by omega⟩
theorem IsMats.get {n : Nat} {w : World} {p : Option Addr} {len cap : Nat} {l : List Mat} (h : IsMats n w (.slice p len cap) l) {k : Nat} (hk : k < l.length) :
    ∃ b off, p = some ⟨b, off, none⟩ ∧ b < n ∧ w.cell? ⟨b, off + k * 3, none⟩ = some (.int .i64 l[k].kind) ∧ w.cell? ⟨b, off + k * 3 + 1, none⟩ = some (.string l[k].name) ∧
      w.cell? ⟨b, off + k * 3 + 2, none⟩ = some (.string l[k].text) ∧ l[k].name.size ≤ maxLen ∧ l[k].text.size ≤ maxLen := by
  obtain ⟨b, off, hp, hb, hc⟩ := h.1.at k l[k].cells (by simp [hk])
  exact ⟨b, off, hp, hb, hc 0 _ rfl, hc 1 _ rfl, hc 2 _ rfl, (h.2 _ (List.getElem_mem hk)).1, (h.2 _ (List.getElem_mem hk)).2⟩

/-- A slice of strings. -/
def IsStrs (n : Nat) (w : World) (v : Value) (l : List ByteArray) : Prop := Arr n w v 1 (l.map fun s => [.string s]) ∧ ∀ s ∈ l, s.size ≤ maxLen

theorem IsStrs.mono {n m : Nat} {w w' : World} {v : Value} {l : List ByteArray} (h : IsStrs n w v l) (hb : Below n w w') (hm : n ≤ m) : IsStrs m w' v l :=
  ⟨h.1.mono hb hm, h.2⟩
theorem IsStrs.open {n : Nat} {w : World} {v : Value} {l : List ByteArray} (h : IsStrs n w v l) : ∃ p cap, v = .slice p l.length cap ∧ l.length ≤ cap ∧ cap ≤ maxLen ∧ l.length ≤ maxLen := by
  obtain ⟨⟨p, cap, hv, h1, h2, _⟩, _⟩ := h
  simp only [List.length_map] at hv h1
  exact ⟨p, cap, hv, h1, h2, by omega⟩
theorem IsStrs.get {n : Nat} {w : World} {p : Option Addr} {len cap : Nat} {l : List ByteArray} (h : IsStrs n w (.slice p len cap) l) {k : Nat} (hk : k < l.length) :
    ∃ b off, p = some ⟨b, off, none⟩ ∧ b < n ∧ w.cell? ⟨b, off + k, none⟩ = some (.string l[k]) ∧ l[k].size ≤ maxLen := by
  obtain ⟨b, off, hp, hb, hc⟩ := h.1.at k [.string l[k]] (by simp [hk])
  have := hc 0 _ rfl
  rw [Nat.mul_one] at this
  exact ⟨b, off, hp, hb, this, h.2 _ (List.getElem_mem hk)⟩

/-- An expression. -/
inductive Ex where
  | mk (kind fn op num : Int) (metric : ByteArray) (mats : List Mat) (span : Int) (names : List ByteArray) (kids : List Ex)

def Ex.kind : Ex → Int | .mk k _ _ _ _ _ _ _ _ => k
def Ex.fn : Ex → Int | .mk _ f _ _ _ _ _ _ _ => f
def Ex.op : Ex → Int | .mk _ _ o _ _ _ _ _ _ => o
def Ex.num : Ex → Int | .mk _ _ _ n _ _ _ _ _ => n
def Ex.metric : Ex → ByteArray | .mk _ _ _ _ m _ _ _ _ => m
def Ex.mats : Ex → List Mat | .mk _ _ _ _ _ m _ _ _ => m
def Ex.span : Ex → Int | .mk _ _ _ _ _ _ s _ _ => s
def Ex.names : Ex → List ByteArray | .mk _ _ _ _ _ _ _ n _ => n
def Ex.kids : Ex → List Ex | .mk _ _ _ _ _ _ _ _ k => k

/-- These nine cells hold an expression. -/
inductive IsEx (n : Nat) (w : World) : Ex → List Value → Prop where
  | mk {kind fn op num : Int} {metric : ByteArray} {mats : List Mat} {span : Int} {names : List ByteArray} {kids : List Ex} {vm vn vk : Value} {rows : List (List Value)}
      (hs : metric.size ≤ maxLen) (hm : IsMats n w vm mats) (hn : IsStrs n w vn names) (hk : Arr n w vk 9 rows) (hl : rows.length = kids.length)
      (hr : ∀ (k : Nat) (r : List Value) (e : Ex), rows[k]? = some r → kids[k]? = some e → IsEx n w e r) :
      IsEx n w (.mk kind fn op num metric mats span names kids) [.int .i64 kind, .int .i64 fn, .int .i64 op, .int .i64 num, .string metric, vm, .int .i64 span, vn, vk]

theorem IsEx.mono {n m : Nat} {w w' : World} {e : Ex} {cs : List Value} (h : IsEx n w e cs) (hb : Below n w w') (hm : n ≤ m) : IsEx m w' e cs := by
  induction h with
  | mk hs h1 h2 h3 hl _ ih => exact .mk hs (h1.mono hb hm) (h2.mono hb hm) (h3.mono hb hm) hl fun k r e hr he => ih k r e hr he

/-- A slice of expressions. -/
def IsExs (n : Nat) (w : World) (v : Value) (l : List Ex) : Prop :=
  ∃ rows : List (List Value), Arr n w v 9 rows ∧ rows.length = l.length ∧ ∀ (k : Nat) (r : List Value) (e : Ex), rows[k]? = some r → l[k]? = some e → IsEx n w e r

theorem IsExs.mono {n m : Nat} {w w' : World} {v : Value} {l : List Ex} (h : IsExs n w v l) (hb : Below n w w') (hm : n ≤ m) : IsExs m w' v l := by
  obtain ⟨rows, h1, h2, h3⟩ := h
  exact ⟨rows, h1.mono hb hm, h2, fun k r e hr he => (h3 k r e hr he).mono hb hm⟩
theorem IsExs.open {n : Nat} {w : World} {v : Value} {l : List Ex} (h : IsExs n w v l) : ∃ p cap, v = .slice p l.length cap ∧ l.length ≤ cap ∧ cap ≤ maxLen ∧ l.length ≤ maxLen := by
  obtain ⟨rows, ⟨p, cap, hv, h1, h2, _⟩, hl, _⟩ := h
  rw [hl] at hv h1
  exact ⟨p, cap, hv, h1, h2, by omega⟩

/-- What an expression's cells are. -/
theorem IsEx.cells {n : Nat} {w : World} {e : Ex} {cs : List Value} (h : IsEx n w e cs) :
    ∃ vm vn vk, cs = [.int .i64 e.kind, .int .i64 e.fn, .int .i64 e.op, .int .i64 e.num, .string e.metric, vm, .int .i64 e.span, vn, vk] ∧
      e.metric.size ≤ maxLen ∧ IsMats n w vm e.mats ∧ IsStrs n w vn e.names ∧ IsExs n w vk e.kids := by
  cases h with
  | mk hs h1 h2 h3 hl hr => exact ⟨_, _, _, rfl, hs, h1, h2, _, h3, hl, hr⟩

theorem IsExs.get {n : Nat} {w : World} {p : Option Addr} {len cap : Nat} {l : List Ex} (h : IsExs n w (.slice p len cap) l) {k : Nat} (hk : k < l.length) :
    ∃ b off r0 r1 r2 r3 r4 r5 r6 r7 r8, p = some ⟨b, off, none⟩ ∧ b < n ∧ IsEx n w l[k] [r0, r1, r2, r3, r4, r5, r6, r7, r8] ∧
      w.cell? ⟨b, off + k * 9, none⟩ = some r0 ∧ w.cell? ⟨b, off + k * 9 + 1, none⟩ = some r1 ∧ w.cell? ⟨b, off + k * 9 + 2, none⟩ = some r2 ∧
      w.cell? ⟨b, off + k * 9 + 3, none⟩ = some r3 ∧ w.cell? ⟨b, off + k * 9 + 4, none⟩ = some r4 ∧ w.cell? ⟨b, off + k * 9 + 5, none⟩ = some r5 ∧
      w.cell? ⟨b, off + k * 9 + 6, none⟩ = some r6 ∧ w.cell? ⟨b, off + k * 9 + 7, none⟩ = some r7 ∧ w.cell? ⟨b, off + k * 9 + 8, none⟩ = some r8 := by
  obtain ⟨rows, h1, h2, h3⟩ := h
  have hk' : k < rows.length := by omega
  obtain ⟨b, off, hp, hb, hc⟩ := h1.at k rows[k] (by simp [hk'])
  have he := h3 k rows[k] l[k] (by simp [hk']) (by simp [hk])
  obtain ⟨vm, vn, vk, hcs, _⟩ := he.cells
  rw [hcs] at he hc
  exact ⟨b, off, _, _, _, _, _, _, _, _, _, hp, hb, he, hc 0 _ rfl, hc 1 _ rfl, hc 2 _ rfl, hc 3 _ rfl, hc 4 _ rfl, hc 5 _ rfl, hc 6 _ rfl, hc 7 _ rfl, hc 8 _ rfl⟩

end Go.Proofs.Ytkheeiipkdeihaa
