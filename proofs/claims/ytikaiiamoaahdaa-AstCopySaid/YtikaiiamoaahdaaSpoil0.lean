/- What spoil turns: ints for ints, strings for strings, in blocks of one call's own. No walk here. -/
import Derived.Test.YtikaiiamoaahdaaCopy0
namespace Go.Proofs.Ytikaiiamoaahdaa
open Go.RowKit
set_option linter.unusedSimpArgs false
set_option linter.unusedVariables false

/-- A cell that spoil may leave. -/
def Soft (x y : Value) : Prop := x = y ∨ (∃ a b, x = .int .i64 a ∧ y = .int .i64 b) ∨ (∃ a b, x = .string a ∧ y = .string b)
theorem Soft.refl (x : Value) : Soft x x := .inl rfl
theorem Soft.trans {x y z : Value} (h : Soft x y) (k : Soft y z) : Soft x z := by
  rcases h with rfl | ⟨a, b, rfl, rfl⟩ | ⟨a, b, rfl, rfl⟩
  · exact k
  · rcases k with rfl | ⟨c, d, h, rfl⟩ | ⟨c, d, h, rfl⟩
    · exact .inr (.inl ⟨_, _, rfl, rfl⟩)
    · exact .inr (.inl ⟨_, _, rfl, rfl⟩)
    · cases h
  · rcases k with rfl | ⟨c, d, h, rfl⟩ | ⟨c, d, h, rfl⟩
    · exact .inr (.inr ⟨_, _, rfl, rfl⟩)
    · cases h
    · exact .inr (.inr ⟨_, _, rfl, rfl⟩)
theorem Soft.int {a : Int} {y : Value} (h : Soft (.int .i64 a) y) : ∃ b, y = .int .i64 b := by
  rcases h with rfl | ⟨c, d, h, rfl⟩ | ⟨c, d, h, rfl⟩
  · exact ⟨_, rfl⟩
  · exact ⟨_, rfl⟩
  · cases h
theorem Soft.str {a : ByteArray} {y : Value} (h : Soft (.string a) y) : ∃ b, y = .string b := by
  rcases h with rfl | ⟨c, d, h, rfl⟩ | ⟨c, d, h, rfl⟩
  · exact ⟨_, rfl⟩
  · cases h
  · exact ⟨_, rfl⟩
theorem Soft.slice {A : Option Addr} {n c : Nat} {y : Value} (h : Soft (.slice A n c) y) : y = .slice A n c := by
  rcases h with rfl | ⟨c, d, h, rfl⟩ | ⟨c, d, h, rfl⟩
  · rfl
  · cases h
  · cases h

/-- Behind w only blocks from lo on, below hi, and what is new, have turned; those softly. -/
structure Spo (lo hi : Nat) (w w' : World) : Prop where
  os : w'.os = w.os
  tape : w'.tape = w.tape
  output : w'.output = w.output
  size : w.heap.size ≤ w'.heap.size
  out : ∀ k, k < w.heap.size → (k < lo ∨ hi ≤ k) → w'.heap[k]? = w.heap[k]?
  soft : ∀ (k : Nat) (cs : Array Value) (t : TypeId), lo ≤ k → k < hi → w.heap[k]? = some (.cells cs t (0, 0)) → ∃ cs', w'.heap[k]? = some (.cells cs' t (0, 0)) ∧ cs'.size = cs.size ∧ ∀ (j : Nat) (x : Value), cs[j]? = some x → ∃ y, cs'[j]? = some y ∧ Soft x y
theorem Spo.refl (lo hi : Nat) (w : World) : Spo lo hi w w := ⟨rfl, rfl, rfl, Nat.le_refl _, fun _ _ _ => rfl, fun k cs t _ _ h => ⟨cs, h, rfl, fun j x hx => ⟨x, hx, Soft.refl x⟩⟩⟩
theorem Spo.trans {lo hi : Nat} {a b c : World} (h : Spo lo hi a b) (k : Spo lo hi b c) : Spo lo hi a c :=
  ⟨k.os.trans h.os, k.tape.trans h.tape, k.output.trans h.output, Nat.le_trans h.size k.size, fun i hi' ho => (k.out i (Nat.lt_of_lt_of_le hi' h.size) ho).trans (h.out i hi' ho),
    fun i cs t h1 h2 h3 => by
      obtain ⟨cs', g1, g2, g3⟩ := h.soft i cs t h1 h2 h3
      obtain ⟨cs'', f1, f2, f3⟩ := k.soft i cs' t h1 h2 g1
      refine ⟨cs'', f1, f2.trans g2, fun j x hx => ?_⟩
      obtain ⟨y, hy, hs⟩ := g3 j x hx
      obtain ⟨z, hz, hs'⟩ := f3 j y hy
      exact ⟨z, hz, hs.trans hs'⟩⟩
theorem Spo.below {lo hi : Nat} {w w' : World} (h : Below w.heap.size w w') (hh : hi ≤ w.heap.size) : Spo lo hi w w' :=
  ⟨h.os, h.tape, h.output, h.size, fun k hk _ => h.block k hk, fun k cs t _ h2 hk => ⟨cs, (h.block k (by omega)).trans hk, rfl, fun j x hx => ⟨x, hx, Soft.refl x⟩⟩⟩
theorem Spo.set {lo hi : Nat} {w : World} {b j : Nat} {x u : Value} (hb : lo ≤ b) (hb' : b < hi) (hx : w.cell? ⟨b, j, none⟩ = some x) (hs : Soft x u) : Spo lo hi w (w.setCell ⟨b, j, none⟩ u) := by
  refine ⟨rfl, rfl, rfl, by simp, fun k _ ho => Below.heap_setCell _ _ _ _ (by simp; omega), fun k cs t _ _ hk => ?_⟩
  by_cases hkb : k = b
  · subst hkb
    refine ⟨cs.setIfInBounds j u, heap_setCell_same w k j cs t u hk, by simp, fun i y hy => ?_⟩
    rw [Array.getElem?_setIfInBounds]
    by_cases hij : j = i
    · subst hij
      have hxy : x = y := by
        have : w.cell? ⟨k, j, none⟩ = some y := by rw [cell_of_row w k j cs t (0, 0) hk]; exact hy
        rw [hx] at this
        exact Option.some.inj this
      subst hxy
      rw [if_pos rfl, if_pos (Array.getElem?_eq_some_iff.1 hy).1]
      exact ⟨u, rfl, hs⟩
    · rw [if_neg hij]
      exact ⟨y, hy, Soft.refl y⟩
  · exact ⟨cs, (Below.heap_setCell _ _ _ _ hkb).trans hk, rfl, fun i y hy => ⟨y, hy, Soft.refl y⟩⟩

/-- The rows of a list in a block from lo on, below hi, are such. -/
def Rws (lo hi : Nat) (w : World) (v : Value) (sz : Nat) (R : List Value → Prop) : Prop :=
  ∃ A n c, v = .slice A n c ∧ n ≤ 1000000 ∧ (0 < n → ∃ g C t, A = some ⟨g, 0, none⟩ ∧ lo ≤ g ∧ g < hi ∧ w.heap[g]? = some (.cells C t (0, 0)) ∧ ∀ k, k < n → ∃ r : List Value, r.length = sz ∧ R r ∧ ∀ (j : Nat) (x : Value), r[j]? = some x → C[k * sz + j]? = some x)

/-- The shape of an expression whose lists lie in such blocks, so deep at most. -/
def Shp (lo hi : Nat) (w : World) : Nat → List Value → Prop
  | 0, _ => False
  | d + 1, cs => ∃ (a b c e : Int) (s : ByteArray) (vm : Value) (f : Int) (vn vk : Value), cs = [.int .i64 a, .int .i64 b, .int .i64 c, .int .i64 e, .string s, vm, .int .i64 f, vn, vk] ∧
      Rws lo hi w vm 3 (fun r => ∃ (a : Int) (s t : ByteArray), r = [.int .i64 a, .string s, .string t]) ∧ Rws lo hi w vn 1 (fun r => ∃ s : ByteArray, r = [.string s]) ∧ Rws lo hi w vk 9 (Shp lo hi w d)

theorem Rws.spo {lo hi sz : Nat} {w w' : World} {v : Value} {R R' : List Value → Prop} (h : Rws lo hi w v sz R) (hs : Spo lo hi w w') (hR : ∀ r r' : List Value, R r → r'.length = r.length → (∀ (j : Nat) (x : Value), r[j]? = some x → ∃ y, r'[j]? = some y ∧ Soft x y) → R' r') : Rws lo hi w' v sz R' := by
  obtain ⟨A, n, c, hv, hl, h⟩ := h
  refine ⟨A, n, c, hv, hl, fun hn => ?_⟩
  obtain ⟨g, C, t, hA, h1, h2, h3, h4⟩ := h hn
  obtain ⟨C', g1, g2, g3⟩ := hs.soft g C t h1 h2 h3
  refine ⟨g, C', t, hA, h1, h2, g1, fun k hk => ?_⟩
  obtain ⟨r, hr, hRr, hc⟩ := h4 k hk
  refine ⟨(List.range sz).map fun j => (C'[k * sz + j]?).getD default, by simp, hR r _ hRr (by simp [hr]) fun j x hx => ?_, fun j x hx => ?_⟩
  · obtain ⟨y, hy, hs'⟩ := g3 _ x (hc j x hx)
    have hj : j < sz := by have := (List.getElem?_eq_some_iff.1 hx).1; omega
    exact ⟨y, by simp [hj, hy], hs'⟩
  · have hj : j < sz := by have := (List.getElem?_eq_some_iff.1 hx).1; simpa using this
    have hjr : j < r.length := by omega
    obtain ⟨y, hy, _⟩ := g3 _ _ (hc j r[j] (by simp))
    simp [hj, hy] at hx
    rw [hy, hx]

theorem row1 {x0 : Value} {r' : List Value} (hl : r'.length = 1) (h : ∀ (j : Nat) (x : Value), ([x0] : List Value)[j]? = some x → ∃ y, r'[j]? = some y ∧ Soft x y) : ∃ y0, r' = [y0] ∧ Soft x0 y0 := by
  match r', hl with
  | [y0], _ =>
    obtain ⟨_, h0, s0⟩ := h 0 _ rfl
    simp at h0
    subst h0
    exact ⟨_, rfl, s0⟩
theorem row3 {x0 x1 x2 : Value} {r' : List Value} (hl : r'.length = 3) (h : ∀ (j : Nat) (x : Value), ([x0, x1, x2] : List Value)[j]? = some x → ∃ y, r'[j]? = some y ∧ Soft x y) : ∃ y0 y1 y2, r' = [y0, y1, y2] ∧ Soft x0 y0 ∧ Soft x1 y1 ∧ Soft x2 y2 := by
  match r', hl with
  | [y0, y1, y2], _ =>
    obtain ⟨_, h0, s0⟩ := h 0 _ rfl
    obtain ⟨_, h1, s1⟩ := h 1 _ rfl
    obtain ⟨_, h2, s2⟩ := h 2 _ rfl
    simp at h0 h1 h2
    subst h0 h1 h2
    exact ⟨_, _, _, rfl, s0, s1, s2⟩
theorem row9 {x0 x1 x2 x3 x4 x5 x6 x7 x8 : Value} {r' : List Value} (hl : r'.length = 9) (h : ∀ (j : Nat) (x : Value), ([x0, x1, x2, x3, x4, x5, x6, x7, x8] : List Value)[j]? = some x → ∃ y, r'[j]? = some y ∧ Soft x y) :
    ∃ y0 y1 y2 y3 y4 y5 y6 y7 y8, r' = [y0, y1, y2, y3, y4, y5, y6, y7, y8] ∧ Soft x0 y0 ∧ Soft x1 y1 ∧ Soft x2 y2 ∧ Soft x3 y3 ∧ Soft x4 y4 ∧ Soft x5 y5 ∧ Soft x6 y6 ∧ Soft x7 y7 ∧ Soft x8 y8 := by
  match r', hl with
  | [y0, y1, y2, y3, y4, y5, y6, y7, y8], _ =>
    obtain ⟨_, h0, s0⟩ := h 0 _ rfl
    obtain ⟨_, h1, s1⟩ := h 1 _ rfl
    obtain ⟨_, h2, s2⟩ := h 2 _ rfl
    obtain ⟨_, h3, s3⟩ := h 3 _ rfl
    obtain ⟨_, h4, s4⟩ := h 4 _ rfl
    obtain ⟨_, h5, s5⟩ := h 5 _ rfl
    obtain ⟨_, h6, s6⟩ := h 6 _ rfl
    obtain ⟨_, h7, s7⟩ := h 7 _ rfl
    obtain ⟨_, h8, s8⟩ := h 8 _ rfl
    simp at h0 h1 h2 h3 h4 h5 h6 h7 h8
    subst h0 h1 h2 h3 h4 h5 h6 h7 h8
    exact ⟨_, _, _, _, _, _, _, _, _, rfl, s0, s1, s2, s3, s4, s5, s6, s7, s8⟩

theorem Shp.spo {lo hi : Nat} {w w' : World} (hs : Spo lo hi w w') : ∀ (d : Nat) (cs cs' : List Value), Shp lo hi w d cs → cs'.length = cs.length → (∀ (j : Nat) (x : Value), cs[j]? = some x → ∃ y, cs'[j]? = some y ∧ Soft x y) → Shp lo hi w' d cs' := by
  intro d
  induction d with
  | zero => intro cs cs' h; exact h.elim
  | succ d ih =>
    rintro cs cs' ⟨a, b, c, e, s, vm, f, vn, vk, rfl, h1, h2, h3⟩ hl hc
    obtain ⟨y0, y1, y2, y3, y4, y5, y6, y7, y8, rfl, s0, s1, s2, s3, s4, s5, s6, s7, s8⟩ := row9 hl hc
    obtain ⟨a', rfl⟩ := s0.int
    obtain ⟨b', rfl⟩ := s1.int
    obtain ⟨c', rfl⟩ := s2.int
    obtain ⟨e', rfl⟩ := s3.int
    obtain ⟨s', rfl⟩ := s4.str
    obtain ⟨f', rfl⟩ := s6.int
    have e5 : y5 = vm := by obtain ⟨_, _, _, rfl, _⟩ := h1; exact s5.slice
    have e7 : y7 = vn := by obtain ⟨_, _, _, rfl, _⟩ := h2; exact s7.slice
    have e8 : y8 = vk := by obtain ⟨_, _, _, rfl, _⟩ := h3; exact s8.slice
    subst e5 e7 e8
    refine ⟨a', b', c', e', s', y5, f', y7, y8, rfl, h1.spo hs ?_, h2.spo hs ?_, h3.spo hs ih⟩
    · rintro r r' ⟨a, s, t, rfl⟩ hl hc
      obtain ⟨y0, y1, y2, rfl, s0, s1, s2⟩ := row3 hl hc
      obtain ⟨a', rfl⟩ := s0.int
      obtain ⟨b', rfl⟩ := s1.str
      obtain ⟨c', rfl⟩ := s2.str
      exact ⟨_, _, _, rfl⟩
    · rintro r r' ⟨s, rfl⟩ hl hc
      obtain ⟨y0, rfl, s0⟩ := row1 hl hc
      obtain ⟨b', rfl⟩ := s0.str
      exact ⟨_, rfl⟩

theorem Rws.of_own {lo hi e sz n : Nat} {w : World} {v : Value} {R : List Value → Prop} {rows : List (List Value)} (h : OwnIn lo hi w e sz v n rows.flatten) (hl : rows.length = n) (hlen : ∀ r ∈ rows, r.length = sz) (hR : ∀ (k : Nat) (r : List Value), rows[k]? = some r → R r) (hn : n ≤ 1000000) : Rws lo hi w v sz R := by
  rcases h.1.2 with ⟨rfl, rfl⟩ | ⟨g, cap, cur, rfl, hg, hh, _, _, _, hcur⟩
  · exact ⟨none, 0, 0, rfl, by omega, fun h => absurd h (by omega)⟩
  · refine ⟨_, n, cap, rfl, hn, fun _ => ⟨g, cur, e, rfl, hg, h.2 g rfl, hh, fun k hk => ⟨rows[k]'(by omega), hlen _ (List.getElem_mem _), hR k _ (by simp), fun j x hx => ?_⟩⟩⟩
    have h1 := flatten_at hlen (k := k) (r := rows[k]'(by omega)) (by simp) hx
    rw [← hcur] at h1
    have h2 := (List.getElem?_eq_some_iff.1 h1).1
    simp only [List.length_take] at h2
    rw [List.getElem?_take_of_lt (by omega)] at h1
    simpa using h1

theorem Rws.imp {lo hi sz : Nat} {w : World} {v : Value} {R R' : List Value → Prop} (h : Rws lo hi w v sz R) (hR : ∀ r, R r → R' r) : Rws lo hi w v sz R' := by
  obtain ⟨A, n, c, hv, hl, h⟩ := h
  refine ⟨A, n, c, hv, hl, fun hn => ?_⟩
  obtain ⟨g, C, t, hA, h1, h2, h3, h4⟩ := h hn
  refine ⟨g, C, t, hA, h1, h2, h3, fun k hk => ?_⟩
  obtain ⟨r, hr, hRr, hc⟩ := h4 k hk
  exact ⟨r, hr, hR r hRr, hc⟩
theorem shp_mono {lo hi : Nat} {w : World} : ∀ {d d' : Nat}, d ≤ d' → ∀ cs : List Value, Shp lo hi w d cs → Shp lo hi w d' cs := by
  intro d
  induction d with
  | zero => intro d' _ cs h; exact h.elim
  | succ d ih =>
    intro d' hd cs h
    obtain ⟨d', rfl⟩ : ∃ k, d' = k + 1 := ⟨d' - 1, by omega⟩
    obtain ⟨a, b, c, e, s, vm, f, vn, vk, rfl, h1, h2, h3⟩ := h
    exact ⟨a, b, c, e, s, vm, f, vn, vk, rfl, h1, h2, h3.imp fun r hr => ih (by omega) r hr⟩

/-- A copy has the shape. -/
theorem Fresh.shp {lo hi : Nat} {w : World} : ∀ (e : Ex) (cs : List Value), Fresh lo hi w e cs → e.thin → e.size ≤ 1000000 → Shp lo hi w e.deep cs := by
  refine Ex.ind fun e ih => ?_
  intro cs h hth hsz
  rw [Ex.deep_eq]
  obtain ⟨hth1, hth2⟩ := e.thin_self hth
  have hkl : e.kids.length ≤ 1000000 := by have := length_le_sizes e.kids; have := e.size_eq; omega
  obtain ⟨vm, vn, vk, rows, rfl, h1, h2, h3, h4, h5⟩ := h.cells
  refine ⟨_, _, _, _, _, vm, _, vn, vk, rfl, Rws.of_own h1 (by simp) (mats_len _) ?_ hth1, Rws.of_own h2 (by simp) (names_len _) ?_ hth2, Rws.of_own h3 h4 ?_ ?_ hkl⟩
  · intro k r hr
    rw [List.getElem?_map] at hr
    cases hm : e.mats[k]? with
    | none => rw [hm] at hr; cases hr
    | some m => rw [hm] at hr; cases hr; exact ⟨_, _, _, rfl⟩
  · intro k r hr
    rw [List.getElem?_map] at hr
    cases hm : e.names[k]? with
    | none => rw [hm] at hr; cases hr
    | some m => rw [hm] at hr; cases hr; exact ⟨_, rfl⟩
  · intro r hr
    obtain ⟨k, hk, rfl⟩ := List.getElem_of_mem hr
    exact (h5 k _ (e.kids[k]'(by omega)) (by simp) (by simp)).length
  · intro k r hr
    have hk : k < rows.length := (List.getElem?_eq_some_iff.1 hr).1
    have hk' : k < e.kids.length := by omega
    have hf := h5 k r e.kids[k] hr (by simp)
    have hs := ih e.kids[k] (List.getElem_mem hk') r hf (e.thin_kid hth hk') (by have := size_le_sizes (List.getElem_mem hk'); have := e.size_eq; omega)
    have hd : e.kids[k].deep ≤ deeps e.kids := by
      have : ∀ (l : List Ex) (x : Ex), x ∈ l → x.deep ≤ deeps l := by
        intro l
        induction l with
        | nil => intro x hx; cases hx
        | cons y l ih =>
          intro x hx
          simp only [deeps]
          rcases List.mem_cons.1 hx with rfl | hx
          · omega
          · have := ih x hx; omega
      exact this _ _ (List.getElem_mem hk')
    exact shp_mono hd r hs
end Go.Proofs.Ytikaiiamoaahdaa
