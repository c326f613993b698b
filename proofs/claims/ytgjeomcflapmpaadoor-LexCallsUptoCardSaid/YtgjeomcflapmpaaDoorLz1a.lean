/- Slices of tokens; what lex.All tells, in two cases. -/
import Derived.Test.YtgjeomcflapmpaaDoorLz0
import Derived.Test.YtgjeomcflapmpaaDoorLy4
namespace Go.Proofs.YtgjeomcflapmpaaDoor
open Go.RowKit
set_option linter.unusedSimpArgs false
set_option linter.unusedVariables false

theorem lexAll_ok {s : ByteArray} {l : List Tok} (hs : s.size ≤ 16384) (h : lexL true 0 (sl s 0) = .ok l) : lexAll s = (l, 0, 0) := by
  unfold lexAll; rw [if_neg (by omega), h]
theorem lexAll_err {s : ByteArray} {a : Nat} (hs : s.size ≤ 16384) (h : lexL true 0 (sl s 0) = .error a) : lexAll s = ([], 13, (a : Int)) := by
  unfold lexAll; rw [if_neg (by omega), h]
theorem sl_zero (s : ByteArray) : sl s 0 = s.data.toList := by unfold sl; simp
/-- The first token of the second text. -/
theorem first_of {t : ByteArray} {lb : List Tok} (h : lexL true 0 (sl t 0) = .ok lb) :
    ∃ t0 b', lb = t0 :: b' ∧ ((t0.kind = 5 ∧ okHead (t.size + 1) (sl t 0) = true) ∨ (t0.kind ≠ 5 ∧ ∃ j, ∃ hj : j < t.size, t0.pos = ((j : Nat) : Int) ∧ okHead (t.size + 1) (sl t 0) = !(t[j] == 45))) := by
  obtain ⟨t0, b', e, h1⟩ := lex_head (t.size + 1) (sl t 0) true 0 lb (by rw [sl_length]; omega) h
  refine ⟨t0, b', e, ?_⟩
  rcases h1 with h1 | ⟨h1, j, hj, h2, h3⟩
  · exact .inl h1
  · rw [sl_length] at hj
    refine .inr ⟨h1, j, by omega, by rw [h2, Nat.zero_add], ?_⟩
    rw [h3]
    simp only [sl_zero]; rfl
theorem join_all {s t : ByteArray} {la lb : List Tok} (hs : s.size ≤ 3000) (ht : t.size ≤ 3000) (ha : lexL true 0 (sl s 0) = .ok la) (hb : lexL true 0 (sl t 0) = .ok lb) (ho : okHead (t.size + 1) (sl t 0) = true) (x : ByteArray) (hx : x.data.toList = s.data.toList ++ 10 :: t.data.toList) :
    lexAll x = (la.dropLast ++ lb.map (shift (s.size + 1)), 0, 0) := by
  have hxs : x.size = s.size + 1 + t.size := by
    have h1 : x.size = x.data.toList.length := by simp
    rw [h1, hx]; simp; omega
  refine lexAll_ok (by omega) ?_
  rw [sl_zero] at *
  rw [hx, lex_app (s.size + 1) s.data.toList true 0 la t.data.toList lb (by simp) ha (by simpa using ho) hb]
  congr 4; simp

/-- The front part of a slice. -/
theorem IsToks.front {n : Nat} {w : World} {p : Option Addr} {len cap : Nat} {l : List Tok} (h : IsToks n w (.slice p len cap) l) {k : Nat} (hk : k ≤ l.length) : IsToks n w (.slice p k cap) (l.take k) := by
  obtain ⟨p', cap', hv, h1, h2, h3⟩ := h
  simp only [List.length_map] at h1 hv
  injection hv with e1 e2 e3
  subst e1 e2 e3
  refine ⟨p, cap, by simp; omega, by simp; omega, h2, fun hne => ?_⟩
  obtain ⟨b, off, hp, hb, hc⟩ := h3 (by intro e; apply hne; simp at e; simp [e])
  refine ⟨b, off, hp, hb, fun j r hr i x hx => hc j r ?_ i x hx⟩
  rw [List.getElem?_map] at hr ⊢
  by_cases hj : j < k
  · rwa [List.getElem?_take_of_lt hj] at hr
  · rw [List.getElem?_eq_none (by simp; omega)] at hr; cases hr
theorem IsToks.src {n : Nat} {w : World} {ad : Addr} {len cap : Nat} {l : List Tok} (h : IsToks n w (.slice (some ad) len cap) l) : Src w (.slice (some ad) len cap) 4 l.length (l.map Tok.cells).flatten := by
  have hl : len = (l.map Tok.cells).length := h.len.1
  subst hl
  have := Src.of_arr h (cells_len l) (by decide) (fun e => by cases e)
  rw [List.length_map] at this ⊢
  exact this
theorem IsToks.src' {n : Nat} {W : World} {ad : Addr} {k cap : Nat} {l : List Tok} (h : IsToks n W (.slice (some ad) k cap) l) (hl : l.length = k) (o : Obj) : Src (W.alloc o) (.slice (some ad) k cap) 4 k (l.map Tok.cells).flatten := by
  have := h.src
  rw [hl] at this
  exact this.keep fun p x hx => by rw [World.cell?_alloc_some W p o (by rw [hx]; rfl)]; exact hx
theorem src_new' {W : World} {cs cs' : List Value} {t m c sz g : Nat} (hl : cs'.length = m * sz) (hg : g = W.heap.size) (he : cs = cs') : Src (W.alloc (.cells cs.toArray t)) (.slice (some ⟨g, 0, none⟩) m c) sz m cs' := by
  subst he; exact src_new hl hg
theorem own_none (W : World) : (W.alloc (.cells #[] 33)).ownsRow W.heap.size 33 4 (.slice (some ⟨W.heap.size, 0, none⟩) 0 0) 0 [] :=
  ⟨rfl, .inr ⟨W.heap.size, 0, #[], rfl, Nat.le_refl _, World.alloc_heap_new W _, Nat.le_refl _, Nat.zero_le _, rfl, rfl⟩⟩

theorem tokensYes (l : List Tok) (va vb : Value) (n : Nat) (w : World) (hn : n ≤ w.heap.size) (ha : IsToks n w va l) (hb : IsToks n w vb l) :
    Calls Tryd.prog 10 #[va, vb, .bool true] w fun e w' => e = .returned (.bool true) ∧ Below w.heap.size w w' := by
  have := kTokens true l l va vb n w hn ha hb
  rwa [toksEq_true, decide_eq_true rfl] at this
theorem small_join {s t : ByteArray} (h1 : s.size ≤ 3000) (h2 : t.size ≤ 3000) : (s ++ ⟨#[10]⟩ ++ t).size ≤ maxLen := by
  rw [ByteArray.size_append, ByteArray.size_append]
  have : (⟨#[10]⟩ : ByteArray).size = 1 := rfl
  unfold maxLen; omega
/-- What the law says of two texts. -/
def JoinTrue (w : World) (e : Ending) (w' : World) : Prop := e = .returned (.bool true) ∧ Below w.heap.size w w'

theorem two_one (w : World) (cs : List Value) : Blk (w.alloc (.cells cs.toArray 29)) w.heap.size 29 cs := Blk.new w cs 29
end Go.Proofs.YtgjeomcflapmpaaDoor
