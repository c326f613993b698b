/- label.Of: what it computes (of at most 19 labels). -/
import Derived.Test.YtkheeiipkdeihaaLa2
import Derived.Test.YtkheeiipkdeihaaLa3
import Derived.Lib.SliceRun
namespace Go.Proofs.Ytkheeiipkdeihaa
open Go.RowKit
set_option linter.unusedSimpArgs false
set_option linter.unusedVariables false

theorem infoLab : (Try.prog.info? 63).map (fun i => (i.zero, i.size, i.bytes)) = some (some (.agg #[.string ⟨#[]⟩, .string ⟨#[]⟩]), 2, 32) := by kernel_rfl
theorem labs_len (l : List Lab) : ∀ r ∈ l.map Lab.cells, r.length = 2 := by
  intro r hr
  obtain ⟨x, _, rfl⟩ := List.mem_map.1 hr
  rfl
theorem src_alloc {w : World} {v : Value} {sz m : Nat} {news : List Value} (h : Src w v sz m news) (o : Obj) : Src (w.alloc o) v sz m news :=
  h.keep fun p x hx => (World.cell?_alloc_lt w o _ (World.block_lt_of_cell? w _ hx)).trans hx
theorem IsLabs.src {n : Nat} {w : World} {b off cap : Nat} {l : List Lab} (h : IsLabs n w (.slice (some ⟨b, off, none⟩) l.length cap) l) : Src w (.slice (some ⟨b, off, none⟩) l.length cap) 2 l.length (flat l) := by
  have h1 : Arr n w (.slice (some ⟨b, off, none⟩) (l.map Lab.cells).length cap) 2 (l.map Lab.cells) := by rw [List.length_map]; exact h.1
  have := Src.of_arr h1 (labs_len l) (by decide) (by simp)
  rw [List.length_map] at this
  exact this
set_option maxHeartbeats 1000000 in
theorem cloneL (l : List Lab) (v : Value) (n : Nat) (w : World) (hn : n ≤ w.heap.size) (h : IsLabs n w v l) (hne : 1 ≤ l.length) (hl : l.length ≤ 1000000) :
    Calls Try.prog 24 #[v] w fun e' w' => ∃ v', e' = .returned v' ∧ OwnL w.heap.size w' v' l ∧ Below w.heap.size w w' := by
  obtain ⟨i0, hi, hz0, hz1, hz2⟩ := info_parts infoLab
  obtain ⟨p, cap, rfl, _, _, _⟩ := h.open
  obtain ⟨b, off, rfl, hbn, -⟩ := h.get (k := 0) (by omega)
  have Ha := Lib.hid h.src; clear h
  have hnil : ∀ w, (binOp .eql 31 (.slice (some ⟨b, off, none⟩) l.length cap) (.slice none 0 0)).run Try.prog w = .ok (.bool false) w := fun w => Lib.run_eql_slice_nil (P := Try.prog) w 31 _ (some ⟨b, off, none⟩) l.length cap 0 0 Try.underlying31
  go_enter Try.func24, Try.ntmps24; (try simp only [List.append_eq, List.cons_append, List.nil_append])
  go_wp2_with (at_builtin; refine wpList_append_src _ rfl _ _ _ rfl w.heap.size 63 i0 _ (2) (32) Try.underlying31 hi hz0 hz1 hz2 rfl (by decide) (.slice (some ⟨w.heap.size, 0, none⟩) 0 0) 0 [] rfl ⟨rfl, .inr ⟨_, 0, #[], rfl, Nat.le_refl _, World.alloc_heap_new w _, Nat.le_refl _, Nat.zero_le _, rfl, rfl⟩⟩ (.slice (some ⟨b, off, none⟩) l.length cap) l.length (flat l) rfl (src_alloc Ha.out _) (flat_one l) (by unfold maxLen; omega) (by omega) (by simp) ?_; intro v3 w3 hown3 hgr3 hat3)
  go_ret
  refine ⟨_, rfl, ?_, ((Below.refl _ _).alloc (Nat.le_refl _) _).grown hgr3 (by simp) (by simp [Value.ownBlock])⟩
  rw [Nat.zero_add, List.nil_append] at hown3
  exact hown3

theorem OwnL.labs {base m : Nat} {w : World} {v : Value} {l : List Lab} (h : OwnL base w v l) (hm : w.heap.size ≤ m) (hsm : ∀ x ∈ l, x.small) : IsLabs m w v l := by
  refine ⟨?_, hsm⟩
  rcases h.2 with ⟨rfl, hl⟩ | ⟨g, cap, cur, rfl, hg, hh, hc1, hc2, hc3, hc4⟩
  · have : l = [] := List.eq_nil_of_length_eq_zero (by omega)
    subst this
    exact Arr.nil _ _ _
  · refine ⟨_, cap, by rw [List.length_map], by simpa using hc1, hc2, fun _ => ⟨g, 0, rfl, ?_, fun k r hr j x hx => ?_⟩⟩
    · have := (Array.getElem?_eq_some_iff.1 hh).1; omega
    · obtain ⟨y, hy, rfl⟩ : ∃ y, l[k]? = some y ∧ r = y.cells := by
        rw [List.getElem?_map] at hr
        cases hlk : l[k]? with
        | none => rw [hlk] at hr; cases hr
        | some y => rw [hlk] at hr; cases hr; exact ⟨y, rfl, rfl⟩
      have hk := OwnL.at (n := l.length) h hy
      cases j with
      | zero => simp [Lab.cells] at hx; subst hx; simpa using hk.1
      | succ j =>
        cases j with
        | zero => simp [Lab.cells] at hx; subst hx; simpa using hk.2
        | succ j => simp [Lab.cells] at hx

/-- The last is cleared, and cut off. -/
theorem OwnL.cutLast {base g cap : Nat} {w : World} {a : List Lab} {x : Lab} (h : OwnL base w (.slice (some ⟨g, 0, none⟩) (a.length + 1) cap) (a ++ [x])) (u v : Value) :
    OwnL base ((w.setCell ⟨g, a.length * 2, none⟩ u).setCell ⟨g, a.length * 2 + 1, none⟩ v) (.slice (some ⟨g, 0, none⟩) a.length cap) a := by
  have h0 : w.ownsRow base 63 2 (.slice (some ⟨g, 0, none⟩) (a.length + 1) cap) (a.length + 1) (flat (a ++ [x])) := by
    have := h; unfold OwnL at this; rwa [List.length_append] at this
  have h1 := (World.ownsRow.stored h0 (a.length * 2) u).1
  have h2 := (World.ownsRow.stored h1 (a.length * 2 + 1) v).1
  have hf : flat (a ++ [x]) = flat a ++ [.string x.name, .string x.text] := by rw [flat_append]; rfl
  have hfl := flatL_length a
  rw [hf] at h2
  have e1 : ((flat a ++ [Value.string x.name, Value.string x.text]).set (a.length * 2) u).set (a.length * 2 + 1) v = flat a ++ [u, v] := by
    rw [← hfl, List.set_append_right _ _ (Nat.le_refl _), List.set_append_right _ _ (by omega)]
    simp
  rw [e1] at h2
  rcases h2.2 with ⟨h', _⟩ | ⟨g', cap', cur, h', hb, hh, hc1, hc2, hc3, hc4⟩
  · simp at h'
  · simp only [Value.slice.injEq, Option.some.injEq, Addr.mk.injEq, and_true, true_and] at h'
    obtain ⟨rfl, rfl⟩ := h'
    refine ⟨hfl, .inr ⟨g, cap, cur, rfl, hb, hh, by omega, hc2, hc3, ?_⟩⟩
    have := congrArg (List.take (a.length * 2)) hc4
    rw [List.take_take, show min (a.length * 2) ((a.length + 1) * 2) = a.length * 2 by omega] at this
    rw [this, ← hfl, List.take_left']
    rfl

theorem run_clear_lab (w : World) (g o c : Nat) (ty : TypeId) (h0 : (w.cell? ⟨g, o, none⟩).isSome = true) (h1 : (w.cell? ⟨g, o + 1, none⟩).isSome = true) (f0 : w.frozen? ⟨g, o, none⟩ = false) (f1 : w.frozen? ⟨g, o + 1, none⟩ = false) :
    (Builtin.clear_ #[31] ty #[.slice (some ⟨g, o, none⟩) 1 c]).run Try.prog w = .ok (.tuple #[]) ((w.setCell ⟨g, o, none⟩ (.string ⟨#[]⟩)).setCell ⟨g, o + 1, none⟩ (.string ⟨#[]⟩)) := by
  have hst := run_storeCells_cells (P := Try.prog) g o [.string ⟨#[]⟩, .string ⟨#[]⟩] 0 w (by intro j hj; match j, hj with | 0, _ => exact h0 | 1, _ => exact h1) (by intro j hj; match j, hj with | 0, _ => exact f0 | 1, _ => exact f1) (by intro v hv; simp at hv; subst hv; rfl)
  have hz : (Builtin.zeroCells (Value.agg #[.string ⟨#[]⟩, .string ⟨#[]⟩]).cells 1).toList = [.string ⟨#[]⟩, .string ⟨#[]⟩] := by kernel_rfl
  have hv := Try.zeroValue63
  have hu := Try.underlying31
  simp only [Nat.add_zero] at hst
  simp [Builtin.clear_, run_underlying hu, hv, hz, hst]
  rfl

/-- What Of answers. -/
def OfIs (w : World) (a : List Lab) (e : Ending) (w' : World) : Prop := ∃ v', e = .returned (.tuple #[v', .int .i64 0]) ∧ OwnL w.heap.size w' v' a ∧ Below w.heap.size w w'
theorem small_perm {s l : List Lab} (hp : s.Perm l) (h : ∀ x ∈ l, x.small) : ∀ x ∈ s, x.small := fun x hx => h x (hp.mem_iff.1 hx)

end Go.Proofs.Ytkheeiipkdeihaa
