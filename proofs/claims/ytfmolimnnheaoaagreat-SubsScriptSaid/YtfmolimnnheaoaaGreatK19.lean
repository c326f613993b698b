/- label.Of: what it computes (of at most 19 labels). -/
import Derived.Test.YtfmolimnnheaoaaGreatK3
import Derived.Test.YtfmolimnnheaoaaGreatK18
import Derived.Lib.SliceRun
import Derived.BigQuiet
namespace Go.Proofs.YtfmolimnnheaoaaGreat
open Go.RowKit
set_option linter.unusedSimpArgs false
set_option linter.unusedVariables false

theorem infoLab : (Tryz.prog.info? 106).map (fun i => (i.zero, i.size, i.bytes)) = some (some (.agg #[.string ⟨#[]⟩, .string ⟨#[]⟩]), 2, 32) := by kernel_rfl
theorem labs_len (l : List Lab) : ∀ r ∈ l.map Lab.cells, r.length = 2 := by
  intro r hr
  obtain ⟨x, _, rfl⟩ := List.mem_map.1 hr
  rfl
theorem src_alloc {w : World} {v : Value} {sz m : Nat} {news : List Value} (h : Src w v sz m news) (o : Obj) : Src (w.alloc o) v sz m news :=
  h.keep fun p x hx => (World.cell?_alloc_lt w o _ (World.block_lt_of_cell? w _ hx)).trans hx
theorem IsLabs.src {n : Nat} {w : World} {b off cap : Nat} {l : List Lab} (h : IsLabs n w (.slice (some ⟨b, off, none⟩) l.length cap) l) : Src w (.slice (some ⟨b, off, none⟩) l.length cap) 2 l.length (flat l) := by
  have h1 : Arr n w (.slice (some ⟨b, off, none⟩) (l.map Lab.cells).length cap) 2 (l.map Lab.cells) := by rw [List.length_map]; exact h.1
  have := Src.of_arr h1 (labs_len l) (by decide) (by simp)
  rw [List.length_map] at this
  exact this
set_option maxHeartbeats 1000000 in
theorem cloneL (l : List Lab) (v : Value) (n : Nat) (w : World) (hn : n ≤ w.heap.size) (h : IsLabs n w v l) (hne : 1 ≤ l.length) (hl : l.length ≤ 1000000) :
    Calls Tryz.prog 72 #[v] w fun e' w' => ∃ v', e' = .returned v' ∧ OwnL w.heap.size w' v' l ∧ Below w.heap.size w w' := by
  obtain ⟨i0, hi, hz0, hz1, hz2⟩ := info_parts infoLab
  obtain ⟨p, cap, rfl, _, _, _⟩ := h.open
  obtain ⟨b, off, rfl, hbn, -⟩ := h.get (k := 0) (by omega)
  have Ha := Lib.hid h.src; clear h
  have hnil : ∀ w, (binOp .eql 91 (.slice (some ⟨b, off, none⟩) l.length cap) (.slice none 0 0)).run Tryz.prog w = .ok (.bool false) w := fun w => Lib.run_eql_slice_nil (P := Tryz.prog) w 91 _ (some ⟨b, off, none⟩) l.length cap 0 0 Tryz.underlying91
  go_enter Tryz.func72, Tryz.ntmps72; (try simp only [List.append_eq, List.cons_append, List.nil_append])
  go_wp2_with (at_builtin; refine wpList_append_src _ rfl _ _ _ rfl w.heap.size 106 i0 _ (2) (32) Tryz.underlying91 hi hz0 hz1 hz2 rfl (by decide) (.slice (some ⟨w.heap.size, 0, none⟩) 0 0) 0 [] rfl ⟨rfl, .inr ⟨_, 0, #[], rfl, Nat.le_refl _, World.alloc_heap_new w _, Nat.le_refl _, Nat.zero_le _, rfl, rfl⟩⟩ (.slice (some ⟨b, off, none⟩) l.length cap) l.length (flat l) rfl (src_alloc Ha.out _) (flat_one l) (by unfold maxLen; omega) (by omega) (by simp) ?_; intro v3 w3 hown3 hgr3 hat3)
  go_ret
  refine ⟨_, rfl, ?_, ((Below.refl _ _).alloc (Nat.le_refl _) _).grown hgr3 (by simp) (by simp [Value.ownBlock])⟩
  rw [Nat.zero_add, List.nil_append] at hown3
  exact hown3

theorem OwnL.labs {base m : Nat} {w : World} {v : Value} {l : List Lab} (h : OwnL base w v l) (hm : w.heap.size ≤ m) (hsm : ∀ x ∈ l, x.small) : IsLabs m w v l := by
  refine ⟨?_, hsm⟩
  rcases h.2 with ⟨rfl, hl⟩ | ⟨g, cap, cur, rfl, hg, hh, hc1, hc2, hc3, hc4⟩
  · have : l = [] := List.eq_nil_of_length_eq_zero (by omega)
    subst this
    exact Arr.nil _ _ _
  · refine ⟨_, cap, by rw [List.length_map], by simpa using hc1, hc2, fun _ => ⟨g, 0, rfl, ?_, fun k r hr j x hx => ?_⟩⟩
    · have := (Array.getElem?_eq_some_iff.1 hh).1; omega
    · obtain ⟨y, hy, rfl⟩ : ∃ y, l[k]? = some y ∧ r = y.cells := by
        rw [List.getElem?_map] at hr
        cases hlk : l[k]? with
        | none => rw [hlk] at hr; cases hr
        | some y => rw [hlk] at hr; cases hr; exact ⟨y, rfl, rfl⟩
      have hk := OwnL.at (n := l.length) h hy
      cases j with
      | zero => simp [Lab.cells] at hx; subst hx; simpa using hk.1
      | succ j =>
        cases j with
        | zero => simp [Lab.cells] at hx; subst hx; simpa using hk.2
        | succ j => simp [Lab.cells] at hx

/-- The last is cleared, and cut off. -/
theorem OwnL.cutLast {base g cap : Nat} {w : World} {a : List Lab} {x : Lab} (h : OwnL base w (.slice (some ⟨g, 0, none⟩) (a.length + 1) cap) (a ++ [x])) (u v : Value) :
    OwnL base ((w.setCell ⟨g, a.length * 2, none⟩ u).setCell ⟨g, a.length * 2 + 1, none⟩ v) (.slice (some ⟨g, 0, none⟩) a.length cap) a := by
  have h0 : w.ownsRow base 106 2 (.slice (some ⟨g, 0, none⟩) (a.length + 1) cap) (a.length + 1) (flat (a ++ [x])) := by
    have := h; unfold OwnL at this; rwa [List.length_append] at this
  have h1 := (World.ownsRow.stored h0 (a.length * 2) u).1
  have h2 := (World.ownsRow.stored h1 (a.length * 2 + 1) v).1
  have hf : flat (a ++ [x]) = flat a ++ [.string x.name, .string x.text] := by rw [flat_append]; rfl
  have hfl := flatL_length a
  rw [hf] at h2
  have e1 : ((flat a ++ [Value.string x.name, Value.string x.text]).set (a.length * 2) u).set (a.length * 2 + 1) v = flat a ++ [u, v] := by
    rw [← hfl, List.set_append_right _ _ (Nat.le_refl _), List.set_append_right _ _ (by omega)]
    simp
  rw [e1] at h2
  rcases h2.2 with ⟨h', _⟩ | ⟨g', cap', cur, h', hb, hh, hc1, hc2, hc3, hc4⟩
  · simp at h'
  · simp only [Value.slice.injEq, Option.some.injEq, Addr.mk.injEq, and_true, true_and] at h'
    obtain ⟨rfl, rfl⟩ := h'
    refine ⟨hfl, .inr ⟨g, cap, cur, rfl, hb, hh, by omega, hc2, hc3, ?_⟩⟩
    have := congrArg (List.take (a.length * 2)) hc4
    rw [List.take_take, show min (a.length * 2) ((a.length + 1) * 2) = a.length * 2 by omega] at this
    rw [this, ← hfl, List.take_left']
    rfl

theorem run_clear_lab (w : World) (g o c : Nat) (ty : TypeId) (h0 : (w.cell? ⟨g, o, none⟩).isSome = true) (h1 : (w.cell? ⟨g, o + 1, none⟩).isSome = true) (f0 : w.frozen? ⟨g, o, none⟩ = false) (f1 : w.frozen? ⟨g, o + 1, none⟩ = false) :
    (Builtin.clear_ #[91] ty #[.slice (some ⟨g, o, none⟩) 1 c]).run Tryz.prog w = .ok (.tuple #[]) ((w.setCell ⟨g, o, none⟩ (.string ⟨#[]⟩)).setCell ⟨g, o + 1, none⟩ (.string ⟨#[]⟩)) := by
  have hst := run_storeCells_cells (P := Tryz.prog) g o [.string ⟨#[]⟩, .string ⟨#[]⟩] 0 w (by intro j hj; match j, hj with | 0, _ => exact h0 | 1, _ => exact h1) (by intro j hj; match j, hj with | 0, _ => exact f0 | 1, _ => exact f1) (by intro v hv; simp at hv; subst hv; rfl)
  have hz : (Builtin.zeroCells (Value.agg #[.string ⟨#[]⟩, .string ⟨#[]⟩]).cells 1).toList = [.string ⟨#[]⟩, .string ⟨#[]⟩] := by kernel_rfl
  have hv := Tryz.zeroValue106
  have hu := Tryz.underlying91
  simp only [Nat.add_zero] at hst
  simp [Builtin.clear_, run_underlying hu, hv, hz, hst]
  rfl

/-- What Of answers. -/
def OfIs (w : World) (a : List Lab) (e : Ending) (w' : World) : Prop := ∃ v', e = .returned (.tuple #[v', .int .i64 0]) ∧ OwnL w.heap.size w' v' a ∧ Below w.heap.size w w'
theorem small_perm {s l : List Lab} (hp : s.Perm l) (h : ∀ x ∈ l, x.small) : ∀ x ∈ s, x.small := fun x hx => h x (hp.mem_iff.1 hx)

end Go.Proofs.YtfmolimnnheaoaaGreat

/- label.part, Only, Without; the kit's Labels, Set, LightTexts. -/
namespace Go.Proofs.YtfmolimnnheaoaaGreat
open Go.RowKit
set_option linter.unusedSimpArgs false
set_option linter.unusedVariables false

theorem two_new (w : World) (x y : Value) (t g : Nat) (hg : g = w.heap.size) : ∀ j u, [x, y][j]? = some u → (w.alloc (.cells #[x, y] t)).cell? ((⟨g, 0, none⟩ : Addr).add j) = some u := by
  intro j u hu
  subst hg
  have e : (⟨w.heap.size, 0, none⟩ : Addr).add j = ⟨w.heap.size, j, none⟩ := by
    unfold Addr.add; split <;> simp
  rw [e, World.cell?_alloc_new]
  match j, hu with
  | 0, hu => simpa using hu
  | 1, hu => simpa using hu
  | j + 2, hu => simp at hu

theorem partL_step {l : List Lab} {names : List ByteArray} {among : Bool} {k : Nat} (hk : k < l.length) : (l.take (k + 1)).filter (fun x => amongB x.name names == among) = (l.take k).filter (fun x => amongB x.name names == among) ++ if amongB l[k].name names == among then [l[k]] else [] := by
  rw [List.take_succ_eq_append_getElem hk, List.filter_append]
  congr 1
  cases h : amongB l[k].name names == among <;> simp [h]

/-- A part of a set. -/
def PartIs (w : World) (l : List Lab) (e : Ending) (w' : World) : Prop := ∃ v', e = .returned v' ∧ OwnL w.heap.size w' v' l ∧ Below w.heap.size w w'
theorem lab_ext {a b : Lab} (h2 : a.name = b.name) (h3 : a.text = b.text) : a = b := by
  cases a; cases b; simp_all
theorem eq_of_upto' {α : Type} {a b : List α} (hl : a.length = b.length) (h : a.take a.length = b.take a.length) : a = b := by
  rwa [List.take_of_length_le (Nat.le_refl _), List.take_of_length_le (by omega)] at h
theorem take_eq_step' {α : Type} {a b : List α} {k : Nat} (h : a.take k = b.take k) (ha : k < a.length) (hb : k < b.length) (he : a[k] = b[k]) : a.take (k + 1) = b.take (k + 1) := by
  rw [List.take_succ_eq_append_getElem ha, List.take_succ_eq_append_getElem hb, h, he]
theorem ne_of_at' {α : Type} {a b : List α} {k : Nat} (ha : k < a.length) (hb : k < b.length) (he : ¬ a[k] = b[k]) : ¬ a = b := by
  intro e; subst e; exact he rfl
theorem labNe (a b : Lab) (w : World) :
    (binOp BinOp.neq 106 (.agg #[.string a.name, .string a.text]) (.agg #[.string b.name, .string b.text])).run Tryz.prog w = .ok (.bool (!decide (a = b))) w := by
  rw [run_neq_struct]
  have h : (Op.equalIn 10000 106 (.agg #[.string a.name, .string a.text]) (.agg #[.string b.name, .string b.text])).run Tryz.prog w = .ok (decide (a = b)) w := by
    by_cases h2 : a.name = b.name
    · by_cases h3 : a.text = b.text
      · rw [decide_eq_true (lab_ext h2 h3)]
        simp [go_sem, h2, h3]
      · rw [decide_eq_false (fun e => h3 (by rw [e]))]
        have h3' : (a.text == b.text) = false := by rw [beq_ba]; exact decide_eq_false h3
        simp [go_sem, h2, h3', ← beq_toListBytes]
    · rw [decide_eq_false (fun e => h2 (by rw [e]))]
      have h2' : (a.name == b.name) = false := by rw [beq_ba]; exact decide_eq_false h2
      simp [go_sem, h2', ← beq_toListBytes]
  rw [h]; rfl

set_option maxHeartbeats 400000 in
theorem kLabels (la lb : List Lab) (va vb : Value) (n : Nat) (w : World) (hn : n ≤ w.heap.size) (ha : IsLabs n w va la) (hb : IsLabs n w vb lb) :
    Calls Tryz.prog 78 #[va, vb] w fun e w' => e = .returned (.bool (decide (la = lb))) ∧ Below w.heap.size w w' := by
  obtain ⟨p, cap, rfl, _, _, hla⟩ := ha.open
  obtain ⟨q, cbp, rfl, _, _, hlb⟩ := hb.open
  unfold maxLen at hla hlb
  go_enter Tryz.func78, Tryz.ntmps78
  by_cases hl : la.length = lb.length
  · have Hl := Lib.hid hl; clear hl
    have hl : ((la.length : Int) != (lb.length : Int)) = false := by simp [Hl.out]
    go_wp2
    go_loopw [5] (fun i wr => ∃ k : Nat, k ≤ la.length ∧ i = .int .i64 k ∧ la.take k = lb.take k ∧ Below w.heap.size w wr) (fun i _ => la.length - (intOf i).toNat)
    case atStart => exact ⟨0, Nat.zero_le _, rfl, by simp, Below.refl _ _⟩
    case round =>
      obtain ⟨k, hk, rfl, hr, hbl⟩ := hrel
      have Hr := Lib.hid hr; clear hr
      have Hb := Lib.hid hbl; clear hbl
      by_cases hlt : k < la.length
      · have hltb : k < lb.length := by have := Hl.out; omega
        obtain ⟨b, off, rfl, hbn, h1, h2, hs1, hs2⟩ := (ha.mono (Hb.out.mono hn) (Nat.le_refl _)).get hlt
        obtain ⟨b', off', rfl, hbn', h1', h2', hs1', hs2'⟩ := (hb.mono (Hb.out.mono hn) (Nat.le_refl _)).get hltb
        have Ha := Lib.hid ha; clear ha
        have Hbb := Lib.hid hb; clear hb
        have hne := fun w => labNe la[k] lb[k] w
        go_wp2
        go_quiet (fail)
        go_wp2
        all_goals (try simp only [Bool.not_eq_true', Bool.not_eq_false', Bool.not_true, Bool.not_false, Bool.not_eq_true, Bool.not_eq_false, beq_iff_eq, beq_eq_false_iff_ne, bne_iff_ne, ne_eq, bne_eq_false_iff_eq, decide_eq_true_eq, decide_eq_false_iff_not, toList_inj] at *)
        · go_ret
          refine ⟨ret_bool (Eq.symm (decide_eq_false (ne_of_at' hlt hltb ?_))), below_drewN Hb.out _⟩
          assumption
        · refine ⟨⟨k + 1, by omega, by go_num, take_eq_step' Hr.out hlt hltb ?_, below_drewN Hb.out _⟩, by simp [intOf]; omega⟩
          assumption
      · go_wp2
        go_ret
        refine ⟨ret_bool (Eq.symm (decide_eq_true ?_)), Hb.out⟩
        have hk' : k = la.length := by omega
        subst hk'
        exact eq_of_upto' Hl.out Hr.out
  · have hl' : ((la.length : Int) != (lb.length : Int)) = true := by simp; omega
    go_wp2
    go_ret
    exact ⟨ret_bool (Eq.symm (decide_eq_false (fun e => hl (by rw [e])))), Below.refl _ _⟩

def LightIs (l : List ByteArray) (w : World) (e : Ending) (w' : World) : Prop := ∃ b, e = .returned (.bool b) ∧ (b = true → l.length ≤ 30) ∧ w = w'
end Go.Proofs.YtfmolimnnheaoaaGreat
