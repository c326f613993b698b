/- label.Of: what it computes (of at most 19 labels). -/
import Derived.Test.YtbllkddpmmeloaaLa2
import Derived.Test.YtbllkddpmmeloaaLa3
import Derived.Lib.SliceRun
namespace Go.Proofs.Ytbllkddpmmeloaa
open Go.RowKit
set_option linter.unusedSimpArgs false
set_option linter.unusedVariables false

theorem infoLab : (Try.prog.info? 28).map (fun i => (i.zero, i.size, i.bytes)) = some (some (.agg #[.string ⟨#[]⟩, .string ⟨#[]⟩]), 2, 32) := by kernel_rfl
theorem labs_len (l : List Lab) : ∀ r ∈ l.map Lab.cells, r.length = 2 := by
  intro r hr
  obtain ⟨x, _, rfl⟩ := List.mem_map.1 hr
  rfl
theorem src_alloc {w : World} {v : Value} {sz m : Nat} {news : List Value} (h : Src w v sz m news) (o : Obj) : Src (w.alloc o) v sz m news :=
  h.keep fun p x hx => (World.cell?_alloc_lt w o _ (World.block_lt_of_cell? w _ hx)).trans hx
theorem IsLabs.src {n : Nat} {w : World} {b off cap : Nat} {l : List Lab} (h : IsLabs n w (.slice (some ⟨b, off, none⟩) l.length cap) l) : Src w (.slice (some ⟨b, off, none⟩) l.length cap) 2 l.length (flat l) := by
  have h1 : Arr n w (.slice (some ⟨b, off, none⟩) (l.map Lab.cells).length cap) 2 (l.map Lab.cells) := by rw [List.length_map]; exact h.1
  have := Src.of_arr h1 (labs_len l) (by decide) (by simp)
  rw [List.length_map] at this
  exact this
set_option maxHeartbeats 1000000 in
theorem cloneL (l : List Lab) (v : Value) (n : Nat) (w : World) (hn : n ≤ w.heap.size) (h : IsLabs n w v l) (hne : 1 ≤ l.length) (hl : l.length ≤ 1000000) :
    Calls Try.prog 17 #[v] w fun e' w' => ∃ v', e' = .returned v' ∧ OwnL w.heap.size w' v' l ∧ Below w.heap.size w w' := by
  obtain ⟨i0, hi, hz0, hz1, hz2⟩ := info_parts infoLab
  obtain ⟨p, cap, rfl, _, _, _⟩ := h.open
  obtain ⟨b, off, rfl, hbn, -⟩ := h.get (k := 0) (by omega)
  have Ha := Lib.hid h.src; clear h
  have hnil : ∀ w, (binOp .eql 22 (.slice (some ⟨b, off, none⟩) l.length cap) (.slice none 0 0)).run Try.prog w = .ok (.bool false) w := fun w => Lib.run_eql_slice_nil (P := Try.prog) w 22 _ (some ⟨b, off, none⟩) l.length cap 0 0 Try.underlying22
  go_enter Try.func17, Try.ntmps17; (try simp only [List.append_eq, List.cons_append, List.nil_append])
  go_wp2_with (at_builtin; refine wpList_append_src _ rfl _ _ _ rfl w.heap.size 28 i0 _ (2) (32) Try.underlying22 hi hz0 hz1 hz2 rfl (by decide) (.slice (some ⟨w.heap.size, 0, none⟩) 0 0) 0 [] rfl ⟨rfl, .inr ⟨_, 0, #[], rfl, Nat.le_refl _, World.alloc_heap_new w _, Nat.le_refl _, Nat.zero_le _, rfl, rfl⟩⟩ (.slice (some ⟨b, off, none⟩) l.length cap) l.length (flat l) rfl (src_alloc Ha.out _) (flat_one l) (by unfold maxLen; omega) (by omega) (by simp) ?_; intro v3 w3 hown3 hgr3 hat3)
  go_ret
  refine ⟨_, rfl, ?_, ((Below.refl _ _).alloc (Nat.le_refl _) _).grown hgr3 (by simp) (by simp [Value.ownBlock])⟩
  rw [Nat.zero_add, List.nil_append] at hown3
  exact hown3

/-- Is a text missing? -/
theorem lOf2 (x : Lab) (w : World) : Calls Try.prog 22 #[.agg #[.string x.name, .string x.text]] w fun e w' => e = .returned (.bool (!full x)) ∧ Below w.heap.size w w' := by
  have hf : x.text.toList.isEmpty = !full x := by
    cases h : x.text.toList.isEmpty with
    | true => have := txt_none h; unfold full; rw [decide_eq_false (by omega)]; rfl
    | false => have := txt_some h; unfold full; rw [decide_eq_true this]; rfl
  have Hf := Lib.hid hf; clear hf
  go_enter Try.func22, Try.ntmps22; (try simp only [List.append_eq, List.cons_append, List.nil_append])
  go_wp2
  go_ret
  exact ⟨ret_bool (by rw [← Hf.out]), (Below.refl _ _).alloc (Nat.le_refl _) _⟩

theorem OwnL.labs {base m : Nat} {w : World} {v : Value} {l : List Lab} (h : OwnL base w v l) (hm : w.heap.size ≤ m) (hsm : ∀ x ∈ l, x.small) : IsLabs m w v l := by
  refine ⟨?_, hsm⟩
  rcases h.2 with ⟨rfl, hl⟩ | ⟨g, cap, cur, rfl, hg, hh, hc1, hc2, hc3, hc4⟩
  · have : l = [] := List.eq_nil_of_length_eq_zero (by omega)
    subst this
    exact Arr.nil _ _ _
  · refine ⟨_, cap, by rw [List.length_map], by simpa using hc1, hc2, fun _ => ⟨g, 0, rfl, ?_, fun k r hr j x hx => ?_⟩⟩
    · have := (Array.getElem?_eq_some_iff.1 hh).1; omega
    · obtain ⟨y, hy, rfl⟩ : ∃ y, l[k]? = some y ∧ r = y.cells := by
        rw [List.getElem?_map] at hr
        cases hlk : l[k]? with
        | none => rw [hlk] at hr; cases hr
        | some y => rw [hlk] at hr; cases hr; exact ⟨y, rfl, rfl⟩
      have hk := OwnL.at (n := l.length) h hy
      cases j with
      | zero => simp [Lab.cells] at hx; subst hx; simpa using hk.1
      | succ j =>
        cases j with
        | zero => simp [Lab.cells] at hx; subst hx; simpa using hk.2
        | succ j => simp [Lab.cells] at hx

set_option maxHeartbeats 1000000 in
theorem sIdxDel (a : List Lab) (x : Lab) (v : Value) (n : Nat) (w : World) (hn : n ≤ w.heap.size) (h : IsLabs n w v (a ++ [x])) (ha : ∀ y ∈ a, full y = true) (hx : full x = false) :
    Calls Try.prog 31 #[v, .func (.func 22) #[] #[]] w fun e w' => e = .returned (.int .i64 a.length) ∧ Below w.heap.size w w' := by
  obtain ⟨p, cap, rfl, _, _, hl⟩ := h.open
  unfold maxLen at hl
  have HC := Lib.hid (fun x X => lOf2 x X)
  have H := Lib.hid h; clear h
  have Ha := Lib.hid ha; clear ha
  have hlen : (a ++ [x]).length = a.length + 1 := by simp
  obtain ⟨L, hL⟩ : ∃ L, (a ++ [x]).length = L := ⟨_, rfl⟩
  have HL := Lib.hid hL
  rw [hL] at hlen hl ⊢
  clear hL
  have Hlen := Lib.hid hlen
  have hl1 : a.length < L := by omega
  clear hlen
  go_enter Try.func31, Try.ntmps31; (try simp only [List.append_eq, List.cons_append, List.nil_append])
  go_upto_region 2 with fail
  go_loopw [8] (fun i wr => ∃ k : Nat, k ≤ a.length ∧ i = .int .i64 k ∧ Below w.heap.size w wr) (fun i _ => L - (intOf i).toNat)
  case atStart => exact ⟨0, Nat.zero_le _, rfl, Below.refl _ _⟩
  case round =>
    obtain ⟨k, hk, rfl, hb⟩ := hrel
    have Hb := Lib.hid hb; clear hb
    have hsb := Hb.out.size
    have hkL : k < L := by omega
    have hkk : k < (a ++ [x]).length := by rw [HL.out]; omega
    obtain ⟨b, off, rfl, hbn, h1, h2, hs1, hs2⟩ := (H.out.mono (Hb.out.mono hn) (Nat.le_refl _)).get hkk
    by_cases hlt : k < a.length
    · have hf : full ((a ++ [x])[k]'hkk) = true := by rw [List.getElem_append_left hlt]; exact Ha.out _ (List.getElem_mem hlt)
      generalize (a ++ [x])[k]'hkk = y at *
      have HCx := Lib.hid (HC.out y wr)
      rw [hf] at HCx
      clear hf
      go_wp2_with (go_at_call 22; refine HCx.out.mono ?_; rintro e w' ⟨rfl, hb⟩; have HB2 := Lib.hid (Hb.out.trans (hb.mono hsb)); clear hb)
      exact ⟨⟨k + 1, by omega, by go_num, HB2.out⟩, by simp [intOf]; omega⟩
    · have hk' : k = a.length := by omega
      have hy : (a ++ [x])[k]'hkk = x := by subst hk'; simp
      rw [hy] at h1 h2 hs1 hs2
      clear hy
      have Hk := Lib.hid hk'; clear hk'
      have HCx := Lib.hid (HC.out x wr)
      rw [hx] at HCx
      go_wp2_with (go_at_call 22; refine HCx.out.mono ?_; rintro e w' ⟨rfl, hb⟩; have HB2 := Lib.hid (Hb.out.trans (hb.mono hsb)); clear hb)
      go_ret
      exact ⟨by rw [Hk.out]; rfl, HB2.out⟩

/-- The last is cleared, and cut off. -/
theorem OwnL.cutLast {base g cap : Nat} {w : World} {a : List Lab} {x : Lab} (h : OwnL base w (.slice (some ⟨g, 0, none⟩) (a.length + 1) cap) (a ++ [x])) (u v : Value) :
    OwnL base ((w.setCell ⟨g, a.length * 2, none⟩ u).setCell ⟨g, a.length * 2 + 1, none⟩ v) (.slice (some ⟨g, 0, none⟩) a.length cap) a := by
  have h0 : w.ownsRow base 28 2 (.slice (some ⟨g, 0, none⟩) (a.length + 1) cap) (a.length + 1) (flat (a ++ [x])) := by
    have := h; unfold OwnL at this; rwa [List.length_append] at this
  have h1 := (World.ownsRow.stored h0 (a.length * 2) u).1
  have h2 := (World.ownsRow.stored h1 (a.length * 2 + 1) v).1
  have hf : flat (a ++ [x]) = flat a ++ [.string x.name, .string x.text] := by rw [flat_append]; rfl
  have hfl := flat_length a
  rw [hf] at h2
  have e1 : ((flat a ++ [Value.string x.name, Value.string x.text]).set (a.length * 2) u).set (a.length * 2 + 1) v = flat a ++ [u, v] := by
    rw [← hfl, List.set_append_right _ _ (Nat.le_refl _), List.set_append_right _ _ (by omega)]
    simp
  rw [e1] at h2
  rcases h2.2 with ⟨h', _⟩ | ⟨g', cap', cur, h', hb, hh, hc1, hc2, hc3, hc4⟩
  · simp at h'
  · simp only [Value.slice.injEq, Option.some.injEq, Addr.mk.injEq, and_true, true_and] at h'
    obtain ⟨rfl, rfl⟩ := h'
    refine ⟨hfl, .inr ⟨g, cap, cur, rfl, hb, hh, by omega, hc2, hc3, ?_⟩⟩
    have := congrArg (List.take (a.length * 2)) hc4
    rw [List.take_take, show min (a.length * 2) ((a.length + 1) * 2) = a.length * 2 by omega] at this
    rw [this, ← hfl, List.take_left']
    rfl

theorem run_clear_lab (w : World) (g o c : Nat) (ty : TypeId) (h0 : (w.cell? ⟨g, o, none⟩).isSome = true) (h1 : (w.cell? ⟨g, o + 1, none⟩).isSome = true) (f0 : w.frozen? ⟨g, o, none⟩ = false) (f1 : w.frozen? ⟨g, o + 1, none⟩ = false) :
    (Builtin.clear_ #[22] ty #[.slice (some ⟨g, o, none⟩) 1 c]).run Try.prog w = .ok (.tuple #[]) ((w.setCell ⟨g, o, none⟩ (.string ⟨#[]⟩)).setCell ⟨g, o + 1, none⟩ (.string ⟨#[]⟩)) := by
  have hst := run_storeCells_cells (P := Try.prog) g o [.string ⟨#[]⟩, .string ⟨#[]⟩] 0 w (by intro j hj; match j, hj with | 0, _ => exact h0 | 1, _ => exact h1) (by intro j hj; match j, hj with | 0, _ => exact f0 | 1, _ => exact f1) (by intro v hv; simp at hv; subst hv; rfl)
  have hz : (Builtin.zeroCells (Value.agg #[.string ⟨#[]⟩, .string ⟨#[]⟩]).cells 1).toList = [.string ⟨#[]⟩, .string ⟨#[]⟩] := by kernel_rfl
  have hv := Try.zeroValue28
  have hu := Try.underlying22
  simp only [Nat.add_zero] at hst
  simp [Builtin.clear_, run_underlying hu, hv, hz, hst]
  rfl

set_option maxHeartbeats 1000000 in
theorem sDelete (a : List Lab) (x : Lab) (base g cap : Nat) (w : World) (hb : base ≤ w.heap.size) (h : OwnL base w (.slice (some ⟨g, 0, none⟩) (a.length + 1) cap) (a ++ [x])) (hsm : ∀ y ∈ a ++ [x], y.small) (hla : a.length ≤ 100) (hcap : a.length + 1 ≤ cap) (hcm : cap ≤ maxLen) (ha : ∀ y ∈ a, full y = true) (hx : full x = false) :
    Calls Try.prog 21 #[.slice (some ⟨g, 0, none⟩) (a.length + 1) cap, .func (.func 22) #[] #[]] w fun e w' => e = .returned (.slice (some ⟨g, 0, none⟩) a.length cap) ∧ OwnL base w' (.slice (some ⟨g, 0, none⟩) a.length cap) a ∧ Below base w w' := by
  have HI := Lib.hid (sIdxDel a x (.slice (some ⟨g, 0, none⟩) (a.length + 1) cap) w.heap.size w (Nat.le_refl _) (h.labs (Nat.le_refl _) hsm) ha hx)
  have H := Lib.hid h; clear h
  unfold maxLen at hcm
  obtain ⟨hg1, hg2⟩ := H.out.block
  have hm1 : ((a.length : Int) == -1) = false := by rw [Bool.eq_false_iff]; simp only [ne_eq, beq_iff_eq]; omega
  have c1 : (a.length : Int) ≤ ((a.length + 1 : Nat) : Int) := by omega
  obtain ⟨m, hm⟩ : ∃ m, a.length = m := ⟨_, rfl⟩
  have Hm := Lib.hid hm
  rw [hm] at HI H hla hcap hm1 c1 ⊢
  clear hm
  have hmi : ¬ (m : Int) + 1 < ((m + 1 : Nat) : Int) := by omega
  go_enter Try.func21, Try.ntmps21; (try simp only [List.append_eq, List.cons_append, List.nil_append])
  go_upto_region 5 with (go_at_call 31; refine HI.out.mono ?_; rintro e w1 ⟨rfl, hbl⟩; have HB := Lib.hid hbl; have HO := Lib.hid (H.out.keep hbl); clear hbl)
  go_loop [5, 6] (fun s5 s6 => s5 = .int .i64 m ∧ s6 = .int .i64 ((m : Int) + 1)) (fun _ _ => 0)
  case atStart => exact ⟨rfl, rfl⟩
  case round =>
    obtain ⟨rfl, rfl⟩ := hrel
    have hcm2 : ¬ cap = m := by omega
    have c2 : (m : Int) ≤ (m : Int) + 1 := by omega
    have c3 : (0 : Int) ≤ (m : Int) := by omega
    have c4 : (m : Int) ≤ (cap : Int) := by omega
    obtain ⟨e0, e1⟩ := (show OwnL base w1 (.slice (some ⟨g, 0, none⟩) (m + 1) cap) (a ++ [x]) from HO.out).at (k := m) (x := x) (by rw [← Hm.out]; simp)
    have hcl : ∀ ty, (Builtin.clear_ #[22] ty #[.slice (some ⟨g, m * 2, none⟩) 1 (cap - m)]).run Try.prog w1 = .ok (.tuple #[]) ((w1.setCell ⟨g, m * 2, none⟩ (.string ⟨#[]⟩)).setCell ⟨g, m * 2 + 1, none⟩ (.string ⟨#[]⟩)) := fun ty =>
      run_clear_lab w1 g (m * 2) (cap - m) ty (by rw [e0]; rfl) (by rw [e1]; rfl) (HO.out.free _) (HO.out.free _)
    go_wp2
    go_ret
    have h3 := HO.out
    rw [← Hm.out] at h3 ⊢
    exact ⟨rfl, h3.cutLast _ _, below_put (HB.out.mono hb) hg1 _ _ _ _⟩

/-- What Of answers. -/
def OfIs (w : World) (a : List Lab) (e : Ending) (w' : World) : Prop := ∃ v', e = .returned (.tuple #[v', .int .i64 0]) ∧ OwnL w.heap.size w' v' a ∧ Below w.heap.size w w'
theorem small_perm {s l : List Lab} (hp : s.Perm l) (h : ∀ x ∈ l, x.small) : ∀ x ∈ s, x.small := fun x hx => h x (hp.mem_iff.1 hx)

set_option maxRecDepth 100000 in
set_option maxHeartbeats 2000000 in
theorem lOf (l a : List Lab) (x : Lab) (v : Value) (n : Nat) (w : World) (hn : n ≤ w.heap.size) (h : IsLabs n w v l) (hlen : l.length < 20) (hp : (a ++ [x]).Perm l) (hs : (a ++ [x]).Pairwise ltN) (ha : ∀ y ∈ a, full y = true) (hx : full x = false) (hck : checkL a = 0) :
    Calls Try.prog 6 #[v] w (OfIs w a) := by
  have hne : 1 ≤ l.length := by rw [← hp.length_eq]; simp
  have hal : a.length + 1 = l.length := by rw [← hp.length_eq]; simp
  have hsm := h.2
  have Hsm := Lib.hid (small_perm hp hsm); clear hsm
  have HC := Lib.hid (cloneL l v n w hn h hne (by omega)); clear h
  have HSl := Lib.hid hs; have HP := Lib.hid hp; have HA := Lib.hid ha; have HX := Lib.hid hx; have HK := Lib.hid hck
  have huniq : ∀ s : List Lab, s.Perm l → s.Pairwise leN → s = a ++ [x] := by
    intro s h1 h2
    have h3 : (s.map (·.name)).Nodup := ((h1.trans hp.symm).map _).nodup_iff.2 ((sorted_dup (hs.imp leN_of_lt)).2 hs)
    exact sorted_unique (h1.trans hp.symm) ((sorted_dup h2).1 h3) hs
  have HU := Lib.hid huniq
  have hadj : ∀ k, (hk : k + 1 < (a ++ [x]).length) → ((a ++ [x])[k + 1].name.toList == (a ++ [x])[k].name.toList) = false := by
    intro k hk
    rw [toList_beq]
    have := List.pairwise_iff_getElem.1 hs k (k + 1) (by omega) hk (by omega)
    refine decide_eq_false ?_
    intro e
    unfold ltN at this
    rw [e, sless_irrefl] at this
    cases this
  have HAdj := Lib.hid hadj
  clear huniq hadj hs hp ha hx hck
  go_enter Try.func6, Try.ntmps6; (try simp only [List.append_eq, List.cons_append, List.nil_append])
  go_upto_region 2 with (go_at_call 17; refine HC.out.mono ?_; rintro e w1 ⟨v1, rfl, ho, hb⟩; have HO := Lib.hid ho; have HB := Lib.hid hb; clear ho hb)
  obtain ⟨g, cap, rfl⟩ : ∃ g cap, v1 = .slice (some ⟨g, 0, none⟩) l.length cap := by
    rcases HO.out.2 with ⟨_, h0⟩ | ⟨g, cap, cur, hv, _⟩
    · omega
    · exact ⟨g, cap, hv⟩
  have HS := Lib.hid (sSortStable l w.heap.size g cap w1 HB.out.size hlen hne HO.out)
  have hcap : l.length ≤ cap ∧ cap ≤ maxLen := by
    rcases HO.out.2 with ⟨h0, _⟩ | ⟨g', cap', cur, hv, _, _, h1, h2, _⟩
    · cases h0
    · cases hv; exact ⟨h1, h2⟩
  obtain ⟨hcap1, hcap2⟩ := hcap
  have HC2 := Lib.hid hcap2; clear hcap2
  go_upto_region 4 with (go_at_call 18; refine HS.out.mono ?_; rintro e w2 ⟨s, rfl, hp2, hs2, ho2, hb2⟩; have hu := HU.out s hp2 hs2; subst hu; have HO2 := Lib.hid ho2; have HB2 := Lib.hid (HB.out.trans hb2); clear hp2 hs2 ho2 hb2)
  clear HO HS
  go_loopw [5] (fun s5 wr => ∃ i : Nat, 1 ≤ i ∧ i ≤ l.length ∧ s5 = .int .i64 i ∧ OwnL w.heap.size wr (.slice (some ⟨g, 0, none⟩) l.length cap) (a ++ [x]) ∧ Below w.heap.size w wr) (fun s5 _ => l.length - (intOf s5).toNat)
  case atStart => exact ⟨1, Nat.le_refl _, hne, rfl, HO2.out, HB2.out⟩
  case round =>
    obtain ⟨i, hi1, hi2, rfl, ho, hb⟩ := hrel
    have HO3 := Lib.hid ho; clear ho
    have HB3 := Lib.hid hb; clear hb
    by_cases hlt : i < l.length
    · obtain ⟨m, hm⟩ : ∃ m, m + 1 = i := ⟨i - 1, by omega⟩
      have hml : m < l.length := by omega
      have hal2 : (a ++ [x]).length = l.length := by simp; omega
      have hmm : m + 1 < (a ++ [x]).length := by omega
      have e0 := (HO3.out.at (k := i) (List.getElem?_eq_getElem (by omega : i < (a ++ [x]).length))).1
      have e1 := (HO3.out.at (k := m) (List.getElem?_eq_getElem (by omega : m < (a ++ [x]).length))).1
      have hne2 := HAdj.out m hmm
      subst hm
      generalize (a ++ [x])[m + 1] = y1 at *
      generalize (a ++ [x])[m] = y0 at *
      have hw1 : IntKind.i64.wrap (((m + 1 : Nat) : Int) - 1) = (m : Int) := by rw [IntWalk.i64_in _ (by omega)]; omega
      obtain ⟨i, hi⟩ : ∃ i, m + 1 = i := ⟨_, rfl⟩
      have Hi := Lib.hid hi
      rw [hi] at hlt hi1 hi2 e0 hw1 hmm ⊢
      clear hi
      have b1 : (i : Int) < (l.length : Int) := by omega
      have b2 : (m : Int) < (l.length : Int) := by omega
      have b3 : (0 : Int) ≤ (m : Int) := by omega
      have b4 : (0 : Int) ≤ (i : Int) := by omega
      go_upto_region 6 with fail
      go_quiet (fail)
      all_goals go_wp2
      all_goals exact ⟨⟨i + 1, by omega, by omega, by go_num, HO3.out.keep (below_drewN (Below.refl _ _) _), below_drewN HB3.out _⟩, by simp [intOf]; omega⟩
    · have hi' : i = l.length := by omega
      have Hil := Lib.hid hi'; clear hi' hi1 hi2
      have HD := Lib.hid (fun (hl : l.length = a.length + 1) => sDelete a x w.heap.size g cap wr HB3.out.size (by have := HO3.out; rw [hl] at this; exact this) Hsm.out (by omega) (by omega) HC2.out HA.out HX.out)
      have hD := HD.out hal.symm
      rw [hal] at hD
      have HD2 := Lib.hid hD; clear hD HD
      have hcm := HC2.out
      have HLa := Lib.hid (fun X (hX : OwnL w.heap.size X (.slice (some ⟨g, 0, none⟩) a.length cap) a) => lCheck a (.slice (some ⟨g, 0, none⟩) a.length cap) X.heap.size X (Nat.le_refl _) (hX.labs (Nat.le_refl _) (fun y hy => Hsm.out y (List.mem_append_left _ hy))))
      go_wp2_with (first
        | (go_at_call 21; (with_reducible refine HD2.out.mono ?_); rintro e w4 ⟨rfl, ho4, hb4⟩; have HO4 := Lib.hid ho4; have HB4 := Lib.hid (HB3.out.trans hb4); clear ho4 hb4)
        | (go_at_call 11; (with_reducible refine (HLa.out _ HO4.out).mono ?_); rintro e w5 ⟨rfl, hb5⟩; rw [HK.out]; have HO5 := Lib.hid (HO4.out.keep hb5); have HB5 := Lib.hid (HB4.out.trans (hb5.mono HB4.out.size)); clear hb5))
      go_ret2
      exact ⟨_, rfl, HO5.out, HB5.out⟩

set_option maxRecDepth 100000 in
set_option maxHeartbeats 2000000 in
theorem lOfDup (l : List Lab) (v : Value) (n : Nat) (w : World) (hn : n ≤ w.heap.size) (h : IsLabs n w v l) (hlen : l.length < 20) (hne : 1 ≤ l.length) (hd : dupN l = true) :
    Calls Try.prog 6 #[v] w fun e w' => e = .returned (.tuple #[.slice none 0 0, .int .i64 2]) ∧ Below w.heap.size w w' := by
  have HC := Lib.hid (cloneL l v n w hn h hne (by omega)); clear h
  have HD := Lib.hid hd; clear hd
  go_enter Try.func6, Try.ntmps6; (try simp only [List.append_eq, List.cons_append, List.nil_append])
  go_upto_region 2 with (go_at_call 17; refine HC.out.mono ?_; rintro e w1 ⟨v1, rfl, ho, hb⟩; have HO := Lib.hid ho; have HB := Lib.hid hb; clear ho hb)
  obtain ⟨g, cap, rfl⟩ : ∃ g cap, v1 = .slice (some ⟨g, 0, none⟩) l.length cap := by
    rcases HO.out.2 with ⟨_, h0⟩ | ⟨g, cap, cur, hv, _⟩
    · omega
    · exact ⟨g, cap, hv⟩
  have HS := Lib.hid (sSortStable l w.heap.size g cap w1 HB.out.size hlen hne HO.out)
  go_upto_region 4 with (go_at_call 18; refine HS.out.mono ?_; rintro e w2 ⟨s, rfl, hp2, hs2, ho2, hb2⟩; have HP2 := Lib.hid hp2; have HS2 := Lib.hid hs2; have HO2 := Lib.hid ho2; have HB2 := Lib.hid (HB.out.trans hb2); clear hp2 hs2 ho2 hb2)
  clear HO HS
  have hsl : s.length = l.length := HP2.out.length_eq
  have Hsl := Lib.hid hsl; clear hsl
  go_loopw [5] (fun s5 wr => ∃ i : Nat, 1 ≤ i ∧ i ≤ l.length ∧ s5 = .int .i64 i ∧ (∀ k, (hk : k + 1 < s.length) → k + 1 < i → s[k + 1].name ≠ s[k].name) ∧ OwnL w.heap.size wr (.slice (some ⟨g, 0, none⟩) l.length cap) s ∧ Below w.heap.size w wr) (fun s5 _ => l.length - (intOf s5).toNat)
  case atStart => exact ⟨1, Nat.le_refl _, hne, rfl, fun k _ hk => by omega, HO2.out, HB2.out⟩
  case round =>
    obtain ⟨i, hi1, hi2, rfl, hadj, ho, hb⟩ := hrel
    have HAdj := Lib.hid hadj; clear hadj
    have HO3 := Lib.hid ho; clear ho
    have HB3 := Lib.hid hb; clear hb
    by_cases hlt : i < l.length
    · obtain ⟨m, hm⟩ : ∃ m, m + 1 = i := ⟨i - 1, by omega⟩
      have hml : m < l.length := by omega
      have hsi : i < s.length := by rw [Hsl.out]; exact hlt
      have hsm : m < s.length := by omega
      have hmm : m + 1 < s.length := by omega
      have e0 := (HO3.out.at (k := i) (List.getElem?_eq_getElem hsi)).1
      have e1 := (HO3.out.at (k := m) (List.getElem?_eq_getElem hsm)).1
      subst hm
      have Hnext : Hid (s[m + 1].name ≠ s[m].name → ∀ k, (hk : k + 1 < s.length) → k + 1 < m + 1 + 1 → s[k + 1].name ≠ s[k].name) := fun h k hk h2 => by
        by_cases hkm : k = m
        · subst hkm; exact h
        · exact HAdj.out k hk (by omega)
      have hw1 : IntKind.i64.wrap (((m + 1 : Nat) : Int) - 1) = (m : Int) := by rw [IntWalk.i64_in _ (by omega)]; omega
      generalize s[m + 1] = y1 at *
      generalize s[m] = y0 at *
      obtain ⟨i, hi⟩ : ∃ i, m + 1 = i := ⟨_, rfl⟩
      rw [hi] at hlt hi1 hi2 e0 hw1 Hnext ⊢
      have Hi := Lib.hid hi
      clear hi hsi hsm hmm
      have b1 : (i : Int) < (l.length : Int) := by omega
      have b2 : (m : Int) < (l.length : Int) := by omega
      have b3 : (0 : Int) ≤ (m : Int) := by omega
      have b4 : (0 : Int) ≤ (i : Int) := by omega
      by_cases hy : y1.name = y0.name
      · have hyy : (y1.name.toList == y0.name.toList) = true := by rw [toList_beq]; exact decide_eq_true hy
        clear hy
        go_upto_region 6 with fail
        go_quiet (fail)
        all_goals go_wp2
        all_goals go_ret2
        all_goals exact ⟨rfl, below_drewN HB3.out _⟩
      · have hyy : (y1.name.toList == y0.name.toList) = false := by rw [toList_beq]; exact decide_eq_false hy
        have Hy := Lib.hid hy
        clear hy
        go_upto_region 6 with fail
        go_quiet (fail)
        all_goals go_wp2
        all_goals exact ⟨⟨i + 1, by omega, by omega, by go_num, Hnext.out Hy.out, HO3.out.keep (below_drewN (Below.refl _ _) _), below_drewN HB3.out _⟩, by simp [intOf]; omega⟩
    · exfalso
      have h1 := nodup_adj HP2.out HS2.out (fun k hk => HAdj.out k hk (by have := Hsl.out; omega))
      rw [HD.out] at h1
      cases h1
end Go.Proofs.Ytbllkddpmmeloaa
