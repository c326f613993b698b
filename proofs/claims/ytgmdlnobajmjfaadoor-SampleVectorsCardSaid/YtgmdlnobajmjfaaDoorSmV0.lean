/- Plain: a strictly rising order of a vector is the only one; an element put into its place; lists of results: parts of them, appends onto one of the call's own. No walk here. -/
import Derived.Test.YtgmdlnobajmjfaaDoorSmR7
import Derived.Test.YtgmdlnobajmjfaaDoorSm9
import Derived.Lib.SliceRun
import Derived.Test.YtgmdlnobajmjfaaDoorApp
namespace Go.Proofs.YtgmdlnobajmjfaaDoor
open Go.RowKit
set_option linter.unusedSimpArgs false
set_option linter.unusedVariables false

theorem rise_uniq {R : Rs → Rs → Prop} (hR : ∀ x y, R x y → R y x → False) : ∀ {a b : List Rs}, a.Perm b → a.Pairwise R → b.Pairwise R → a = b
  | [], b, hp, _, _ => hp.nil_eq
  | x :: a, [], hp, _, _ => absurd hp.length_eq (by simp)
  | x :: a, y :: b, hp, ha, hb => by
    rw [List.pairwise_cons] at ha hb
    by_cases h : x = y
    · subst h
      rw [rise_uniq hR hp.cons_inv ha.2 hb.2]
    · have h1 : x ∈ b := by
        have := hp.subset (List.mem_cons_self (a := x) (l := a))
        rcases List.mem_cons.1 this with h2 | h2
        · exact absurd h2 h
        · exact h2
      have h3 : y ∈ a := by
        have := hp.symm.subset (List.mem_cons_self (a := y) (l := b))
        rcases List.mem_cons.1 this with h2 | h2
        · exact absurd h2.symm h
        · exact h2
      exact (hR x y (ha.1 y h3) (hb.1 x h1)).elim
theorem strict_of {s : List Rs} (h : checkV s = 0) : s.Pairwise fun a b => orderL a.labs b.labs < 0 := by
  rw [List.pairwise_iff_getElem]
  intro i j hi hj hij
  exact checkV_rise h hij (List.getElem?_eq_getElem hi) (List.getElem?_eq_getElem hj)
theorem asym (x y : Rs) (h1 : orderL x.labs y.labs < 0) (h2 : orderL y.labs x.labs < 0) : False := by
  have := orderL_swap x.labs y.labs
  omega
theorem nodup_of {s : List Rs} (h : checkV s = 0) : (s.map Rs.labs).Nodup := by
  unfold List.Nodup
  rw [List.pairwise_map]
  refine (strict_of h).imp fun {a b} hab e => ?_
  rw [e, orderL_zero.2 rfl] at hab
  omega
theorem strict_nodup {s : List Rs} (hr : RiseR s) (hn : (s.map Rs.labs).Nodup) : s.Pairwise fun a b => orderL a.labs b.labs < 0 := by
  unfold List.Nodup at hn
  rw [List.pairwise_map] at hn
  refine (List.Pairwise.and hr hn).imp fun {a b} h => ?_
  have h1 := h.1
  have h2 : orderL a.labs b.labs ≠ 0 := fun e => h.2 (orderL_zero.1 e)
  have := orderL_swap a.labs b.labs
  omega
/-- What the reference's Sort answers. -/
def SortQ (l l' : List Rs) (c : Int) : Prop :=
  (4096 < l.length ∧ l' = [] ∧ c = 3) ∨ (l.length ≤ 4096 ∧ anyBad l = true ∧ l' = [] ∧ c = 2) ∨
  (l.length ≤ 4096 ∧ anyBad l = false ∧ ((∃ s : List Rs, s.Perm l ∧ checkV s = 0 ∧ l' = s ∧ c = 0) ∨ (¬ (l.map Rs.labs).Nodup ∧ l' = [] ∧ c = 2)))
theorem check_two {s : List Rs} (hl : s.length ≤ 4096) (h : checkV s ≠ 0) : checkV s = 2 := by
  unfold checkV at h ⊢
  split at h
  · omega
  · split at h
    · exact absurd rfl h
    · rename_i h1 h2
      rw [if_neg h1, if_neg h2]
theorem sort_agree {l a b : List Rs} {c d : Int} (h : SortP l a c) (k : SortQ l b d) : a = b ∧ c = d := by
  rcases h with ⟨h1, rfl, rfl⟩ | ⟨h1, h2, rfl, rfl⟩ | ⟨h1, h2, s, hp, hr, h3⟩
  · rcases k with ⟨k1, rfl, rfl⟩ | ⟨k1, k2, rfl, rfl⟩ | ⟨k1, k2, k3⟩
    · exact ⟨rfl, rfl⟩
    · omega
    · omega
  · rcases k with ⟨k1, rfl, rfl⟩ | ⟨k1, k2, rfl, rfl⟩ | ⟨k1, k2, k3⟩
    · omega
    · exact ⟨rfl, rfl⟩
    · rw [h2] at k2; cases k2
  · rcases k with ⟨k1, rfl, rfl⟩ | ⟨k1, k2, rfl, rfl⟩ | ⟨k1, k2, k3⟩
    · omega
    · rw [h2] at k2; cases k2
    · have hls : s.length ≤ 4096 := by rw [hp.length_eq]; exact h1
      rcases k3 with ⟨t, tp, tc, rfl, rfl⟩ | ⟨kn, rfl, rfl⟩
      · have hst := strict_of tc
        have e : s = b := rise_uniq (R := fun a b => orderL a.labs b.labs < 0) asym (hp.trans tp.symm)
          (strict_nodup hr (((hp.trans tp.symm).map Rs.labs).nodup_iff.2 (nodup_of tc))) hst
        subst e
        rcases h3 with ⟨-, rfl, rfl⟩ | ⟨h4, -, -⟩
        · exact ⟨rfl, rfl⟩
        · exact absurd tc h4
      · rcases h3 with ⟨h4, rfl, rfl⟩ | ⟨h4, rfl, rfl⟩
        · exact absurd ((hp.map Rs.labs).nodup_iff.1 (nodup_of h4)) kn
        · exact ⟨rfl, check_two hls h4⟩
theorem ins_rise {out : List Rs} {x : Rs} {k : Nat} (hs : out.Pairwise fun a b => orderL a.labs b.labs < 0) (h1 : ∀ r ∈ out.take k, orderL r.labs x.labs < 0) (h2 : ∀ r, out[k]? = some r → orderL x.labs r.labs < 0) :
    (out.take k ++ x :: out.drop k).Pairwise fun a b => orderL a.labs b.labs < 0 := by
  have h3 : ∀ r ∈ out.drop k, orderL x.labs r.labs < 0 := by
    intro r hr
    by_cases hk : k < out.length
    · have hd := hs.sublist (List.drop_sublist k out)
      have h4 := h2 _ (List.getElem?_eq_getElem hk)
      rw [List.drop_eq_getElem_cons hk] at hr hd
      rcases List.mem_cons.1 hr with rfl | hr
      · exact h4
      · exact orderL_trans h4 ((List.pairwise_cons.1 hd).1 r hr)
    · rw [List.drop_eq_nil_of_le (by omega)] at hr
      cases hr
  rw [List.pairwise_append]
  refine ⟨hs.sublist (List.take_sublist k out), List.pairwise_cons.2 ⟨h3, hs.sublist (List.drop_sublist k out)⟩, ?_⟩
  intro a ha b hb
  rcases List.mem_cons.1 hb with rfl | hb
  · exact h1 a ha
  · exact orderL_trans (h1 a ha) (h3 b hb)
theorem ins_perm (out : List Rs) (x : Rs) (k : Nat) : (out.take k ++ x :: out.drop k).Perm (x :: out) := by
  refine List.perm_middle.trans ?_
  rw [List.take_append_drop]
theorem strict_check {s : List Rs} (hl : ¬ 4096 < s.length) (hg : ∀ r ∈ s, rightR r = true) (hs : s.Pairwise fun a b => orderL a.labs b.labs < 0) : checkV s = 0 := by
  refine ok_all hl (upto_iff.2 fun k hk => ?_)
  rw [List.pairwise_iff_getElem] at hs
  cases k with
  | zero => exact ok_zero (List.getElem?_eq_getElem hk) (hg _ (List.getElem_mem hk))
  | succ j =>
    have hj : j < s.length := by omega
    rw [ok_succ (List.getElem?_eq_getElem hj) (List.getElem?_eq_getElem hk) (hg _ (List.getElem_mem hk)),
      compareL_ok (right_check (hg _ (List.getElem_mem hj))) (right_check (hg _ (List.getElem_mem hk)))]
    exact decide_eq_true (hs j (j + 1) hj hk (by omega))
/-- A source that may be nothing, with whatever room. -/
def SrcN (w : World) (v : Value) (sz m : Nat) (news : List Value) : Prop := Src w v sz m news ∨ ∃ c, v = .slice none 0 c ∧ m = 0 ∧ news = []
theorem SrcN.of_arr {n : Nat} {w : World} {p : Option Addr} {c sz : Nat} {rows : List (List Value)} (h : Arr n w (.slice p rows.length c) sz rows) (hr : ∀ r ∈ rows, r.length = sz) (hsz : 0 < sz) : SrcN w (.slice p rows.length c) sz rows.length rows.flatten := by
  cases p with
  | some ad => exact .inl (Src.of_arr h hr hsz (fun e => by cases e))
  | none =>
    cases rows with
    | nil => exact .inr ⟨c, rfl, rfl, rfl⟩
    | cons r rows =>
      obtain ⟨p, cap, hv, -, -, h3⟩ := h
      obtain ⟨b, off, hp, -⟩ := h3 (by simp)
      subst hp
      simp at hv
theorem SrcN.below {w w' : World} {v : Value} {sz m : Nat} {news : List Value} (h : SrcN w v sz m news) (hb : Below w.heap.size w w') : SrcN w' v sz m news := by
  rcases h with h | h
  · exact .inl (h.keep fun p x hx => (hb.cell (World.block_lt_of_cell? w _ hx)).trans hx)
  · exact .inr h
theorem run_append_noneC {P : Program} {w : World} (base : Nat) (t ty e : TypeId) (i : TypeInfo) (size c : Nat) (ht : P.underlying t = some (.slice e)) (hi : P.info? e = some i) (v : Value) (n : Nat) (xs : List Value) (hown : w.ownsRow base e size v n xs) :
    (Builtin.append_ #[t, t] ty #[v, .slice none 0 c]).run P w = .ok v w := by
  rcases hown.2 with ⟨rfl, rfl⟩ | ⟨g, cap, cur, rfl, _, _, hnc, _⟩
  · simp [Builtin.append_, run_underlying ht, sizeOf, typeInfo, hi, Builtin.lenOf, Builtin.firstCells]
  · simp [Builtin.append_, run_underlying ht, sizeOf, typeInfo, hi, Builtin.lenOf, Builtin.firstCells, hnc, storeCells]
theorem wp_append_srcN {P : Program} (w : World) {o : Oper} {a : Act} {K : Act → World → Prop} {Q : Exit → Act → World → Prop} (s x : Operand) (t : TypeId)
    (ho : o.op = .call { callee := .builtin .append, args := #[s, x], argTypes := #[t, t] })
    (base : Nat) (e : TypeId) (i : TypeInfo) (z : Value) (size bytes : Nat) (ht : P.underlying t = some (.slice e)) (hi : P.info? e = some i) (hz : i.zero = some z)
    (hsize : i.size = size) (hby : i.bytes = bytes) (hzs : z.cells.size = size) (hsz : 0 < size)
    (v : Value) (n : Nat) (xs : List Value) (hs : a.eval s = v) (hown : w.ownsRow base e size v n xs)
    (src : Value) (m : Nat) (news : List Value) (hx : a.eval x = src) (hsrc : SrcN w src size m news) (h1 : ∀ u ∈ news, u.oneCell' = true)
    (h63 : n + m ≤ maxLen) (hbytes : (n + m) * bytes ≤ 140737488355328) (hbase : base ≤ w.heap.size)
    (h : ∀ v' w', w'.ownsRow base e size v' (n + m) (xs ++ news) → w.grownBy w' v.ownBlock → (v'.ownBlock = v.ownBlock ∨ v'.ownBlock = some w.heap.size) → K (a.put o.dst v') w') :
    o.wp P a w K Q := by
  rcases hsrc with hsrc | ⟨c, rfl, rfl, rfl⟩
  · exact wp_append_src w s x t ho base e i z size bytes ht hi hz hsize hby hzs hsz v n xs hs hown src m news hx hsrc h1 h63 hbytes hbase h
  · have hr := run_append_noneC (P := P) (w := w) base t o.type e i size c ht hi v n xs hown
    unfold Oper.wp execOp
    simp only [ho, resolve, invoke, builtin, Sem.run_bind, Sem.run_pure, Result.andThen_ok, List.map_toArray, List.map_cons, List.map_nil, hs, hx, hr]
    exact h v w (by simpa using hown) (World.grownBy.refl w _) (.inl rfl)
theorem own_empty0 (t sz : Nat) (W : World) : (W.alloc (.cells #[] t)).ownsRow W.heap.size t sz (.slice (some ⟨W.heap.size, 0, none⟩) 0 0) 0 [] :=
  ⟨by simp, .inr ⟨W.heap.size, 0, #[], rfl, Nat.le_refl _, World.alloc_heap_new W _, Nat.le_refl _, Nat.zero_le _, by simp, by simp⟩⟩
theorem add_off (b o j : Nat) : (⟨b, o, none⟩ : Addr).add j = ⟨b, o + j, none⟩ := by
  unfold Addr.add
  split
  · rename_i h; subst h; rfl
  · rfl
theorem Qt.quiet {f : FuncId} {args : Array Value} {w : World} {n : Nat} {v : Value} (h : Calls Tryd.prog f args (w.drewN n) (Qt v (w.drewN n))) : Calls Tryd.prog f args (w.drewN n) fun e w'' => e = .returned v ∧ ∃ m, w'' = w.drewN m :=
  h.mono fun _ _ ⟨he, m, hm⟩ => ⟨he, n + m, by rw [hm, World.drewN_drewN]⟩
/-- The first k. -/
theorem head_res {n : Nat} {w : World} {v : Value} {rows : List (List Value)} (h : Arr n w v 3 rows) {k : Nat} (hk : k ≤ rows.length) :
    ∃ p c, (∀ X : World, (Instr.slice 22 v none (some (.int .i64 (k : Int))) none).run Tryd.prog X = .ok (.slice p (rows.take k).length c) X) ∧ Arr n w (.slice p (rows.take k).length c) 3 (rows.take k) := by
  obtain ⟨p0, cap, rfl, hc1, hc2, hall⟩ := h
  have ht : Tryd.prog.underlying 22 = some (.slice (Tryd.prog.elem 22)) := by simp [Program.elem, Tryd.underlying22]
  have he : Tryd.prog.elem 22 = 39 := by simp [Program.elem, Tryd.underlying22]
  have hlt : (rows.take k).length = k := by rw [List.length_take]; omega
  rw [hlt]
  have hrun : ∀ X : World, (Instr.slice 22 (.slice p0 rows.length cap) none (some (.int .i64 (k : Int))) none).run Tryd.prog X = .ok (sliced p0 0 k cap 3) X := fun X => by
    rw [run_slice_h X 22 _ _ _ ht .i64 _ (by omega) (by omega), he, Tryd.sizeOf39]
    simp [Result.andThen]
  unfold sliced at hrun
  refine ⟨_, _, hrun, _, cap - 0, by rw [hlt], by omega, by omega, fun hne => ?_⟩
  have hk0 : 0 < k := by
    rcases Nat.eq_zero_or_pos k with h1 | h1
    · subst h1; exact absurd rfl hne
    · exact h1
  obtain ⟨b, off, rfl, hb, hcell⟩ := hall (by intro h0; subst h0; simp at hk; omega)
  refine ⟨b, off, ?_, hb, fun i r hr j x hx => ?_⟩
  · rw [if_neg (by omega)]
    show some (Addr.add _ _) = _
    rw [add_off]; simp
  · have hi : i < (rows.take k).length := (List.getElem?_eq_some_iff.1 hr).1
    rw [List.getElem?_take_of_lt (by omega)] at hr
    exact hcell i r hr j x hx
/-- What is behind the first k. -/
theorem cut_res {n : Nat} {w : World} {v : Value} {rows : List (List Value)} (h : Arr n w v 3 rows) {k : Nat} (hk : k ≤ rows.length) :
    ∃ p c, (∀ X : World, (Instr.slice 22 v (some (.int .i64 (k : Int))) none none).run Tryd.prog X = .ok (.slice p (rows.drop k).length c) X) ∧ Arr n w (.slice p (rows.drop k).length c) 3 (rows.drop k) := by
  obtain ⟨p0, cap, rfl, hc1, hc2, hall⟩ := h
  have ht : Tryd.prog.underlying 22 = some (.slice (Tryd.prog.elem 22)) := by simp [Program.elem, Tryd.underlying22]
  have he : Tryd.prog.elem 22 = 39 := by simp [Program.elem, Tryd.underlying22]
  have hlt : (rows.drop k).length = rows.length - k := List.length_drop
  rw [hlt]
  have hrun : ∀ X : World, (Instr.slice 22 (.slice p0 rows.length cap) (some (.int .i64 (k : Int))) none none).run Tryd.prog X = .ok (sliced p0 k rows.length cap 3) X := fun X => by
    rw [run_slice_l X 22 _ _ _ ht .i64 _ (by omega) (by omega), he, Tryd.sizeOf39]
    simp [Result.andThen]
  unfold sliced at hrun
  refine ⟨_, _, hrun, _, cap - k, by rw [hlt], by omega, by omega, fun hne => ?_⟩
  have hk0 : k < rows.length := by
    rcases Nat.lt_or_ge k rows.length with h1 | h1
    · exact h1
    · exact absurd (List.drop_eq_nil_of_le h1) hne
  obtain ⟨b, off, rfl, hb, hcell⟩ := hall (by intro h0; subst h0; simp at hk0)
  refine ⟨b, off + k * 3, ?_, hb, fun i r hr j x hx => ?_⟩
  · rw [if_neg (by omega)]
    show some (Addr.add _ _) = _
    rw [add_off]
  · rw [List.getElem?_drop] at hr
    have := hcell (k + i) r hr j x hx
    rw [show off + k * 3 + i * 3 + j = off + (k + i) * 3 + j by omega]
    exact this
/-- Rows of results in a list of the call's own are a list of results. -/
theorem own_res {base n : Nat} {w w0 : World} {v : Value} {l : List Rs} {rows : List (List Value)} (h : w.ownsRow base 39 3 v rows.length rows.flatten) (hl : rows.length = l.length) (hr : ∀ (k : Nat) (row : List Value) (r : Rs), rows[k]? = some row → l[k]? = some r → RsRow n w0 r row) (hb : Below n w0 w) (hn : n ≤ w.heap.size) : IsRes w.heap.size w v l := by
  have h3 : ∀ r ∈ rows, r.length = 3 := fun r hr' => by
    obtain ⟨k, hk, rfl⟩ := List.getElem_of_mem hr'
    exact row_len (hr k _ _ (by simp) (List.getElem?_eq_getElem (by omega : k < l.length)))
  refine ⟨rows, ?_, hl, fun k row r a b => (hr k row r a b).mono hb hn⟩
  rcases h.2 with ⟨rfl, h0⟩ | ⟨g, cap, cur, rfl, hg, hh, hc1, hc2, hc3, hc4⟩
  · have : rows = [] := List.eq_nil_of_length_eq_zero h0
    subst this
    exact Arr.nil _ _ _
  · refine ⟨_, cap, rfl, hc1, hc2, fun _ => ⟨g, 0, rfl, (Array.getElem?_eq_some_iff.1 hh).1, fun k r hk j x hx => ?_⟩⟩
    have := World.ownsRow.cells h (g := g) rfl _ x (flatten_at h3 hk hx)
    rw [add_off] at this
    rw [Nat.zero_add] at this ⊢
    exact this
theorem rows_one {n : Nat} {w : World} {l : List Rs} {rows : List (List Value)} (hl : rows.length = l.length) (hr : ∀ (k : Nat) (row : List Value) (r : Rs), rows[k]? = some row → l[k]? = some r → RsRow n w r row) : (∀ r ∈ rows, r.length = 3) ∧ ∀ u ∈ rows.flatten, u.oneCell' = true := by
  have hm : ∀ r ∈ rows, ∃ x, RsRow n w x r := fun r hr' => by
    obtain ⟨k, hk, rfl⟩ := List.getElem_of_mem hr'
    exact ⟨l[k]'(by omega), hr k _ _ (by simp) (by simp)⟩
  refine ⟨fun r h => row_len (hm r h).choose_spec, fun u hu => ?_⟩
  obtain ⟨r, h, hu⟩ := List.mem_flatten.1 hu
  exact row_one (hm r h).choose_spec u hu
theorem SrcN.labs {n : Nat} {w : World} {p : Option Addr} {c : Nat} {l : List Lab} (h : IsLabs n w (.slice p l.length c) l) : SrcN w (.slice p l.length c) 2 l.length (flat l) := by
  have h1 : Arr n w (.slice p (l.map Lab.cells).length c) 2 (l.map Lab.cells) := by rw [List.length_map]; exact h.1
  have := SrcN.of_arr h1 (labs_len l) (by decide)
  rw [List.length_map] at this
  exact this
/-! ### what the insertion says -/
def StrictR (o : List Rs) : Prop := o.Pairwise fun a b => orderL a.labs b.labs < 0
/-- What has been put so far. -/
structure InsR (l o : List Rs) (i : Nat) : Prop where
  perm : o.Perm (l.take i)
  rise : StrictR o
theorem InsR.len {l o : List Rs} {i : Nat} (h : InsR l o i) (hi : i ≤ l.length) : o.length = i := by
  rw [h.perm.length_eq, List.length_take]; omega
theorem InsR.step {l o : List Rs} {i k : Nat} {x : Rs} (h : InsR l o i) (hx : l[i]? = some x) (h1 : ∀ r ∈ o.take k, orderL r.labs x.labs < 0) (h2 : ∀ r, o[k]? = some r → orderL x.labs r.labs < 0) : InsR l (o.take k ++ x :: o.drop k) (i + 1) := by
  refine ⟨(ins_perm o x k).trans ?_, ins_rise h.rise h1 h2⟩
  rw [List.take_add_one, hx]
  refine (List.Perm.cons x h.perm).trans ?_
  exact (List.perm_append_singleton x (l.take i)).symm
theorem InsR.dup {l o : List Rs} {i k : Nat} {x r : Rs} (h : InsR l o i) (hx : l[i]? = some x) (hr : o[k]? = some r) (he : orderL r.labs x.labs = 0) : ¬ (l.map Rs.labs).Nodup := by
  intro hn
  have he' := orderL_zero.1 he
  have hmem : r ∈ l.take i := h.perm.subset (List.mem_of_getElem? hr)
  obtain ⟨j, hj, hj2⟩ := List.getElem_of_mem hmem
  rw [List.length_take] at hj
  rw [List.getElem_take] at hj2
  have hil := (List.getElem?_eq_some_iff.1 hx).1
  have hp := List.pairwise_iff_getElem.1 hn j i (by rw [List.length_map]; omega) (by rw [List.length_map]; exact hil) (by omega)
  rw [List.getElem_map, List.getElem_map] at hp
  apply hp
  rw [hj2, he']
  rw [List.getElem?_eq_getElem hil] at hx
  cases hx; rfl
theorem InsR.done {l o : List Rs} (h : InsR l o l.length) (hl : l.length ≤ 4096) (hb : anyBad l = false) : SortQ l o 0 := by
  have hp := h.perm
  rw [List.take_length] at hp
  refine .inr (.inr ⟨hl, hb, .inl ⟨o, hp, ?_, rfl, rfl⟩⟩)
  refine strict_check (by rw [hp.length_eq]; omega) (fun r hr => ?_) h.rise
  unfold anyBad at hb
  have := List.any_eq_false.1 hb r (hp.subset hr)
  simpa using this
end Go.Proofs.YtgmdlnobajmjfaaDoor
