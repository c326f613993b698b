/- The table in memory: rows of series, keys, lists of a metric, index. No walk here. -/
import Derived.Test.YtkheeiipkdeihaaNt6
namespace Go.Proofs.Ytkheeiipkdeihaa
open Go.RowKit
set_option linter.unusedSimpArgs false
set_option linter.unusedVariables false
open Go.Maps

def NoLab (M : Nat → Prop) (w : World) : Prop := ∀ k, M k → ∀ cur, w.heap[k]? ≠ some (.cells cur 63 (0, 0))
theorem OwnL.offM {base : Nat} {w w' : World} {v : Value} {l : List Lab} {M : Nat → Prop} (h : OwnL base w v l) (ho : OffM M w w') (hN : NoLab M w) : OwnL base w' v l :=
  ownsRow_offM h ho (fun k hk hM => by
    rcases h.2 with ⟨rfl, -⟩ | ⟨g, cap, cur, rfl, hg, hh, -⟩
    · cases hk
    · simp [Value.ownBlock] at hk
      subst hk
      exact hN g hM cur hh)
/-! ### rows -/
def SrRow (w : World) (s : Sr) (row : List Value) : Prop := ∃ v, row = [.string s.metric, v] ∧ OwnL 0 w v s.labs
def RowsM (w : World) (lv : Value) (T : List Sr) : Prop := ∃ rows : List (List Value), w.ownsRow 0 33 2 lv T.length rows.flatten ∧ rows.length = T.length ∧ ∀ (k : Nat) (row : List Value) (s : Sr), rows[k]? = some row → T[k]? = some s → SrRow w s row
theorem RowsM.offM {w w' : World} {lv : Value} {T : List Sr} {M : Nat → Prop} (h : RowsM w lv T) (ho : OffM M w w') (h1 : ∀ k, lv.ownBlock = some k → ¬ M k) (hN : NoLab M w) : RowsM w' lv T := by
  obtain ⟨rows, hr, hl, hrow⟩ := h
  refine ⟨rows, ownsRow_offM hr ho h1, hl, fun k row s a b => ?_⟩
  obtain ⟨v, e, hL⟩ := hrow k row s a b
  exact ⟨v, e, hL.offM ho hN⟩
theorem RowsM.len3 {w : World} {T : List Sr} {rows : List (List Value)} (hl : rows.length = T.length) (hrow : ∀ (k : Nat) (row : List Value) (s : Sr), rows[k]? = some row → T[k]? = some s → SrRow w s row) : ∀ r ∈ rows, r.length = 2 := fun r hr => by
  obtain ⟨k, hk, rfl⟩ := List.getElem_of_mem hr
  have hkT : k < T.length := by omega
  obtain ⟨v, e, -⟩ := hrow k rows[k] T[k] (List.getElem?_eq_getElem hk) (List.getElem?_eq_getElem hkT)
  rw [e]; rfl
theorem RowsM.slice {w : World} {lv : Value} {T : List Sr} (h : RowsM w lv T) : ∃ A cap, lv = .slice A T.length cap := by
  obtain ⟨rows, hr, -, -⟩ := h
  exact ownsRow_slice hr
theorem RowsM.get {w : World} {A : Option Addr} {n cap : Nat} {T : List Sr} (h : RowsM w (.slice A n cap) T) {k : Nat} {s : Sr} (hk : T[k]? = some s) :
    ∃ b v, A = some ⟨b, 0, none⟩ ∧ b < w.heap.size ∧ w.cell? ⟨b, k * 2, none⟩ = some (.string s.metric) ∧ w.cell? ⟨b, k * 2 + 1, none⟩ = some v ∧ OwnL 0 w v s.labs := by
  obtain ⟨rows, hr, hl, hrow⟩ := h
  have h2 := RowsM.len3 hl hrow
  have hkl := (List.getElem?_eq_some_iff.1 hk).1
  obtain ⟨row, hrk⟩ : ∃ r, rows[k]? = some r := ⟨_, List.getElem?_eq_getElem (by omega)⟩
  obtain ⟨v, e, hL⟩ := hrow k row s hrk hk
  rcases hr.2 with ⟨-, h0⟩ | ⟨b, cp, cur, hv, -, hh, -⟩
  · omega
  · have hv' := hv
    cases hv
    refine ⟨b, v, rfl, (Array.getElem?_eq_some_iff.1 hh).1, ?_, ?_, hL⟩
    · have := World.ownsRow.cells hr (g := b) rfl _ (.string s.metric) (flatten_at h2 hrk (j := 0) (by rw [e]; rfl))
      rw [add_off] at this
      simpa using this
    · have := World.ownsRow.cells hr (g := b) rfl _ v (flatten_at h2 hrk (j := 1) (by rw [e]; rfl))
      rw [add_off] at this
      simpa using this
/-! ### keys -/
def keyB (s : Sr) : ByteArray := ⟨(keyS s).toArray⟩
theorem keyB_data (s : Sr) : (keyB s).data.toList = keyS s := by simp [keyB]
theorem keyB_size {s : Sr} (h : okS s = 0) : (keyB s).size ≤ maxLen := by
  have h1 := keyS_len (okS_fit h)
  have h2 : (keyB s).size = (keyS s).length := by simp [keyB, ByteArray.size]
  rw [h2]
  unfold maxLen
  omega
theorem keyB_ne {s t : Sr} (hs : okS s = 0) (ht : okS t = 0) (h : s ≠ t) : keyB s ≠ keyB t := by
  intro e
  have := congrArg (fun b => b.data.toList) e
  simp only [keyB_data] at this
  exact h (keyS_inj (okS_fit hs) (okS_fit ht) this)
noncomputable def intR : Rd := plainElem Try.prog 3
theorem intR_mk {a : Int} (h : i64 a) : intR (.int .i64 a) = some (.lit (.int .i64 a), []) := plainElem_int Try.underlying3 (by
  obtain ⟨h1, h2⟩ := h
  simp [Lit.wf, IntKind.min, IntKind.max, IntKind.signed, IntKind.bits]
  omega)
theorem intR_inv {v : Value} {a : Int} {ps : List MemPlace} (h : intR v = some (.lit (.int .i64 a), ps)) : v = .int .i64 a := by
  obtain ⟨b, rfl, hz, -⟩ := plainElem_int_inv Try.underlying3 h
  simp at hz
  rw [hz.1]
def ByM (w : World) (hb n : Nat) (T : List Sr) : Prop := ∃ D, MapS w intR hb n D ∧ ∀ s, okS s = 0 → has D (.string (keyB s).data.toList) = (idxS s T).isSome ∧ D.atKey (.string (keyB s).data.toList) (.lit (.int .i64 0)) = .lit (.int .i64 (idS T s))
theorem ByM.offM {w w' : World} {hb n : Nat} {T : List Sr} {M : Nat → Prop} (h : ByM w hb n T) (ho : OffM M w w') (hM : ¬ M hb) : ByM w' hb n T := by
  obtain ⟨D, h1, h2⟩ := h
  exact ⟨D, h1.offM ho hM, h2⟩
theorem ByM.mono {w : World} {hb n n' : Nat} {T : List Sr} (h : ByM w hb n T) (hn : n ≤ n') : ByM w hb n' T := by
  obtain ⟨D, h1, h2⟩ := h
  exact ⟨D, World.ownsMap.mono h1 hn, h2⟩
theorem ByM.lt {w : World} {hb n : Nat} {T : List Sr} (h : ByM w hb n T) : hb < w.heap.size := by
  obtain ⟨D, h1, -⟩ := h
  exact h1.lt
theorem ByM.look {w : World} {hb n : Nat} {T : List Sr} (h : ByM w hb n T) {s : Sr} (hs : okS s = 0) :
    (Instr.lookup 27 (.map (some hb)) (.string (keyB s)) true).run Try.prog w = .ok (.tuple #[.int .i64 (idS T s), .bool (idxS s T).isSome]) w := by
  obtain ⟨D, h1, h2⟩ := h
  obtain ⟨v, ps, hrun, hR⟩ := World.ownsMap.look_ok h1 keyedS Try.underlying27 (Try.zeroValue3 w) (zd := .lit (.int .i64 0)) (zp := []) (intR_mk (by constructor <;> decide)) (keyS_mk (keyB_size hs))
  obtain ⟨e1, e2⟩ := h2 s hs
  rw [e2] at hR
  rw [hrun, e1, intR_inv hR]
theorem ByM.look1 {w : World} {hb n : Nat} {T : List Sr} (h : ByM w hb n T) {s : Sr} (hs : okS s = 0) :
    ∀ w' : World, w'.heap[hb]? = w.heap[hb]? → (Instr.lookup 27 (.map (some hb)) (.string (keyB s)) false).run Try.prog w' = .ok (.int .i64 (idS T s)) w' := fun w' hb' => by
  obtain ⟨D, h1, h2⟩ := h
  obtain ⟨v, ps, hrun, hR⟩ := World.ownsMap.lookup (h1.turn hb' (fun _ _ e => e)) keyedS Try.underlying27 (Try.zeroValue3 w') (zd := .lit (.int .i64 0)) (zp := []) (intR_mk (by constructor <;> decide)) (keyS_mk (keyB_size hs))
  rw [(h2 s hs).2] at hR
  rw [hrun, intR_inv hR]
theorem idS_snoc {T : List Sr} {s : Sr} (hj : idxS s T = none) (t : Sr) : idS (T ++ [s]) t = if t = s then (T.length : Int) + 1 else idS T t := by
  unfold idS
  rw [idxS_snoc]
  by_cases h : t = s
  · subst h
    rw [hj, if_pos rfl]; simp
  · rw [if_neg h]
    cases idxS t T with
    | some j => rfl
    | none =>
      have : ¬ s = t := fun e => h e.symm
      simp [this]
theorem isSome_snoc {T : List Sr} {s : Sr} (t : Sr) : (idxS t (T ++ [s])).isSome = (decide (t = s) || (idxS t T).isSome) := by
  rw [idxS_snoc]
  cases idxS t T with
  | some j => simp
  | none =>
    by_cases h : s = t
    · simp [h]
    · have : ¬ t = s := fun e => h e.symm
      simp [h, this]
theorem ByM.put {w : World} {hb n : Nat} {T : List Sr} (h : ByM w hb n T) (hn : n < 1000000) {s : Sr} (hs : okS s = 0) (hj : idxS s T = none) (hT : T.length ≤ 100000) :
    ∃ w', (Instr.mapUpdate 27 (.map (some hb)) (.string (keyB s)) (.int .i64 ((T.length : Int) + 1))).run Try.prog w = .ok () w' ∧ ByM w' hb (n + 1) (T ++ [s]) ∧ w.grownBy w' (some hb) := by
  obtain ⟨D, h1, h2⟩ := h
  obtain ⟨w', hrun, hM, hg⟩ := MapS.store Try.underlying27 h1 hn (keyB_size hs) (intR_mk (a := (T.length : Int) + 1) (by constructor <;> omega))
  refine ⟨w', hrun, ⟨_, hM, fun t ht => ?_⟩, hg⟩
  rw [idS_snoc hj, isSome_snoc]
  by_cases e : t = s
  · subst e
    rw [if_pos rfl]
    refine ⟨?_, at_same h1.isMap (keyB_size hs) _ _⟩
    rw [has_put_same h1.isMap (keyedS.key (keyS_mk (keyB_size hs)))]
    simp
  · rw [if_neg e]
    refine ⟨?_, ?_⟩
    · rw [has_put_other (lit_ne (keyB_ne ht hs e)), (h2 t ht).1]
      simp [e]
    · rw [at_other (keyB_ne ht hs e), (h2 t ht).2]
/-! ### lists of a metric -/
def MetM (w : World) (hm n : Nat) (T : List Sr) (G : Nat → Prop) : Prop := ∃ (D : DataW Unit) (mv : ByteArray → Value), MapS w sliceE hm n D ∧ (∀ m, m.size ≤ maxLen → sliceE (mv m) = some (D.atKey (.string m.data.toList) .nil, [])) ∧
  (∀ m, OwnI 3 0 w (mv m) (idsOf m T)) ∧ (∀ m k, (mv m).ownBlock = some k → G k) ∧ ∀ m m' k, m ≠ m' → (mv m).ownBlock = some k → (mv m').ownBlock ≠ some k
theorem MetM.mono {w : World} {hm n n' : Nat} {T : List Sr} {G : Nat → Prop} (h : MetM w hm n T G) (hn : n ≤ n') : MetM w hm n' T G := by
  obtain ⟨D, mv, h1, h2⟩ := h
  exact ⟨D, mv, World.ownsMap.mono h1 hn, h2⟩
theorem MetM.lt {w : World} {hm n : Nat} {T : List Sr} {G : Nat → Prop} (h : MetM w hm n T G) : hm < w.heap.size := by
  obtain ⟨D, mv, h1, -⟩ := h
  exact h1.lt
theorem MetM.offM {w w' : World} {hm n : Nat} {T : List Sr} {G M : Nat → Prop} (h : MetM w hm n T G) (ho : OffM M w w') (hM : ¬ M hm) (hG : ∀ k cur, G k → M k → w.heap[k]? ≠ some (.cells cur 3 (0, 0))) : MetM w' hm n T G := by
  obtain ⟨D, mv, h1, h2, h3, h4, h5⟩ := h
  refine ⟨D, mv, h1.offM ho hM, h2, fun m => ?_, h4, h5⟩
  have h0 := h3 m
  refine OwnI.offM h0 ho (fun k hk hMk => ?_)
  rcases h0.2 with ⟨e, -⟩ | ⟨g, cap, cur, e, -, hh, -⟩
  · rw [e] at hk; cases hk
  · have hk' := hk
    rw [e] at hk'
    simp [Value.ownBlock] at hk'
    subst hk'
    exact hG g cur (h4 m g hk) hMk hh
theorem MetM.look {w : World} {hm n : Nat} {T : List Sr} {G : Nat → Prop} (h : MetM w hm n T G) {m : ByteArray} (hs : m.size ≤ maxLen) :
    ∃ v, OwnI 3 0 w v (idsOf m T) ∧ (∀ k, v.ownBlock = some k → G k) ∧ (∀ w' : World, w'.heap[hm]? = w.heap[hm]? → (Instr.lookup 56 (.map (some hm)) (.string m) false).run Try.prog w' = .ok v w') ∧
      (∀ (w4 : World) (v3 : Value) (s : Sr), s.metric = m → n < 1000000 → OffM (fun k => v.ownBlock = some k) w w4 → OwnI 3 0 w4 v3 (idsOf m T ++ [(T.length : Int) + 1]) → (v3.ownBlock = v.ownBlock ∨ ∃ g, v3.ownBlock = some g ∧ w.heap.size ≤ g) →
        ∃ w5, (Instr.mapUpdate 56 (.map (some hm)) (.string m) v3).run Try.prog w4 = .ok () w5 ∧ MetM w5 hm (n + 1) (T ++ [s]) (fun k => G k ∨ v3.ownBlock = some k) ∧ w4.grownBy w5 (some hm)) := by
  obtain ⟨D, mv, h1, h2, h3, h4, h5⟩ := h
  obtain ⟨v, ps, hR, hrun⟩ := MapS.look Try.underlying56 (fun W => Try.zeroValue39 W) (fun v v' d ps ps' e e' => sliceE_inj e e') (zd := .nil) (zp := []) rfl h1 hs
  have hv : v = mv m := sliceE_inj hR (h2 m hs)
  subst hv
  refine ⟨mv m, h3 m, h4 m, hrun, fun w4 v3 s hsm hn ho h6 h7 => ?_⟩
  subst hsm
  obtain ⟨es, ck, hhm, -⟩ := id h1
  have hne : ¬ (mv s.metric).ownBlock = some hm := fun e => by
    rcases (h3 s.metric).2 with ⟨e', -⟩ | ⟨g, cap, cur, e', -, hh, -⟩
    · rw [e'] at e; cases e
    · rw [e'] at e
      simp [Value.ownBlock] at e
      subst e
      rw [hhm] at hh
      cases hh
  have h1' := h1.offM ho hne
  obtain ⟨d, hd⟩ := own_sliceE h6
  obtain ⟨w5, hrun5, hM5, hg5⟩ := MapS.store Try.underlying56 h1' hn hs hd
  obtain ⟨es4, ck4, hhm4, -⟩ := id h1'
  have hown5 : ∀ {v : Value} {l : List Int}, OwnI 3 0 w4 v l → OwnI 3 0 w5 v l := fun {v l} h => OwnI.offM h (OffM.grown hg5) (fun k hk e => by
    cases e
    rcases h.2 with ⟨e', -⟩ | ⟨g, cap, cur, e', -, hh, -⟩
    · rw [e'] at hk; cases hk
    · rw [e'] at hk
      simp [Value.ownBlock] at hk
      subst hk
      rw [hhm4] at hh
      cases hh)
  obtain ⟨mw, hmw⟩ : ∃ f : ByteArray → Value, ∀ m', f m' = if m' = s.metric then v3 else mv m' := ⟨_, fun _ => rfl⟩
  refine ⟨w5, hrun5, ⟨_, mw, hM5, fun m' hm' => ?_, fun m' => ?_, fun m' k hk => ?_, fun a b k hab hka => ?_⟩, hg5⟩
  · by_cases e : m' = s.metric
    · subst e
      rw [hmw, if_pos rfl, at_same h1'.isMap hs]
      exact hd
    · rw [hmw, if_neg e, at_other e]
      exact h2 m' hm'
  · rw [idsOf_snoc, hmw]
    by_cases e : m' = s.metric
    · subst e
      rw [if_pos rfl, if_pos rfl]
      exact hown5 h6
    · rw [if_neg e, if_neg (fun e' => e e'.symm), List.append_nil]
      exact hown5 (OwnI.offM (h3 m') ho (fun k hk hk' => h5 m' s.metric k e hk hk'))
  · by_cases e : m' = s.metric
    · rw [hmw, if_pos e] at hk
      exact .inr hk
    · rw [hmw, if_neg e] at hk
      exact .inl (h4 m' k hk)
  · have hold : ∀ m' k, (mv m').ownBlock = some k → k < w.heap.size := fun m' k hk => (ownsRow_block (h3 m') k hk).2
    rw [hmw] at hka ⊢
    by_cases ea : a = s.metric <;> by_cases eb : b = s.metric
    · exact absurd (ea.trans eb.symm) hab
    · rw [if_pos ea] at hka
      rw [if_neg eb]
      rcases h7 with h7 | ⟨g, h7, hg⟩
      · rw [h7] at hka
        exact h5 s.metric b k (fun e => eb e.symm) hka
      · rw [h7] at hka
        cases hka
        intro e
        have := hold b _ e
        omega
    · rw [if_neg ea] at hka
      rw [if_pos eb]
      rcases h7 with h7 | ⟨g, h7, hg⟩
      · rw [h7]
        exact h5 a s.metric k ea hka
      · rw [h7]
        intro e
        cases e
        have := hold a _ hka
        omega
    · rw [if_neg ea] at hka
      rw [if_neg eb]
      exact h5 a b k hab hka
/-! ### one more row -/
theorem RowsM.own {w : World} {lv : Value} {T : List Sr} (h : RowsM w lv T) : ∃ xs, w.ownsRow 0 33 2 lv T.length xs ∧
    ∀ (M : Nat → Prop) (w' : World) (v' : Value) (s : Sr) (v : Value), w'.ownsRow 0 33 2 v' (T.length + 1) (xs ++ [.string s.metric, v]) → OffM M w w' → NoLab M w → OwnL 0 w' v s.labs → RowsM w' v' (T ++ [s]) := by
  obtain ⟨rows, hr, hl, hrow⟩ := h
  refine ⟨_, hr, fun M w' v' s v ho hoff hN hL => ⟨rows ++ [[.string s.metric, v]], ?_, by simp [hl], fun k row t a b => ?_⟩⟩
  · rw [List.length_append, List.flatten_append]
    simpa using ho
  · rcases Nat.lt_or_ge k rows.length with hk | hk
    · rw [List.getElem?_append_left hk] at a
      rw [List.getElem?_append_left (by omega)] at b
      obtain ⟨u, e, hu⟩ := hrow k row t a b
      exact ⟨u, e, hu.offM hoff hN⟩
    · have hke : k = rows.length := by
        have := (List.getElem?_eq_some_iff.1 a).1
        simp at this
        omega
      subst hke
      rw [List.getElem?_append_right (Nat.le_refl _), Nat.sub_self] at a
      rw [List.getElem?_append_right (by omega), hl, Nat.sub_self] at b
      simp at a b
      subst a b
      exact ⟨v, rfl, hL⟩
/-! ### the table -/
def tabC (lv : Value) (hb hm hx : Nat) : List Value := [lv, .map (some hb), .map (some hm), .map (some hx)]
structure TabAt (Fr : Nat → Prop) (w : World) (g : Nat) (T : List Sr) (c : Nat) (lv : Value) (hb hm hx : Nat) (G F : Nat → Prop) : Prop where
  blk : Blk w g 59 (tabC lv hb hm hx)
  rows : RowsM w lv T
  by_ : ByM w hb c T
  met : MetM w hm c T G
  idx : IdxM F c w hx
  ne : hb ≠ hm
  fb : ¬ F hb ∧ ¬ F hm ∧ ¬ F g
  gf : ∀ k, G k → ¬ F k
  lf : ∀ k, lv.ownBlock = some k → ¬ F k
  fr : Fr g ∧ Fr hb ∧ Fr hm ∧ (∀ k, lv.ownBlock = some k → Fr k) ∧ (∀ k, G k → Fr k) ∧ ∀ k, F k → Fr k
  lt : ∀ k, Fr k → k < w.heap.size
  good : ∀ s ∈ T, okS s = 0
  fn : NoLab F w
def TabM (Fr : Nat → Prop) (w : World) (g : Nat) (T : List Sr) (c : Nat) : Prop := ∃ lv hb hm hx G F, TabAt Fr w g T c lv hb hm hx G F
/-- What turns is no part of the table. -/
theorem TabAt.offM {Fr M G F : Nat → Prop} {w w' : World} {g c hb hm hx : Nat} {T : List Sr} {lv : Value} (h : TabAt Fr w g T c lv hb hm hx G F) (ho : OffM M w w') (hM : ∀ k, M k → ¬ Fr k) (hN : NoLab M w) : TabAt Fr w' g T c lv hb hm hx G F := by
  obtain ⟨f1, f2, f3, f4, f5, f6⟩ := h.fr
  exact ⟨(ho.block g h.blk.lt (fun m => hM g m f1)).trans h.blk, h.rows.offM ho (fun k hk m => hM k m (f4 k hk)) hN, h.by_.offM ho (fun m => hM hb m f2), h.met.offM ho (fun m => hM hm m f3) (fun k cur hG m => absurd (f5 k hG) (hM k m)),
    h.idx.offM ho (fun k hF m => hM k m (f6 k hF)), h.ne, h.fb, h.gf, h.lf, h.fr, fun k hk => Nat.lt_of_lt_of_le (h.lt k hk) ho.size, h.good, fun k hk cur e => h.fn k hk cur (by rw [← ho.block k (h.lt k (f6 k hk)) (fun m => hM k m (f6 k hk))]; exact e)⟩
theorem TabAt.keep {Fr G F : Nat → Prop} {w w' : World} {g c hb hm hx : Nat} {T : List Sr} {lv : Value} (h : TabAt Fr w g T c lv hb hm hx G F) (hb' : Below w.heap.size w w') : TabAt Fr w' g T c lv hb hm hx G F :=
  h.offM (M := fun _ => False) (OffM.of hb') (fun _ m => m.elim) (fun _ m => m.elim)
theorem TabM.offM {Fr M : Nat → Prop} {w w' : World} {g c : Nat} {T : List Sr} (h : TabM Fr w g T c) (ho : OffM M w w') (hM : ∀ k, M k → ¬ Fr k) (hN : NoLab M w) : TabM Fr w' g T c := by
  obtain ⟨lv, hb, hm, hx, G, F, h⟩ := h
  exact ⟨lv, hb, hm, hx, G, F, h.offM ho hM hN⟩
theorem TabM.keep {Fr : Nat → Prop} {w w' : World} {g c : Nat} {T : List Sr} (h : TabM Fr w g T c) (hb' : Below w.heap.size w w') : TabM Fr w' g T c := by
  obtain ⟨lv, hb, hm, hx, G, F, h⟩ := h
  exact ⟨lv, hb, hm, hx, G, F, h.keep hb'⟩
end Go.Proofs.Ytkheeiipkdeihaa
