/- The table while a series is put: one part after the other. No walk here. -/
import Derived.Test.YtkheeiipkdeihaaNt8
namespace Go.Proofs.Ytkheeiipkdeihaa
open Go.RowKit
set_option linter.unusedSimpArgs false
set_option linter.unusedVariables false
open Go.Maps

/-- The table while its parts stand for different lists of series. -/
structure TabX (Fr : Nat → Prop) (w : World) (g : Nat) (T1 T2 T3 : List Sr) (c : Nat) (lv : Value) (hb hm hx : Nat) (G F : Nat → Prop) : Prop where
  blk : Blk w g 59 (tabC lv hb hm hx)
  rows : RowsM w lv T1
  by_ : ByM w hb c T2
  met : MetM w hm c T3 G
  idx : IdxM F c w hx
  ne : hb ≠ hm
  fb : ¬ F hb ∧ ¬ F hm ∧ ¬ F g
  gf : ∀ k, G k → ¬ F k
  lf : ∀ k, lv.ownBlock = some k → ¬ F k
  fr : Fr g ∧ Fr hb ∧ Fr hm ∧ (∀ k, lv.ownBlock = some k → Fr k) ∧ (∀ k, G k → Fr k) ∧ ∀ k, F k → Fr k
  gl : ∀ k, G k → k < w.heap.size
  fl : ∀ k, F k → k < w.heap.size
  fn : NoLab F w
section
variable {Fr G F : Nat → Prop} {w w' : World} {g c hb hm hx : Nat} {T T1 T2 T3 : List Sr} {lv : Value}
theorem TabAt.x (h : TabAt Fr w g T c lv hb hm hx G F) {Fr' : Nat → Prop} (hFr : ∀ k, Fr k → Fr' k) : TabX Fr' w g T T T c lv hb hm hx G F := by
  obtain ⟨f1, f2, f3, f4, f5, f6⟩ := h.fr
  exact ⟨h.blk, h.rows, h.by_, h.met, h.idx, h.ne, h.fb, h.gf, h.lf, ⟨hFr _ f1, hFr _ f2, hFr _ f3, fun k hk => hFr _ (f4 k hk), fun k hk => hFr _ (f5 k hk), fun k hk => hFr _ (f6 k hk)⟩, fun k hk => h.lt k (f5 k hk), fun k hk => h.lt k (f6 k hk), h.fn⟩
theorem NoLab.off {M : Nat → Prop} (h : NoLab F w) (ho : OffM M w w') (hM : ∀ k, F k → ¬ M k) (hl : ∀ k, F k → k < w.heap.size) : NoLab F w' := fun k hk cur e => h k hk cur (by rw [← ho.block k (hl k hk) (hM k hk)]; exact e)
theorem mapNe {t : Nat} {w : World} {R : Rd} {b n k : Nat} {D : DataW Unit} {cur : Array Value} {fr : Nat × Nat} (h : MapS w R b n D) (hk : w.heap[k]? = some (.cells cur t fr)) : k ≠ b := by
  rintro rfl
  obtain ⟨es, ck, h1, -⟩ := h
  rw [h1] at hk
  cases hk
theorem ByM.map (h : ByM w hb c T) : ∃ es ck, w.heap[hb]? = some (.map es ck) := by
  obtain ⟨D, ⟨es, ck, h1, -⟩, -⟩ := h
  exact ⟨es, ck, h1⟩
theorem MetM.map (h : MetM w hm c T G) : ∃ es ck, w.heap[hm]? = some (.map es ck) := by
  obtain ⟨D, mv, ⟨es, ck, h1, -⟩, -⟩ := h
  exact ⟨es, ck, h1⟩
theorem IdxM.map (h : IdxM F c w hx) : ∃ es ck, w.heap[hx]? = some (.map es ck) := by
  obtain ⟨-, m, D, -, es, ck, h1, -⟩ := h
  exact ⟨es, ck, h1⟩
theorem own_cells {base t n sz : Nat} {v : Value} {xs : List Value} (h : w.ownsRow base t sz v n xs) {k : Nat} (hk : v.ownBlock = some k) : ∃ cur, w.heap[k]? = some (.cells cur t (0, 0)) := by
  rcases h.2 with ⟨rfl, -⟩ | ⟨g, cap, cur, rfl, hg, hh, -⟩
  · cases hk
  · simp [Value.ownBlock] at hk
    subst hk
    exact ⟨cur, hh⟩
theorem RowsM.cells (h : RowsM w lv T) {k : Nat} (hk : lv.ownBlock = some k) : ∃ cur, w.heap[k]? = some (.cells cur 33 (0, 0)) := by
  obtain ⟨rows, hr, -⟩ := h
  exact own_cells hr hk
/-- Fresh blocks alone. -/
theorem TabX.keep (h : TabX Fr w g T1 T2 T3 c lv hb hm hx G F) (hb' : Below w.heap.size w w') : TabX Fr w' g T1 T2 T3 c lv hb hm hx G F := by
  have ho : OffM (fun _ => False) w w' := OffM.of hb'
  exact ⟨h.blk.keep hb', h.rows.offM ho (fun _ _ m => m) (fun _ m => m.elim), h.by_.offM ho (fun m => m), h.met.offM ho (fun m => m) (fun k cur _ m => m.elim), h.idx.offM ho (fun _ _ m => m), h.ne, h.fb, h.gf, h.lf, h.fr, fun k hk => Nat.lt_of_lt_of_le (h.gl k hk) ho.size, fun k hk => Nat.lt_of_lt_of_le (h.fl k hk) ho.size, h.fn.off ho (fun _ _ m => m) h.fl⟩
/-- The rows grow; the table's first cell turns. -/
theorem TabX.row (h : TabX Fr w g T T2 T3 c lv hb hm hx G F) {lv' : Value} (ho : OffM (fun k => lv.ownBlock = some k ∨ k = g) w w') (hb' : Blk w' g 59 (tabC lv' hb hm hx)) {T' : List Sr} (hr : RowsM w' lv' T')
    (hlv : ∀ k, lv'.ownBlock = some k → lv.ownBlock = some k ∨ (Fr k ∧ ¬ F k)) : TabX Fr w' g T' T2 T3 c lv' hb hm hx G F := by
  obtain ⟨f1, f2, f3, f4, f5, f6⟩ := h.fr
  have hg : w.heap[g]? = some (.cells (tabC lv hb hm hx).toArray 59 (0, 0)) := h.blk
  have key : ∀ {k : Nat} {es : Array MapEntry} {ck : Nat}, w.heap[k]? = some (.map es ck) → ¬ (lv.ownBlock = some k ∨ k = g) := fun {k es ck} hk e => by
    rcases e with e | rfl
    · obtain ⟨cur, hc⟩ := h.rows.cells e
      rw [hk] at hc; cases hc
    · rw [hk] at hg; cases hg
  obtain ⟨e1, k1, m1⟩ := h.by_.map
  obtain ⟨e2, k2, m2⟩ := h.met.map
  have hFM : ∀ k, F k → ¬ (lv.ownBlock = some k ∨ k = g) := fun k hF e => by
    rcases e with e | rfl
    · exact h.lf k e hF
    · exact h.fb.2.2 hF
  refine ⟨hb', hr, h.by_.offM ho (key m1), h.met.offM ho (key m2) (fun k cur _ e hh => ?_), h.idx.offM ho (fun k hF e => ?_), h.ne, h.fb, h.gf, fun k hk => ?_, ⟨f1, f2, f3, fun k hk => ?_, f5, f6⟩, fun k hk => Nat.lt_of_lt_of_le (h.gl k hk) ho.size, fun k hk => Nat.lt_of_lt_of_le (h.fl k hk) ho.size, h.fn.off ho hFM h.fl⟩
  · rcases e with e | rfl
    · obtain ⟨cur2, hc⟩ := h.rows.cells e
      rw [hh] at hc
      simp at hc
    · rw [hh] at hg
      simp at hg
  · rcases e with e | rfl
    · exact h.lf k e hF
    · exact h.fb.2.2 hF
  · rcases hlv k hk with e | ⟨-, e⟩
    · exact h.lf k e
    · exact e
  · rcases hlv k hk with e | ⟨e, -⟩
    · exact f4 k e
    · exact e
/-- The map of keys grows. -/
theorem TabX.by2 (h : TabX Fr w g T1 T2 T3 c lv hb hm hx G F) {T' : List Sr} (ho : w.grownBy w' (some hb)) (hB : ByM w' hb (c + 1) T') : TabX Fr w' g T1 T' T3 (c + 1) lv hb hm hx G F := by
  obtain ⟨e1, k1, m1⟩ := h.by_.map
  have hof := OffM.grown ho
  have hlab : NoLab (fun k => some hb = some k) w := fun k e cur hk => by
    cases e
    rw [m1] at hk; cases hk
  have hg : w.heap[g]? = some (.cells (tabC lv hb hm hx).toArray 59 (0, 0)) := h.blk
  refine ⟨(hof.block g h.blk.lt (fun e => ?_)).trans h.blk, h.rows.offM hof (fun k hk e => ?_) hlab, hB, (h.met.offM hof (fun e => ?_) (fun k cur _ e hh => ?_)).mono (by omega), ?_, h.ne, h.fb, h.gf, h.lf, h.fr, fun k hk => Nat.lt_of_lt_of_le (h.gl k hk) hof.size, fun k hk => Nat.lt_of_lt_of_le (h.fl k hk) hof.size, h.fn.off hof (fun k hF e => h.fb.1 (by cases e; exact hF)) h.fl⟩
  · cases e; rw [m1] at hg; cases hg
  · cases e
    obtain ⟨cur, hc⟩ := h.rows.cells hk
    rw [m1] at hc; cases hc
  · exact h.ne (Option.some.inj e)
  · cases e; rw [m1] at hh; cases hh
  · obtain ⟨h0, m, D, hm', hO⟩ := h.idx.offM hof (fun k hF e => h.fb.1 (by cases e; exact hF))
    exact ⟨h0, m, D, by omega, by
      refine OutM.shape hO h0 (fun _ h => h) (by omega) (fun _ _ _ _ _ => rfl) (fun k cur _ hh => ⟨cur, hh, rfl⟩)⟩
/-- The map of metrics grows, and one of its lists. -/
theorem TabX.met3 (h : TabX Fr w g T1 T2 T3 c lv hb hm hx G F) {T' : List Sr} {G' : Nat → Prop} {w4 : World} {v : Value} {n : Nat} {xs : List Value} (hv : w.ownsRow 0 3 1 v n xs) (hvG : ∀ k, v.ownBlock = some k → G k) (ho4 : OffM (fun k => v.ownBlock = some k) w w4) (ho : w4.grownBy w' (some hm)) (hM : MetM w' hm (c + 1) T' G')
    (hG : ∀ k, G' k → G k ∨ (Fr k ∧ ¬ F k)) (hGl : ∀ k, G' k → k < w'.heap.size) : TabX Fr w' g T1 T2 T' (c + 1) lv hb hm hx G' F := by
  obtain ⟨f1, f2, f3, f4, f5, f6⟩ := h.fr
  obtain ⟨e1, k1, m1⟩ := h.by_.map
  obtain ⟨e2, k2, m2⟩ := h.met.map
  have hg : w.heap[g]? = some (.cells (tabC lv hb hm hx).toArray 59 (0, 0)) := h.blk
  have hof : OffM (fun k => v.ownBlock = some k ∨ k = hm) w w' := (ho4.more (fun _ _ e => .inl e)).trans (OffM.grown ho) (fun k _ e => .inr (by cases e; rfl))
  have hcell : ∀ {k : Nat} {cur : Array Value} {t : Nat}, w.heap[k]? = some (.cells cur t (0, 0)) → t ≠ 3 → ¬ (v.ownBlock = some k ∨ k = hm) := fun {k cur t} hk ht e => by
    rcases e with e | rfl
    · obtain ⟨cur2, hc⟩ := own_cells hv e
      rw [hk] at hc
      simp at hc
      exact ht hc.2
    · rw [m2] at hk; cases hk
  have hFM : ∀ k, F k → ¬ (v.ownBlock = some k ∨ k = hm) := fun k hF e => by
    rcases e with e | rfl
    · exact h.gf k (hvG k e) hF
    · exact h.fb.2.1 hF
  refine ⟨(hof.block g h.blk.lt (hcell hg (by decide))).trans h.blk, h.rows.offM hof (fun k hk => ?_) (fun k e cur hk => hcell hk (by decide) e), (h.by_.offM hof (fun e => ?_)).mono (by omega), hM, ?_, h.ne, h.fb, fun k hk => ?_, h.lf, ⟨f1, f2, f3, f4, fun k hk => ?_, f6⟩, hGl, fun k hk => Nat.lt_of_lt_of_le (h.fl k hk) hof.size, h.fn.off hof hFM h.fl⟩
  · obtain ⟨cur, hc⟩ := h.rows.cells hk
    exact hcell hc (by decide)
  · rcases e with e | e
    · obtain ⟨cur2, hc⟩ := own_cells hv e
      rw [m1] at hc; cases hc
    · exact h.ne e
  · obtain ⟨h0, m, D, hm', hO⟩ := h.idx.offM hof (fun k hF e => by
      rcases e with e | rfl
      · exact h.gf k (hvG k e) hF
      · exact h.fb.2.1 hF)
    exact ⟨h0, m, D, by omega, OutM.shape hO h0 (fun _ h => h) (by omega) (fun _ _ _ _ _ => rfl) (fun k cur _ hh => ⟨cur, hh, rfl⟩)⟩
  · rcases hG k hk with e | ⟨-, e⟩
    · exact h.gf k e
    · exact e
  · rcases hG k hk with e | ⟨e, -⟩
    · exact f5 k e
    · exact e
/-- The index turns. -/
theorem TabX.idx4 (h : TabX Fr w g T1 T2 T3 c lv hb hm hx G F) {F' : Nat → Prop} {c' : Nat} (hc : c ≤ c') (ho : OffM F w w') (hI : IdxM F' c' w' hx) (hF : ∀ k, F' k → F k ∨ (Fr k ∧ w.heap.size ≤ k)) (hFl : ∀ k, F' k → k < w'.heap.size) (hFn : NoLab F' w') : TabX Fr w' g T1 T2 T3 c' lv hb hm hx G F' := by
  obtain ⟨f1, f2, f3, f4, f5, f6⟩ := h.fr
  have hof := OffM.refl F w
  have hnew : ∀ k, k < w.heap.size → ¬ F k → ¬ F' k := fun k hk hn e => by
    rcases hF k e with e | ⟨-, e⟩
    · exact hn e
    · omega
  have hlv : ∀ k, lv.ownBlock = some k → k < w.heap.size := fun k hk => by
    obtain ⟨cur, hc⟩ := h.rows.cells hk
    exact (Array.getElem?_eq_some_iff.1 hc).1
  refine ⟨(ho.block g h.blk.lt h.fb.2.2).trans h.blk, h.rows.offM ho h.lf h.fn, (h.by_.offM ho h.fb.1).mono hc, (h.met.offM ho h.fb.2.1 (fun k cur hG hF' => absurd hF' (h.gf k hG))).mono hc, hI, h.ne, ⟨hnew hb h.by_.lt h.fb.1, hnew hm h.met.lt h.fb.2.1, hnew g h.blk.lt h.fb.2.2⟩, fun k hk => hnew k (h.gl k hk) (h.gf k hk), fun k hk => hnew k (hlv k hk) (h.lf k hk), ⟨f1, f2, f3, f4, f5, fun k hk => ?_⟩, fun k hk => Nat.lt_of_lt_of_le (h.gl k hk) ho.size, hFl, hFn⟩
  rcases hF k hk with e | ⟨e, -⟩
  · exact f6 k e
  · exact e
theorem nolab_make {Z0 w8 : World} (h : NoLab F w) (hl : ∀ k, F k → k < w.heap.size) (hb : Below w.heap.size w Z0) (hg : (Z0.alloc (.map #[] 0)).grownBy w8 (some hx)) (hm : ∃ es ck, w8.heap[hx]? = some (.map es ck)) : NoLab (fun k => F k ∨ k = Z0.heap.size) w8 := fun k hk cur e => by
  have hsz : (Z0.alloc (.map #[] 0)).heap.size = Z0.heap.size + 1 := World.size_alloc _ _
  by_cases hkx : k = hx
  · subst hkx
    obtain ⟨es, ck, h1⟩ := hm
    rw [h1] at e; cases e
  · have hne : some k ≠ some hx := fun e => hkx (Option.some.inj e)
    rcases hk with hk | rfl
    · have h1 := hl k hk
      have h2 := hb.size
      rw [hg.block k (by omega) hne] at e
      have h3 := ((Below.refl Z0.heap.size Z0).alloc (Nat.le_refl _) (.map #[] 0)).block k (by omega)
      rw [h3, hb.block k h1] at e
      exact h k hk cur e
    · rw [hg.block _ (by omega) hne] at e
      rw [show (Z0.alloc (.map #[] 0)).heap[Z0.heap.size]? = some (.map #[] 0) from (MapKept.heap_alloc Z0 _).1] at e
      cases e
theorem nolab_app {Z1 w6 w8 : World} {v v6 : Value} {b : Nat} (h : NoLab F w) (hl : ∀ k, F k → k < w.heap.size) (hb : Below w.heap.size w Z1) (hg : Z1.grownBy w6 v.ownBlock) (hg8 : w6.grownBy w8 (some b)) (hm : ∃ es ck, w8.heap[b]? = some (.map es ck))
    (hrow : ∀ k cur, F k → Z1.heap[k]? = some (.cells cur 3 (0, 0)) → ∃ cur' : Array Value, w6.heap[k]? = some (.cells cur' 3 (0, 0)) ∧ cur'.size = cur.size) (hv : ∀ k, v.ownBlock = some k → F k ∧ ∃ cur, Z1.heap[k]? = some (.cells cur 3 (0, 0)))
    (hv6 : ∀ k, v6.ownBlock = some k → (F k ∨ k = Z1.heap.size) ∧ ∃ cur, w6.heap[k]? = some (.cells cur 3 (0, 0))) : NoLab (fun k => F k ∨ v6.ownBlock = some k) w8 := fun k hk cur e => by
  have key : k < w6.heap.size → (∀ cur, w6.heap[k]? ≠ some (.cells cur 63 (0, 0))) → False := fun hlt hne => by
    by_cases hkb : k = b
    · subst hkb
      obtain ⟨es, ck, h1⟩ := hm
      rw [h1] at e; cases e
    · rw [hg8.block k hlt (fun e => hkb (Option.some.inj e))] at e
      exact hne cur e
  rcases hk with hk | hk
  · have h1 := hl k hk
    have h2 := hb.size
    have h3 := hg.size
    refine key (by omega) (fun cur2 e2 => ?_)
    by_cases hkv : v.ownBlock = some k
    · obtain ⟨hF, cur3, hc⟩ := hv k hkv
      obtain ⟨cur4, hc4, -⟩ := hrow k cur3 hF hc
      rw [hc4] at e2
      simp at e2
    · rw [hg.block k (by omega) (fun e => hkv e.symm), hb.block k h1] at e2
      exact h k hk cur2 e2
  · obtain ⟨-, cur3, hc⟩ := hv6 k hk
    refine key (Array.getElem?_eq_some_iff.1 hc).1 (fun cur2 e2 => ?_)
    rw [hc] at e2
    simp at e2
theorem TabX.fin (h : TabX Fr w g T T T c lv hb hm hx G F) (hT : ∀ s ∈ T, okS s = 0) {c' : Nat} (hc : c ≤ c') : TabM (fun k => Fr k ∧ k < w.heap.size) w g T c' := by
  obtain ⟨f1, f2, f3, f4, f5, f6⟩ := h.fr
  have hlv : ∀ k, lv.ownBlock = some k → k < w.heap.size := fun k hk => by
    obtain ⟨cur, hc⟩ := h.rows.cells hk
    exact (Array.getElem?_eq_some_iff.1 hc).1
  obtain ⟨h0, m, D, hm', hO⟩ := h.idx
  exact ⟨lv, hb, hm, hx, G, F, h.blk, h.rows, h.by_.mono hc, h.met.mono hc, ⟨h0, m, D, by omega, OutM.shape hO h0 (fun _ h => h) hc (fun _ _ _ _ _ => rfl) (fun k cur _ hh => ⟨cur, hh, rfl⟩)⟩, h.ne, h.fb, h.gf, h.lf,
    ⟨⟨f1, h.blk.lt⟩, ⟨f2, h.by_.lt⟩, ⟨f3, h.met.lt⟩, fun k hk => ⟨f4 k hk, hlv k hk⟩, fun k hk => ⟨f5 k hk, h.gl k hk⟩, fun k hk => ⟨f6 k hk, h.fl k hk⟩⟩, fun k hk => hk.2, hT, h.fn⟩
end
end Go.Proofs.Ytkheeiipkdeihaa
