/- The table's maps in memory: what is looked up, put; what stands when other blocks turn. No walk here. -/
import Derived.Test.YtkheeiipkdeihaaSrg
import Derived.Test.YtkheeiipkdeihaaNt0
import Derived.Test.YtkheeiipkdeihaaProg
import Derived.Maps.Views
import Derived.Maps.OwnSet
import Derived.MapViews
import Derived.StringKeys
namespace Go.Proofs.Ytkheeiipkdeihaa
open Go.RowKit
set_option linter.unusedSimpArgs false
set_option linter.unusedVariables false
open Go.Maps

abbrev Rd := Value → Option (DataW Unit × List MemPlace)
theorem keyedS : Keyed Try.prog 9 := string_keyed Try.underlying9
theorem keyS_mk {s : ByteArray} (hs : s.size ≤ maxLen) : keyOf Try.prog 9 (.string s) = some (.string s.data.toList) := Go.WideMaps.keyOf_string_mk Try.underlying9 hs
def MapS (w : World) (R : Rd) (b n : Nat) (D : DataW Unit) : Prop := w.ownsMap Try.prog 9 R b n D
theorem MapS.turn {w w' : World} {R R' : Rd} {b n : Nat} {D : DataW Unit} (h : MapS w R b n D) (hb : w'.heap[b]? = w.heap[b]?) (hR : ∀ v z, R v = some z → R' v = some z) : MapS w' R' b n D := by
  obtain ⟨es, clock, h1, F, hs, rfl⟩ := h
  obtain ⟨F1, hmap, _⟩ := F.stay (fun x _ z hz => hR _ z hz)
  exact ⟨es, clock, hb.trans h1, F1, hs, by rw [hmap]⟩
theorem MapS.lt {w : World} {R : Rd} {b n : Nat} {D : DataW Unit} (h : MapS w R b n D) : b < w.heap.size := World.ownsMap.lt h
theorem MapS.offM {w w' : World} {R : Rd} {b n : Nat} {D : DataW Unit} {M : Nat → Prop} (h : MapS w R b n D) (ho : OffM M w w') (hM : ¬ M b) : MapS w' R b n D := h.turn (ho.block b h.lt hM) (fun _ _ e => e)
theorem MapS.isMap {w : World} {R : Rd} {b n : Nat} {D : DataW Unit} (h : MapS w R b n D) : IsMap D := World.ownsMap.isMap h
/-- What is looked up, in whatever world that has the map as it is. -/
theorem MapS.look {t e : Nat} (ht : Try.prog.underlying t = some (.map 9 e)) {z : Value} (hz : ∀ W, (zeroValue e).run Try.prog W = .ok z W) {w : World} {R : Rd} (inj : ∀ v v' d ps ps', R v = some (d, ps) → R v' = some (d, ps') → v = v') {zd : DataW Unit} {zp : List MemPlace} (hzd : R z = some (zd, zp)) {b n : Nat} {D : DataW Unit} (h : MapS w R b n D) {s : ByteArray} (hs : s.size ≤ maxLen) :
    ∃ v ps, R v = some (D.atKey (.string s.data.toList) zd, ps) ∧ ∀ w' : World, w'.heap[b]? = w.heap[b]? → (Instr.lookup t (.map (some b)) (.string s) false).run Try.prog w' = .ok v w' := by
  obtain ⟨v, ps, -, hR⟩ := World.ownsMap.lookup h keyedS ht (hz w) hzd (keyS_mk hs)
  refine ⟨v, ps, hR, fun w' hb => ?_⟩
  obtain ⟨v', ps', hrun, hR'⟩ := World.ownsMap.lookup (h.turn hb (fun _ _ e => e)) keyedS ht (hz w') hzd (keyS_mk hs)
  rw [hrun, inj v v' _ _ _ hR hR']
theorem MapS.store {t e : Nat} (ht : Try.prog.underlying t = some (.map 9 e)) {w : World} {R : Rd} {b n : Nat} {D : DataW Unit} (h : MapS w R b n D) (hn : n < 1000000) {s : ByteArray} (hs : s.size ≤ maxLen) {val : Value} {d : DataW Unit} {ps : List MemPlace} (hv : R val = some (d, ps)) :
    ∃ w', (Instr.mapUpdate t (.map (some b)) (.string s) val).run Try.prog w = .ok () w' ∧ MapS w' R b (n + 1) (D.put (.string s.data.toList) d) ∧ w.grownBy w' (some b) :=
  World.ownsMap.update h keyedS ht (by unfold maxLen; omega) (keyS_mk hs) hv
theorem at_same {D : DataW Unit} (h : IsMap D) {s : ByteArray} (hs : s.size ≤ maxLen) (d z : DataW Unit) : (D.put (.string s.data.toList) d).atKey (.string s.data.toList) z = d := atKey_put_same h (keyedS.key (keyS_mk hs)) d z
theorem lit_ne {s s' : ByteArray} (h : s' ≠ s) : (Lit.string s'.data.toList) ≠ .string s.data.toList := by
  intro e
  apply h
  obtain ⟨⟨a⟩⟩ := s
  obtain ⟨⟨b⟩⟩ := s'
  simp at e
  rw [e]
theorem at_other {D : DataW Unit} {s s' : ByteArray} (h : s' ≠ s) (d z : DataW Unit) : (D.put (.string s.data.toList) d).atKey (.string s'.data.toList) z = D.atKey (.string s'.data.toList) z := atKey_put_other (lit_ne h) d z

/-! ### slices of numbers as elements -/
def sliceE : Rd
  | .slice none 0 0 => some (.nil, [])
  | .slice (some ⟨b, 0, none⟩) n c => some (.agg [.lit (.int .i64 b), .lit (.int .i64 n), .lit (.int .i64 c)], [])
  | _ => none
theorem sliceE_inj {v v' : Value} {d : DataW Unit} {ps ps' : List MemPlace} (h : sliceE v = some (d, ps)) (h' : sliceE v' = some (d, ps')) : v = v' := by
  unfold sliceE at h h'
  split at h
  · simp at h
    obtain ⟨rfl, -⟩ := h
    split at h'
    · rfl
    · simp at h'
    · cases h'
  · rename_i b n c
    simp at h
    obtain ⟨rfl, -⟩ := h
    split at h'
    · simp at h'
    · rename_i b' n' c'
      simp at h'
      obtain ⟨⟨h1, h2, h3⟩, -⟩ := h'
      have e1 := Int.ofNat_inj.1 h1; have e2 := Int.ofNat_inj.1 h2; have e3 := Int.ofNat_inj.1 h3
      subst e1 e2 e3
      rfl
    · cases h'
  · cases h
theorem own_sliceE {base t n : Nat} {w : World} {v : Value} {xs : List Value} (h : w.ownsRow base t 1 v n xs) : ∃ d, sliceE v = some (d, []) := by
  rcases h.2 with ⟨rfl, -⟩ | ⟨g, cap, cur, rfl, -⟩
  · exact ⟨_, rfl⟩
  · exact ⟨_, rfl⟩
/-! ### the index: each list safe to append to -/
def SafeI (F : Nat → Prop) (c : Nat) (w : World) (v : Value) : Prop :=
  v = .slice none 0 0 ∨ ∃ (g n cap : Nat) (cur : Array Value), v = .slice (some ⟨g, 0, none⟩) n cap ∧ F g ∧ w.heap[g]? = some (.cells cur 3 (0, 0)) ∧ n ≤ cap ∧ cap ≤ maxLen ∧ cur.size = cap * 1 ∧ n ≤ c
theorem SafeI.own {F : Nat → Prop} {c : Nat} {w : World} {v : Value} (h : SafeI F c w v) : ∃ n xs, n ≤ c ∧ w.ownsRow 0 3 1 v n xs := by
  rcases h with rfl | ⟨g, n, cap, cur, rfl, hF, hh, h1, h2, h3, h4⟩
  · exact ⟨0, [], Nat.zero_le _, World.ownsRow_nil _ _ _ _⟩
  · refine ⟨n, cur.toList.take (n * 1), h4, ?_, .inr ⟨g, cap, cur, rfl, Nat.zero_le _, hh, h1, h2, h3, rfl⟩⟩
    rw [List.length_take, Array.length_toList]
    omega
noncomputable def RSafe (F : Nat → Prop) (c : Nat) (w : World) : Rd := fun v => by
  classical
  exact if SafeI F c w v then sliceE v else none
theorem RSafe_iff {F : Nat → Prop} {c : Nat} {w : World} {v : Value} {z : DataW Unit × List MemPlace} : RSafe F c w v = some z ↔ SafeI F c w v ∧ sliceE v = some z := by
  classical
  unfold RSafe
  by_cases h : SafeI F c w v <;> simp [h]
def InnM (F : Nat → Prop) (c : Nat) (w : World) (b : Nat) : Prop := ∃ m D, m ≤ c ∧ MapS w (RSafe F c w) b m D
noncomputable def RMp (p : Nat → Prop) : Rd := fun v => by
  classical
  exact match v with
  | .map none => some (.nil, [])
  | .map (some b) => if p b then some (.lit (.int .i64 b), []) else none
  | _ => none
theorem RMp_none {p : Nat → Prop} : RMp p (.map none) = some (.nil, []) := rfl
theorem RMp_some {p : Nat → Prop} {b : Nat} (h : p b) : RMp p (.map (some b)) = some (.lit (.int .i64 b), []) := by
  classical
  unfold RMp
  simp [h]
theorem RMp_inv {p : Nat → Prop} {v : Value} {z : DataW Unit × List MemPlace} (h : RMp p v = some z) : (v = .map none ∧ z = (.nil, [])) ∨ ∃ b, v = .map (some b) ∧ p b ∧ z = (.lit (.int .i64 b), []) := by
  classical
  unfold RMp at h
  split at h
  · exact .inl ⟨rfl, by simpa using h.symm⟩
  · rename_i b
    split at h
    · rename_i hp
      exact .inr ⟨b, rfl, hp, by simpa using h.symm⟩
    · cases h
  · cases h
theorem RMp_inj {p : Nat → Prop} (v v' : Value) (d : DataW Unit) (ps ps' : List MemPlace) (h : RMp p v = some (d, ps)) (h' : RMp p v' = some (d, ps')) : v = v' := by
  rcases RMp_inv h with ⟨rfl, e⟩ | ⟨b, rfl, -, e⟩ <;> rcases RMp_inv h' with ⟨rfl, e'⟩ | ⟨b', rfl, -, e'⟩
  · rfl
  · simp at e e'; rw [e.1] at e'; simp at e'
  · simp at e e'; rw [e.1] at e'; simp at e'
  · simp at e e'
    rw [e.1] at e'
    simp at e'
    have := Int.ofNat_inj.1 e'.1
    rw [this]
def OutP (F : Nat → Prop) (c : Nat) (w : World) (hx : Nat) (b : Nat) : Prop := b ≠ hx ∧ F b ∧ InnM F c w b
def OutM (F : Nat → Prop) (c : Nat) (w : World) (hx m : Nat) (D : DataW Unit) : Prop := MapS w (RMp (OutP F c w hx)) hx m D
def IdxM (F : Nat → Prop) (c : Nat) (w : World) (hx : Nat) : Prop := F hx ∧ ∃ m D, m ≤ c ∧ OutM F c w hx m D
theorem RMp_mono {p q : Nat → Prop} (h : ∀ b, p b → q b) (v : Value) (z : DataW Unit × List MemPlace) (e : RMp p v = some z) : RMp q v = some z := by
  rcases RMp_inv e with ⟨rfl, rfl⟩ | ⟨b, rfl, hb, rfl⟩
  · exact RMp_none
  · exact RMp_some (h b hb)
theorem SafeI.off {F F' : Nat → Prop} {c c' : Nat} {w w' : World} {v : Value} (h : SafeI F c w v) (hF : ∀ k, F k → F' k) (hc : c ≤ c') (hb : ∀ k cur, F k → w.heap[k]? = some (.cells cur 3 (0, 0)) → ∃ cur' : Array Value, w'.heap[k]? = some (.cells cur' 3 (0, 0)) ∧ cur'.size = cur.size) : SafeI F' c' w' v := by
  rcases h with rfl | ⟨g, n, cap, cur, rfl, h0, hh, h1, h2, h3, h4⟩
  · exact .inl rfl
  · obtain ⟨cur', e1, e2⟩ := hb g cur h0 hh
    exact .inr ⟨g, n, cap, cur', rfl, hF g h0, e1, h1, h2, by rw [e2]; exact h3, by omega⟩
/-- Nothing of the index turns. -/
theorem InnM.keep {F : Nat → Prop} {c c' : Nat} {w w' : World} {b : Nat} (h : InnM F c w b) (hc : c ≤ c') (hF : F b) (hb : ∀ k, k < w.heap.size → F k → w'.heap[k]? = w.heap[k]?) : InnM F c' w' b := by
  obtain ⟨m, D, hm, hM⟩ := h
  refine ⟨m, D, by omega, hM.turn (hb b hM.lt hF) (fun v z e => ?_)⟩
  obtain ⟨e1, e2⟩ := RSafe_iff.1 e
  refine RSafe_iff.2 ⟨e1.off (fun _ h => h) hc (fun k cur hk hh => ⟨cur, ?_, rfl⟩), e2⟩
  rw [hb k (Array.getElem?_eq_some_iff.1 hh).1 hk]; exact hh
theorem OutM.keep {F : Nat → Prop} {c : Nat} {w w' : World} {hx m : Nat} {D : DataW Unit} (h : OutM F c w hx m D) (hF : F hx) (hb : ∀ k, k < w.heap.size → F k → w'.heap[k]? = w.heap[k]?) : OutM F c w' hx m D :=
  h.turn (hb hx h.lt hF) (fun v z e => RMp_mono (fun b ⟨h1, h2, h3⟩ => ⟨h1, h2, h3.keep (Nat.le_refl _) h2 hb⟩) v z e)
theorem IdxM.keep {F : Nat → Prop} {c : Nat} {w w' : World} {hx : Nat} (h : IdxM F c w hx) (hb : ∀ k, k < w.heap.size → F k → w'.heap[k]? = w.heap[k]?) : IdxM F c w' hx := by
  obtain ⟨h0, m, D, hm, hO⟩ := h
  exact ⟨h0, m, D, hm, hO.keep h0 hb⟩
theorem IdxM.offM {F M : Nat → Prop} {c : Nat} {w w' : World} {hx : Nat} (h : IdxM F c w hx) (ho : OffM M w w') (hM : ∀ k, F k → ¬ M k) : IdxM F c w' hx := h.keep (fun k hk hF => ho.block k hk (hM k hF))
/-- A map of a name is made and put. -/
theorem idx_make {F : Nat → Prop} {c : Nat} {w : World} {hx m : Nat} {D : DataW Unit} (h : OutM F c w hx m D) (hF : F hx) (hm : m < 1000000) {s : ByteArray} (hs : s.size ≤ maxLen) :
    ∃ w2, (Instr.mapUpdate 57 (.map (some hx)) (.string s) (.map (some w.heap.size))).run Try.prog (w.alloc (.map #[] 0)) = .ok () w2 ∧
      OutM (fun k => F k ∨ k = w.heap.size) c w2 hx (m + 1) (D.put (.string s.data.toList) (.lit (.int .i64 w.heap.size))) ∧ (w.alloc (.map #[] 0)).grownBy w2 (some hx) := by
  have hlt := h.lt
  have hb1 : Below w.heap.size w (w.alloc (.map #[] 0)) := (Below.refl _ _).alloc (Nat.le_refl _) _
  have hk1 : OutM F c (w.alloc (.map #[] 0)) hx m D := h.keep hF (fun k hk _ => hb1.block k hk)
  have hne : w.heap.size ≠ hx := by omega
  have hnew : InnM (fun k => F k ∨ k = w.heap.size) c (w.alloc (.map #[] 0)) w.heap.size := ⟨0, _, Nat.zero_le _, World.ownsMap_made w Try.prog 9 _⟩
  have hk2 : OutM (fun k => F k ∨ k = w.heap.size) c (w.alloc (.map #[] 0)) hx m D := hk1.turn rfl (fun v z e => RMp_mono (fun b ⟨h1, h2, h3⟩ => ⟨h1, .inl h2, by
    obtain ⟨m', D', hm', hM⟩ := h3
    exact ⟨m', D', hm', hM.turn rfl (fun v z e => by
      obtain ⟨e1, e2⟩ := RSafe_iff.1 e
      exact RSafe_iff.2 ⟨e1.off (fun _ h => .inl h) (Nat.le_refl _) (fun k cur _ hh => ⟨cur, hh, rfl⟩), e2⟩)⟩⟩) v z e)
  obtain ⟨w2, hrun, hM, hg⟩ := MapS.store Try.underlying57 hk2 hm hs (val := .map (some w.heap.size)) (d := .lit (.int .i64 w.heap.size)) (ps := []) (RMp_some ⟨hne, .inr rfl, hnew⟩)
  refine ⟨w2, hrun, ?_, hg⟩
  have hsz : (w.alloc (.map #[] 0)).heap.size = w.heap.size + 1 := World.size_alloc _ _
  have hcell : ∀ (b : Nat), b < (w.alloc (.map #[] 0)).heap.size → b ≠ hx → w2.heap[b]? = (w.alloc (.map #[] 0)).heap[b]? := fun b hb hne' => hg.block b hb (fun e => hne' (by cases e; rfl))
  obtain ⟨es, ck, hhx, -⟩ := id hk2
  refine hM.turn rfl (fun v z e => RMp_mono (fun b ⟨h1, h2, h3⟩ => ⟨h1, h2, ?_⟩) v z e)
  obtain ⟨m', D', hm', hM'⟩ := h3
  refine ⟨m', D', hm', hM'.turn (hcell b hM'.lt h1) (fun v z e => ?_)⟩
  obtain ⟨e1, e2⟩ := RSafe_iff.1 e
  refine RSafe_iff.2 ⟨e1.off (fun _ h => h) (Nat.le_refl _) (fun k cur _ hh => ⟨cur, ?_, rfl⟩), e2⟩
  have hkx : k ≠ hx := by
    rintro rfl
    rw [hhx] at hh
    cases hh
  rw [hcell k (Array.getElem?_eq_some_iff.1 hh).1 hkx]; exact hh
end Go.Proofs.Ytkheeiipkdeihaa
