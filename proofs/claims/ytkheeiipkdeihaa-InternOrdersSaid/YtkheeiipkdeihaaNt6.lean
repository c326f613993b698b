/- The index: an append to one of its lists, put back; the table's rows, keys and lists of a metric. No walk here. -/
import Derived.Test.YtkheeiipkdeihaaNt5
import Derived.Test.YtkheeiipkdeihaaLa6
namespace Go.Proofs.Ytkheeiipkdeihaa
open Go.RowKit
set_option linter.unusedSimpArgs false
set_option linter.unusedVariables false
open Go.Maps

theorem OutM.shape {F F' : Nat → Prop} {c c' : Nat} {w w' : World} {hx m : Nat} {D : DataW Unit} (h : OutM F c w hx m D) (hF : F hx) (hFF : ∀ k, F k → F' k) (hc : c ≤ c')
    (hmap : ∀ k es ck, F k → w.heap[k]? = some (.map es ck) → w'.heap[k]? = w.heap[k]?) (hrow : ∀ k cur, F k → w.heap[k]? = some (.cells cur 3 (0, 0)) → ∃ cur' : Array Value, w'.heap[k]? = some (.cells cur' 3 (0, 0)) ∧ cur'.size = cur.size) : OutM F' c' w' hx m D := by
  have hmb : ∀ {R : Rd} {b n : Nat} {D : DataW Unit}, MapS w R b n D → F b → w'.heap[b]? = w.heap[b]? := fun hM hb => by
    obtain ⟨es, ck, h1, -⟩ := hM
    exact hmap _ es ck hb h1
  refine h.turn (hmb h hF) (fun v z e => RMp_mono (fun b ⟨h1, h2, h3⟩ => ⟨h1, hFF b h2, ?_⟩) v z e)
  obtain ⟨m', D', hm', hM⟩ := h3
  refine ⟨m', D', by omega, hM.turn (hmb hM h2) (fun v z e => ?_)⟩
  obtain ⟨e1, e2⟩ := RSafe_iff.1 e
  exact RSafe_iff.2 ⟨e1.off hFF hc hrow, e2⟩
theorem OutM.inner {F : Nat → Prop} {c : Nat} {w : World} {hx m b : Nat} {D : DataW Unit} (h : OutM F c w hx m D) {s : ByteArray} (hs : s.size ≤ maxLen) (hat : D.atKey (.string s.data.toList) .nil = .lit (.int .i64 b)) :
    OutP F c w hx b ∧ ∀ w' : World, w'.heap[hx]? = w.heap[hx]? → (Instr.lookup 57 (.map (some hx)) (.string s) false).run Try.prog w' = .ok (.map (some b)) w' := by
  obtain ⟨v, ps, hR, hrun⟩ := MapS.look Try.underlying57 (fun W => Try.zeroValue56 W) RMp_inj (zd := .nil) (zp := []) RMp_none h hs
  rw [hat] at hR
  rcases RMp_inv hR with ⟨-, e⟩ | ⟨b', rfl, hp, e⟩
  · simp at e
  · simp at e
    have := Int.ofNat_inj.1 e.1
    subst this
    exact ⟨hp, hrun⟩
theorem OutM.at {F : Nat → Prop} {c : Nat} {w : World} {hx m : Nat} {D : DataW Unit} (h : OutM F c w hx m D) {s : ByteArray} (hs : s.size ≤ maxLen) :
    (D.atKey (.string s.data.toList) .nil = .nil ∧ ∀ w' : World, w'.heap[hx]? = w.heap[hx]? → (Instr.lookup 57 (.map (some hx)) (.string s) false).run Try.prog w' = .ok (.map none) w') ∨
    ∃ b : Nat, D.atKey (.string s.data.toList) .nil = .lit (.int .i64 b) := by
  obtain ⟨v, ps, hR, hrun⟩ := MapS.look Try.underlying57 (fun W => Try.zeroValue56 W) RMp_inj (zd := .nil) (zp := []) RMp_none h hs
  rcases RMp_inv hR with ⟨rfl, e⟩ | ⟨b', rfl, hp, e⟩
  · simp at e
    exact .inl ⟨e.1, hrun⟩
  · simp at e
    exact .inr ⟨b', e.1⟩
theorem InnM.look {F : Nat → Prop} {c : Nat} {w : World} {b : Nat} (h : InnM F c w b) {s : ByteArray} (hs : s.size ≤ maxLen) :
    ∃ v, SafeI F c w v ∧ ∀ w' : World, w'.heap[b]? = w.heap[b]? → (Instr.lookup 56 (.map (some b)) (.string s) false).run Try.prog w' = .ok v w' := by
  obtain ⟨m, D, hm, hM⟩ := h
  obtain ⟨v, ps, hR, hrun⟩ := MapS.look Try.underlying56 (fun W => Try.zeroValue39 W) (fun v v' d ps ps' e e' => sliceE_inj (RSafe_iff.1 e).2 (RSafe_iff.1 e').2) (zd := .nil) (zp := []) (RSafe_iff.2 ⟨.inl rfl, rfl⟩) hM hs
  exact ⟨v, (RSafe_iff.1 hR).1, hrun⟩
theorem infoInt : (Try.prog.info? 3).map (fun i => (i.zero, i.size, i.bytes)) = some (some (.int .i64 0), 1, 8) := by kernel_rfl
/-- One number behind a list of the index. -/
theorem safe_app {F : Nat → Prop} {c : Nat} {w : World} {v : Value} {g : Nat} {x : Int} (h : SafeI F c w v) (hg : w.cell? ⟨g, 0, none⟩ = some (.int .i64 x)) (hc : c ≤ 100000) (ty : Nat) :
    ∃ v' w', (Builtin.append_ #[39, 39] ty #[v, .slice (some ⟨g, 0, none⟩) 1 1]).run Try.prog w = .ok v' w' ∧ w.grownBy w' v.ownBlock ∧ SafeI (fun k => F k ∨ v'.ownBlock = some k) (c + 1) w' v' ∧
      (∀ k cur, F k → w.heap[k]? = some (.cells cur 3 (0, 0)) → ∃ cur' : Array Value, w'.heap[k]? = some (.cells cur' 3 (0, 0)) ∧ cur'.size = cur.size) ∧
      (∀ k, v.ownBlock = some k → F k ∧ ∃ cur, w.heap[k]? = some (.cells cur 3 (0, 0))) ∧ (∀ k, v'.ownBlock = some k → (F k ∨ k = w.heap.size) ∧ ∃ cur, w'.heap[k]? = some (.cells cur 3 (0, 0))) := by
  obtain ⟨i0, hi, hz0, hz1, hz2⟩ := info_parts infoInt
  obtain ⟨n, xs, hn, hown⟩ := h.own
  have hrow : ∀ k, v.ownBlock = some k → F k ∧ ∃ cur, w.heap[k]? = some (.cells cur 3 (0, 0)) := fun k hk => by
    rcases h with rfl | ⟨g1, n1, cap, cur, rfl, h0, hh, h1, h2, h3, h4⟩
    · cases hk
    · simp [Value.ownBlock] at hk
      subst hk
      exact ⟨h0, cur, hh⟩
  obtain ⟨v', w', hrun, ho, hgr, hcase⟩ := run_append_own_cap (P := Try.prog) (w := w) 0 39 ty 3 i0 (.int .i64 0) 1 8 Try.underlying39 hi hz0 hz1 hz2 rfl (by decide) v n xs hown ⟨g, 0, none⟩ 1 1 (by decide) [.int .i64 x] rfl
    (by intro j u hj
        match j, hj with
        | 0, hj => simp at hj; subst hj; simpa [Addr.add] using hg
        | j + 1, hj => simp at hj) (by intro u hu; simp at hu; subst hu; rfl) (by unfold maxLen; omega) (by omega) (Nat.zero_le _)
  refine ⟨v', w', hrun, hgr, ?_, ?_, hrow, fun k hk => ?_⟩
  · rcases ho.2 with ⟨-, h0⟩ | ⟨g1, cap, cur, rfl, -, hh, h1, h2, h3, -⟩
    · omega
    · exact .inr ⟨g1, n + 1, cap, cur, rfl, .inr rfl, hh, h1, h2, h3, by omega⟩
  · intro k cur hk hh
    have hkl := (Array.getElem?_eq_some_iff.1 hh).1
    rcases hcase with ⟨-, hgn⟩ | ⟨g2, cap2, rfl, rfl⟩
    · exact ⟨cur, (hgn.block k hkl (by simp)).trans hh, rfl⟩
    · by_cases hkg : k = g2
      · subst hkg
        rcases ho.2 with ⟨e, -⟩ | ⟨g1, cap, cur', e, -, hh', h1, h2, h3, -⟩
        · cases e
        · simp at e
          obtain ⟨rfl, rfl⟩ := e
          refine ⟨cur', hh', ?_⟩
          rcases h with e | ⟨g3, n3, cap3, cur3, e, -, hh3, -, -, h33, -⟩
          · cases e
          · simp at e
            obtain ⟨rfl, -, rfl⟩ := e
            rw [hh3] at hh
            cases hh
            omega
      · exact ⟨cur, (hgr.block k hkl (fun e => hkg (by simp [Value.ownBlock] at e; exact e))).trans hh, rfl⟩
  · rcases ho.2 with ⟨-, h0⟩ | ⟨g1, cap, cur, rfl, -, hh, h1, h2, h3, -⟩
    · omega
    · simp [Value.ownBlock] at hk
      subst hk
      refine ⟨?_, cur, hh⟩
      rcases hcase with ⟨e, -⟩ | ⟨g2, cap2, rfl, e⟩
      · simp [Value.ownBlock] at e
        exact .inr e
      · simp at e
        rw [e.1]
        exact .inl (hrow g2 rfl).1
/-- The list is put back. -/
theorem idx_put {F : Nat → Prop} {c : Nat} {w : World} {hx m b : Nat} {D : DataW Unit} (hO : OutM F c w hx m D) (hF : F hx) (hP : OutP F c w hx b) {v : Value} (hv : SafeI F c w v) (hc : c ≤ 100000) {s : ByteArray} (hs : s.size ≤ maxLen) :
    ∃ w', (Instr.mapUpdate 56 (.map (some b)) (.string s) v).run Try.prog w = .ok () w' ∧ OutM F (c + 1) w' hx m D ∧ w.grownBy w' (some b) := by
  obtain ⟨hbx, hFb, m', D', hm', hM⟩ := hP
  obtain ⟨n, xs, hn, hown⟩ := hv.own
  obtain ⟨d, hd⟩ := own_sliceE hown
  obtain ⟨w', hrun, hM', hg⟩ := MapS.store Try.underlying56 hM (by omega) hs (RSafe_iff.2 ⟨hv, hd⟩)
  refine ⟨w', hrun, ?_, hg⟩
  obtain ⟨esb, ckb, hhb, -⟩ := id hM
  have hrow : ∀ k cur, F k → w.heap[k]? = some (.cells cur 3 (0, 0)) → ∃ cur' : Array Value, w'.heap[k]? = some (.cells cur' 3 (0, 0)) ∧ cur'.size = cur.size := fun k cur _ hh => by
    have hkb : k ≠ b := by
      rintro rfl
      rw [hhb] at hh
      cases hh
    exact ⟨cur, (hg.block k (Array.getElem?_eq_some_iff.1 hh).1 (fun e => hkb (by cases e; rfl))).trans hh, rfl⟩
  have hst : ∀ v z, RSafe F c w v = some z → RSafe F (c + 1) w' v = some z := fun v z e => by
    obtain ⟨e1, e2⟩ := RSafe_iff.1 e
    exact RSafe_iff.2 ⟨e1.off (fun _ h => h) (by omega) hrow, e2⟩
  have hhx : w'.heap[hx]? = w.heap[hx]? := hg.block hx hO.lt (fun e => hbx (by cases e; rfl))
  refine hO.turn hhx (fun v z e => RMp_mono (fun b2 ⟨h1, h2, h3⟩ => ⟨h1, h2, ?_⟩) v z e)
  by_cases hb2 : b2 = b
  · subst hb2
    exact ⟨m' + 1, _, by omega, hM'.turn rfl hst⟩
  · obtain ⟨m2, D2, hm2, hM2⟩ := h3
    exact ⟨m2, D2, by omega, hM2.turn (hg.block b2 hM2.lt (fun e => hb2 (by cases e; rfl))) hst⟩
end Go.Proofs.Ytkheeiipkdeihaa
