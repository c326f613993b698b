/- Size and Deep, of ast and of the reference. -/
import Derived.Test.YtkheeiipkdeihaaIter3
import Derived.Deep.DeepCutAuto
import Derived.Deep.CutBlock
namespace Go.Proofs.Ytkheeiipkdeihaa
open Go.RowKit
set_option linter.unusedSimpArgs false
set_option linter.unusedVariables false

set_option maxRecDepth 100000 in
set_option maxHeartbeats 2000000 in
theorem aDeep : ∀ (e : Ex) (cs : List Value) (n : Nat) (w : World), n ≤ w.heap.size → IsEx n w e cs → e.size ≤ 1000000 →
    Calls Try.prog 45 #[.agg cs.toArray] w fun e' w' => e' = .returned (.int .i64 e.deep) ∧ Below w.heap.size w w' := by
  refine Ex.ind fun e ih => ?_
  intro cs n w hn he hsz
  obtain ⟨pm, cm, pn, cn, pk, ck, rfl, hs, hm, hna, hk⟩ := he.cellsE
  obtain ⟨_, _, hv, _, _, hlk⟩ := hk.open
  clear hv
  unfold maxLen at hlk
  have Hih := Lib.hid ih; clear ih
  have He := Lib.hid he; clear he
  have hde := deep_le_size e
  have hee := e.deep_eq
  go_enter Try.func45, Try.ntmps45; (try simp only [List.append_eq, List.cons_append, List.nil_append])
  go_upto_region 0 with fail
  go_cut [1, 2] (fun s1 s2 wx => s1 = .pointer (some ⟨w.heap.size, 0, none⟩) ∧ s2 = .int .i64 0 ∧ Below w.heap.size w wx ∧
      Box wx w.heap.size [.int .i64 e.kind, .int .i64 e.fn, .int .i64 e.op, .int .i64 e.num, .string e.metric, .slice pm e.mats.length cm, .int .i64 e.span, .slice pn e.names.length cn, .slice pk e.kids.length ck])
  case first =>
    go_wp2
    go_meet
    exact ⟨rfl, rfl, (Below.refl _ _).alloc (Nat.le_refl _) _, Box.new _ _ _⟩
  case rest =>
    obtain ⟨rfl, rfl, hbw, hbox⟩ := hcut
    obtain ⟨W, rfl⟩ : ∃ W : World, W = wc := ⟨_, rfl⟩
    have c8 := hbox.2 8 _ rfl
    have hszb := hbox.1
    have Hbw := Lib.hid hbw; clear hbw
    have Hee := Lib.hid hee; clear hee
    have hkW := hk.mono (Hbw.out.mono hn) (Nat.le_refl _)
    have Hk := Lib.hid hkW; clear hkW hk
    have hse := e.size_eq
    have Hse := Lib.hid hse; clear hse
    go_wp2
    go_loopw [3, 9] (fun s i wr => ∃ k : Nat, k ≤ e.kids.length ∧ i = .int .i64 k ∧ s = .int .i64 (deeps (e.kids.take k)) ∧ deeps (e.kids.take k) ≤ 1000000 ∧ Below W.heap.size W wr) (fun _ i _ => e.kids.length - (intOf i).toNat)
    case atStart => exact ⟨0, Nat.zero_le _, rfl, rfl, by simp [deeps], Below.refl _ _⟩
    case round =>
      obtain ⟨k, hk', rfl, rfl, hdk, hb⟩ := hrel
      have Hb := Lib.hid hb; clear hb
      by_cases hlt : k < e.kids.length
      · obtain ⟨b, off, pm', cm', pn', cn', pk', ck', rfl, hbn, hei, e0, e1, e2, e3, e4, e5, e6, e7, e8⟩ := (Hk.out.mono (Hb.out.mono (by omega)) (Nat.le_refl _)).getE (Cells.refl _ _) hlt
        have hst := deeps_step hlt
        have hks := size_le_sizes (List.getElem_mem hlt)
        have hkd := deep_le_size e.kids[k]
        have hksz : e.kids[k].size ≤ 1000000 := by have := Hse.out; omega
        have Hst := Lib.hid hst; clear hst
        have hszr := Hb.out.size
        have Hei := Lib.hid hei; clear hei
        go_wp2_with (go_at_call 45; refine (Hih.out _ (List.getElem_mem hlt) _ n _ (by simp; omega) (Hei.out.mono ((Below.refl _ _).alloc (by omega) _) (Nat.le_refl _)) hksz).mono ?_; rintro e' w' ⟨rfl, hb2⟩)
        refine ⟨⟨k + 1, by omega, by go_num, ?_, by rw [Hst.out]; omega, Hb.out.trans (((Below.refl _ _).alloc (Nat.le_refl _) _).trans (hb2.mono (by simp)) |>.mono Hb.out.size)⟩, by simp [intOf]; omega⟩
        rw [Hst.out]
        congr 1
        split <;> omega
      · have htk : e.kids.take k = e.kids := List.take_of_length_le (by omega)
        rw [htk] at hdk ⊢
        go_wp2
        go_ret
        exact ⟨ret_int (by rw [Hee.out]; simp), Hbw.out.trans (Hb.out.mono (by omega))⟩

/-! ### the reference -/
end Go.Proofs.Ytkheeiipkdeihaa
