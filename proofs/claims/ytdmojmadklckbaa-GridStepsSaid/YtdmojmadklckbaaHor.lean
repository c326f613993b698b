/- Horizon, of ast and of the reference. -/
import Derived.Test.YtdmojmadklckbaaLvs
namespace Go.Proofs.Ytdmojmadklckbaa
open Go.RowKit
set_option linter.unusedSimpArgs false
set_option linter.unusedVariables false

/-- The greatest span of windows. -/
def hor : List Ex → Int
  | [] => 0
  | x :: l => max x.span (hor l)
/-- The greatest span so far. -/
def horTo (l : List Ex) : Int := l.foldl (fun n x => max n x.span) 0
theorem horTo_step {l : List Ex} {k : Nat} (h : k < l.length) : horTo (l.take (k + 1)) = max (horTo (l.take k)) l[k].span := by
  rw [List.take_succ_eq_append_getElem h]; simp only [horTo, List.foldl_append, List.foldl_cons, List.foldl_nil]
theorem horTo_bd (l : List Ex) : 0 ≤ horTo l := by
  unfold horTo
  have : ∀ (l : List Ex) (a : Int), a ≤ l.foldl (fun n x => max n x.span) a := by
    intro l
    induction l with
    | nil => intro a; simp
    | cons x l ih => intro a; rw [List.foldl_cons]; have := ih (max a x.span); omega
  exact this l 0
def Ex.hor (e : Ex) : Int := horTo e.leaves

set_option maxRecDepth 100000 in
set_option maxHeartbeats 2000000 in
theorem rHorizon (e : Ex) (cs : List Value) (n : Nat) (w : World) (hn : n ≤ w.heap.size) (he : IsEx n w e cs) (hsz : e.size ≤ 1000000) :
    Calls Try.prog 10 #[.agg cs.toArray] w fun e' w' => e' = .returned (.int .i64 e.hor) ∧ Below w.heap.size w w' := by
  obtain ⟨pm, cm, pn, cn, pk, ck, rfl, -, -, -, -⟩ := he.cellsE
  have He := Lib.hid he; clear he
  have hll := leaves_length e
  go_enter Try.func10, Try.ntmps10; (try simp only [List.append_eq, List.cons_append, List.nil_append])
  go_upto_region 0 with fail
  go_cut [0, 1, 2] (fun s0 s1 s2 wx => s1 = .pointer (some ⟨w.heap.size, 0, none⟩) ∧ s2 = .int .i64 0 ∧ Below w.heap.size w wx ∧ Box wx w.heap.size [.int .i64 e.kind, .int .i64 e.fn, .int .i64 e.op, .int .i64 e.num, .string e.metric, .slice pm e.mats.length cm, .int .i64 e.span, .slice pn e.names.length cn, .slice pk e.kids.length ck])
  case first =>
    go_wp2
    go_meet
    exact ⟨rfl, rfl, (Below.refl _ _).alloc (Nat.le_refl _) _, Box.new _ _ _⟩
  case rest =>
    obtain ⟨rfl, rfl, hbw, hbox⟩ := hcut
    obtain ⟨W, rfl⟩ : ∃ W : World, W = wc := ⟨_, rfl⟩
    have c0 := hbox.2 0 _ rfl
    have c1 := hbox.2 1 _ rfl
    have c2 := hbox.2 2 _ rfl
    have c3 := hbox.2 3 _ rfl
    have c4 := hbox.2 4 _ rfl
    have c5 := hbox.2 5 _ rfl
    have c6 := hbox.2 6 _ rfl
    have c7 := hbox.2 7 _ rfl
    have c8 := hbox.2 8 _ rfl
    have hszb := hbox.1
    have Hbox := Lib.hid hbox; clear hbox
    have Hbw := Lib.hid hbw; clear hbw
    go_upto_region 2 with (go_at_call 11; refine (rLeaves e _ n _ (by omega) (He.out.mono (Hbw.out.mono hn) (Nat.le_refl _)) hsz).mono ?_; rintro e' w2 ⟨v2, rfl, hown, hb2⟩; have hexs := hown.exs (m := w2.heap.size) (Nat.le_refl _) (by have := hb2.size; omega); obtain ⟨q, cq, rfl, _, _, _⟩ := hexs.open; have Hexs := Lib.hid hexs; clear hexs hown; have Hb2 := Lib.hid hb2; clear hb2)
    clear c0 c1 c2 c3 c4 c5 c6 c7 c8
    go_wp2
    go_loopw [4, 5] (fun s i wr => ∃ k : Nat, k ≤ e.leaves.length ∧ i = .int .i64 k ∧ s = .int .i64 (horTo (e.leaves.take k)) ∧ wr = w2) (fun _ i _ => e.leaves.length - (intOf i).toNat)
    case atStart => exact ⟨0, Nat.zero_le _, rfl, rfl, rfl⟩
    case round =>
      obtain ⟨k, hk', rfl, rfl, rfl⟩ := hrel
      by_cases hlt : k < e.leaves.length
      · obtain ⟨b, off, pm', cm', pn', cn', pk', ck', rfl, hbn, hei, e0, e1, e2, e3, e4, e5, e6, e7, e8⟩ := Hexs.out.getE (Cells.refl _ _) hlt
        have Hst := Lib.hid (horTo_step hlt)
        have hh := horTo_bd (e.leaves.take k)
        go_wp2
        refine ⟨⟨k + 1, by omega, by go_num, ?_, trivial⟩, by simp [intOf]; omega⟩
        rw [Hst.out]
        congr 1
        split <;> omega
      · go_wp2
        go_ret
        exact ⟨ret_int (by unfold Ex.hor; rw [List.take_of_length_le (by omega)]), Hbw.out.trans (Hb2.out.mono (by omega))⟩

set_option maxRecDepth 100000 in
set_option maxHeartbeats 2000000 in
theorem aHorizon (e : Ex) (cs : List Value) (n : Nat) (w : World) (hn : n ≤ w.heap.size) (he : IsEx n w e cs) (hsz : e.size ≤ 1000000) :
    Calls Try.prog 53 #[.agg cs.toArray] w fun e' w' => e' = .returned (.int .i64 e.hor) ∧ Below w.heap.size w w' := by
  obtain ⟨pm, cm, pn, cn, pk, ck, rfl, -, -, -, -⟩ := he.cellsE
  have He := Lib.hid he; clear he
  have hll := leaves_length e
  go_enter Try.func53, Try.ntmps53; (try simp only [List.append_eq, List.cons_append, List.nil_append])
  go_upto_region 0 with fail
  go_cut [0, 1, 2] (fun s0 s1 s2 wx => s1 = .pointer (some ⟨w.heap.size, 0, none⟩) ∧ s2 = .int .i64 0 ∧ Below w.heap.size w wx ∧ Box wx w.heap.size [.int .i64 e.kind, .int .i64 e.fn, .int .i64 e.op, .int .i64 e.num, .string e.metric, .slice pm e.mats.length cm, .int .i64 e.span, .slice pn e.names.length cn, .slice pk e.kids.length ck])
  case first =>
    go_wp2
    go_meet
    exact ⟨rfl, rfl, (Below.refl _ _).alloc (Nat.le_refl _) _, Box.new _ _ _⟩
  case rest =>
    obtain ⟨rfl, rfl, hbw, hbox⟩ := hcut
    obtain ⟨W, rfl⟩ : ∃ W : World, W = wc := ⟨_, rfl⟩
    have c0 := hbox.2 0 _ rfl
    have c1 := hbox.2 1 _ rfl
    have c2 := hbox.2 2 _ rfl
    have c3 := hbox.2 3 _ rfl
    have c4 := hbox.2 4 _ rfl
    have c5 := hbox.2 5 _ rfl
    have c6 := hbox.2 6 _ rfl
    have c7 := hbox.2 7 _ rfl
    have c8 := hbox.2 8 _ rfl
    have hszb := hbox.1
    have Hbox := Lib.hid hbox; clear hbox
    have Hbw := Lib.hid hbw; clear hbw
    go_wp2_with (go_at_call 35; refine (aLeaves e _ n _ (by omega) (He.out.mono (Hbw.out.mono hn) (Nat.le_refl _)) hsz).mono ?_; rintro e' w2 ⟨v2, rfl, hown, hb2⟩; have hexs := hown.exs (m := w2.heap.size) (Nat.le_refl _) (by have := hb2.size; omega); obtain ⟨q, cq, rfl, _, _, _⟩ := hexs.open; have Hexs := Lib.hid hexs; clear hexs hown; have Hb2 := Lib.hid hb2; clear hb2; clear c0 c1 c2 c3 c4 c5 c6 c7 c8)
    go_loopw [3, 9] (fun s i wr => ∃ k : Nat, k ≤ e.leaves.length ∧ i = .int .i64 k ∧ s = .int .i64 (horTo (e.leaves.take k)) ∧ Below w2.heap.size w2 wr) (fun _ i _ => e.leaves.length - (intOf i).toNat)
    case atStart => exact ⟨0, Nat.zero_le _, rfl, rfl, Below.refl _ _⟩
    case round =>
      obtain ⟨k, hk', rfl, rfl, hb⟩ := hrel
      have Hb := Lib.hid hb; clear hb
      by_cases hlt : k < e.leaves.length
      · obtain ⟨b, off, pm', cm', pn', cn', pk', ck', rfl, hbn, hei, e0, e1, e2, e3, e4, e5, e6, e7, e8⟩ := (Hexs.out.mono Hb.out (Nat.le_refl _)).getE (Cells.refl _ _) hlt
        have Hst := Lib.hid (horTo_step hlt)
        have hh := horTo_bd (e.leaves.take k)
        clear hei
        go_wp2
        refine ⟨⟨k + 1, by omega, by go_num, ?_, Hb.out.alloc Hb.out.size _⟩, by simp [intOf]; omega⟩
        rw [Hst.out]
        congr 1
        split <;> omega
      · go_wp2
        go_ret
        exact ⟨ret_int (by unfold Ex.hor; rw [List.take_of_length_le (by omega)]), (Hbw.out.trans (Hb2.out.mono (by omega))).trans (Hb.out.mono (by have := Hb2.out.size; omega))⟩

end Go.Proofs.Ytdmojmadklckbaa
