/- The reference's Leaves; Horizon of both sides. -/
import Derived.Test.YtdmojmadklckbaaOwn1
namespace Go.Proofs.Ytdmojmadklckbaa
open Go.RowKit
set_option linter.unusedSimpArgs false
set_option linter.unusedVariables false

mutual
/-- All windows. -/
def Ex.leaves : Ex → List Ex
  | .mk a b c d e f g h ks => (if a = 1 then [.mk a b c d e f g h ks] else []) ++ leavess ks
def leavess : List Ex → List Ex
  | [] => []
  | k :: ks => k.leaves ++ leavess ks
end
theorem Ex.leaves_eq (e : Ex) : e.leaves = (if e.kind = 1 then [e] else []) ++ leavess e.kids := by cases e; simp only [Ex.leaves, Ex.kids, Ex.kind]; congr
theorem leavess_append (a b : List Ex) : leavess (a ++ b) = leavess a ++ leavess b := by
  induction a with
  | nil => simp [leavess]
  | cons k a ih => simp only [List.cons_append, leavess, ih, List.append_assoc]
theorem leavess_step {l : List Ex} {k : Nat} (h : k < l.length) : leavess (l.take (k + 1)) = leavess (l.take k) ++ l[k].leaves := by
  rw [List.take_succ_eq_append_getElem h, leavess_append]; simp [leavess]
theorem leaves_filter : ∀ e : Ex, e.leaves = e.flat.filter fun x => decide (x.kind = 1) := by
  refine Ex.ind fun e ih => ?_
  have : ∀ l : List Ex, (∀ k ∈ l, k.leaves = k.flat.filter fun x => decide (x.kind = 1)) → leavess l = (flats l).filter fun x => decide (x.kind = 1) := by
    intro l
    induction l with
    | nil => intro _; simp [leavess, flats]
    | cons x l ih => intro h; simp only [leavess, flats, List.filter_append]; rw [h x (by simp), ih (fun k hk => h k (by simp [hk]))]
  rw [Ex.leaves_eq, Ex.flat_eq, List.filter_cons, this _ ih]
  by_cases h : e.kind = 1 <;> simp [h]
theorem leavess_filter (l : List Ex) : leavess l = (flats l).filter fun x => decide (x.kind = 1) := by
  induction l with
  | nil => simp [leavess, flats]
  | cons x l ih => simp only [leavess, flats, List.filter_append, ih, leaves_filter]
theorem leaves_length (e : Ex) : e.leaves.length ≤ e.size := by
  rw [leaves_filter, ← flat_length]; exact List.length_filter_le _ _
theorem leavess_length (l : List Ex) : (leavess l).length ≤ sizes l := by
  rw [leavess_filter, ← flats_length]; exact List.length_filter_le _ _

set_option maxRecDepth 100000 in
set_option maxHeartbeats 4000000 in
theorem rLeaves : ∀ (e : Ex) (cs : List Value) (n : Nat) (w : World), n ≤ w.heap.size → IsEx n w e cs → e.size ≤ 1000000 →
    Calls Try.prog 11 #[.agg cs.toArray] w fun e' w' => ∃ v, e' = .returned v ∧ Own n w.heap.size w' v e.leaves ∧ Below w.heap.size w w' := by
  refine Ex.ind fun e ih => ?_
  intro cs n w hn he hsz
  obtain ⟨pm, cm, pn, cn, pk, ck, rfl, -, -, -, hka⟩ := he.cellsE
  obtain ⟨_, _, hv, _, _, hlk⟩ := hka.open
  clear hv
  unfold maxLen at hlk
  have Hka := Lib.hid hka; clear hka
  have Hih := Lib.hid ih; clear ih
  have He := Lib.hid he; clear he
  obtain ⟨i0, hi, hz0, hz1, hz2⟩ := info_parts infoE
  have hse := e.size_eq
  have Hse := Lib.hid hse; clear hse
  go_enter Try.func11, Try.ntmps11; (try simp only [List.append_eq, List.cons_append, List.nil_append])
  go_upto_region 0 with fail
  go_cut [0, 1, 2] (fun s0 s1 s2 wx => s1 = .pointer (some ⟨w.heap.size, 0, none⟩) ∧ s2 = .slice none 0 0 ∧ Below w.heap.size w wx ∧ Box wx w.heap.size [.int .i64 e.kind, .int .i64 e.fn, .int .i64 e.op, .int .i64 e.num, .string e.metric, .slice pm e.mats.length cm, .int .i64 e.span, .slice pn e.names.length cn, .slice pk e.kids.length ck])
  case first =>
    go_wp2
    go_meet
    exact ⟨rfl, rfl, (Below.refl _ _).alloc (Nat.le_refl _) _, Box.new _ _ _⟩
  case rest =>
    obtain ⟨rfl, rfl, hbw, hbox⟩ := hcut
    obtain ⟨W, rfl⟩ : ∃ W : World, W = wc := ⟨_, rfl⟩
    have hszb := hbox.1
    have Hbox := Lib.hid hbox; clear hbox
    have Hbw := Lib.hid hbw; clear hbw
    have c0 := Hbox.out.2 0 _ rfl
    go_upto_if 7 with fail
    go_cut [3] (fun s3 wx => Own n W.heap.size wx s3 (if e.kind = 1 then [e] else []) ∧ Below W.heap.size W wx)
    case first =>
      have c1 := Hbox.out.2 1 _ rfl
      have c2 := Hbox.out.2 2 _ rfl
      have c3 := Hbox.out.2 3 _ rfl
      have c4 := Hbox.out.2 4 _ rfl
      have c5 := Hbox.out.2 5 _ rfl
      have c6 := Hbox.out.2 6 _ rfl
      have c7 := Hbox.out.2 7 _ rfl
      have c8 := Hbox.out.2 8 _ rfl
      by_cases hkd : e.kind = 1
      · have hd : (e.kind == 1) = true := by simp [hkd]
        have Hkd := Lib.hid hkd; clear hkd
        go_wp2_with (at_builtin; refine wpList_append_src _ rfl _ _ _ rfl W.heap.size 26 i0 _ 9 128 Try.underlying24 hi hz0 hz1 hz2 rfl (by decide) (.slice none 0 0) 0 [] rfl (World.ownsRow_nil _ _ _ _) (.slice (some ⟨W.heap.size, 0, none⟩) 1 1) 1 [.int .i64 e.kind, .int .i64 e.fn, .int .i64 e.op, .int .i64 e.num, .string e.metric, .slice pm e.mats.length cm, .int .i64 e.span, .slice pn e.names.length cn, .slice pk e.kids.length ck] rfl (Src.of_own (base := W.heap.size) (e := 26) ⟨rfl, .inr ⟨_, 1, _, rfl, Nat.le_refl _, heap_alloc_new W _, Nat.le_refl _, by decide, rfl, rfl⟩⟩) (He.out.oneCells) (by decide) (by decide) (by simp) ?_; intro v3 w3 hown3 hgr3 hat3)
        go_meet
        have hb3 : Below W.heap.size W w3 := ((Below.refl _ _).alloc (Nat.le_refl _) _).grown hgr3 (by simp) (by simp [Value.ownBlock])
        refine ⟨?_, hb3⟩
        rw [if_pos Hkd.out]
        exact Own.one (by simpa using hown3) (He.out.mono ((Hbw.out.trans (hb3.mono Hbw.out.size)).mono hn) (Nat.le_refl _))
      · have hd : (e.kind == 1) = false := by simp [hkd]
        have Hkd := Lib.hid hkd; clear hkd
        go_wp2
        go_meet
        refine ⟨?_, Below.refl _ _⟩
        rw [if_neg Hkd.out]
        exact Own.nil
    case rest =>
      obtain ⟨hown1, hb1⟩ := hcut
      obtain ⟨W1, rfl⟩ : ∃ W1 : World, W1 = wc := ⟨_, rfl⟩
      have Hb1 := Lib.hid hb1; clear hb1
      have Hown1 := Lib.hid hown1; clear hown1
      go_wp2
      go_loopw [3, 4] (fun v i wr => ∃ k : Nat, k ≤ e.kids.length ∧ i = .int .i64 k ∧ Own n W.heap.size wr v ((if e.kind = 1 then [e] else []) ++ leavess (e.kids.take k)) ∧ Below W.heap.size W wr) (fun _ i _ => e.kids.length - (intOf i).toNat)
      case atStart => exact ⟨0, Nat.zero_le _, rfl, by simpa [leavess] using Hown1.out, Hb1.out⟩
      case round =>
        obtain ⟨k, hk, rfl, ⟨rows, hor, hl1, hg1⟩, hbl⟩ := hrel
        have Hbl := Lib.hid hbl; clear hbl
        have c8 := (Hbox.out.keep Hbl.out).2 8 _ rfl
        clear c0
        have hszr := Hbl.out.size
        have hszw := Hbw.out.size
        have hle2 : sizes e.kids ≤ 1000000 := by have := Hse.out; omega
        have Hor := Lib.hid hor; clear hor
        have Hl1 := Lib.hid hl1; clear hl1
        have Hg1 := Lib.hid hg1; clear hg1
        by_cases hlt : k < e.kids.length
        · obtain ⟨b, off, qm, dm, qn, dn, qk, dk, rfl, hbn, hei, e0, e1, e2, e3, e4, e5, e6, e7, e8⟩ := (Hka.out.mono ((Hbw.out.trans (Hbl.out.mono (by omega))).mono hn) (Nat.le_refl _)).getE (Cells.refl _ _) hlt
          have hks := size_le_sizes (List.getElem_mem hlt)
          have Hei := Lib.hid hei; clear hei
          have Hsx := Lib.hid (show ((if e.kind = 1 then [e] else []) ++ leavess (e.kids.take k)).length ≤ 1000001 ∧ e.kids[k].leaves.length ≤ 1000000 from by
            have h1 := leavess_length (e.kids.take k)
            have h2 := leaves_length e.kids[k]
            have h3 := sizes_take_le e.kids k
            rw [List.length_append]
            have h4 : (if e.kind = 1 then [e] else []).length ≤ 1 := by split <;> simp
            omega)
          go_wp2_with (first
            | (go_at_call 11; refine (Hih.out _ (List.getElem_mem hlt) _ n _ (by omega) Hei.out (by omega)).mono ?_; rintro e' w2 ⟨v2, rfl, ⟨rows2, hor2, hl2, hg2⟩, hb2⟩; have hor' := Lib.hid (ownsRow_keep Hor.out hb2); have Hor2 := Lib.hid hor2; clear hor2; have Hl2 := Lib.hid hl2; clear hl2; have Hg2 := Lib.hid hg2; clear hg2; have hszr2 := hb2.size; have Hb2 := Lib.hid hb2; clear hb2)
            | (at_builtin; refine wpList_append_src _ rfl _ _ _ rfl W.heap.size 26 i0 _ 9 128 Try.underlying24 hi hz0 hz1 hz2 rfl (by decide) _ _ rows.flatten rfl hor'.out _ _ rows2.flatten rfl (Src.of_own Hor2.out) (rows_oneCells Hl2.out Hg2.out) (by have := Hsx.out; unfold maxLen; omega) (by have := Hsx.out; omega) (by omega) ?_; intro v3 w3 hown3 hgr3 hat3))
          refine ⟨⟨k + 1, by omega, by go_num, ?_, ?_⟩, by simp [intOf]; omega⟩
          · rw [leavess_step hlt, ← List.append_assoc]
            exact Own.app Hl1.out Hl2.out (fun k r e' hr he' => (Hg1.out k r e' hr he').mono (Hb2.out.mono (by omega)) (Nat.le_refl _)) Hg2.out (below_app (Below.refl _ _) hor'.out hgr3 (by omega) (by omega)) hown3
          · exact below_app (Hbl.out.trans (Hb2.out.mono hszr)) hor'.out hgr3 (Nat.le_refl _) (by omega)
        · go_wp2
          go_ret
          refine ⟨_, rfl, ⟨rows, ?_, ?_, ?_⟩, Hbw.out.trans (Hbl.out.mono (by omega))⟩
          · have := Hor.out
            rw [List.take_of_length_le (show e.kids.length ≤ k by omega)] at this
            rw [Ex.leaves_eq]; exact ownsRow_base this hszw
          · have := Hl1.out
            rw [List.take_of_length_le (show e.kids.length ≤ k by omega)] at this
            rw [Ex.leaves_eq]; exact this
          · have := Hg1.out
            rw [List.take_of_length_le (show e.kids.length ≤ k by omega)] at this
            rw [Ex.leaves_eq]; exact this

end Go.Proofs.Ytdmojmadklckbaa
