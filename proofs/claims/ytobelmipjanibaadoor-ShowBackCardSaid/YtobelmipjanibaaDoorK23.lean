/- The reference's parser in memory; its smallest steps: fail, is, take, need, token. -/
import Derived.Test.YtobelmipjanibaaDoorK16
import Derived.Test.YtobelmipjanibaaDoorK21
import Derived.Test.YtobelmipjanibaaDoorK0
import Derived.Test.YtobelmipjanibaaDoorK9
import Derived.StillTailTactics
namespace Go.Proofs.YtobelmipjanibaaDoor
open Go.RowKit
set_option linter.unusedSimpArgs false
set_option linter.unusedVariables false

/-! ### what one block's changes leave as it was -/
/-- All but block g is as it was. -/
structure Off (g : Nat) (w w' : World) : Prop where
  os : w'.os = w.os
  tape : w'.tape = w.tape
  output : w'.output = w.output
  size : w.heap.size ≤ w'.heap.size
  block : ∀ k, k < w.heap.size → k ≠ g → w'.heap[k]? = w.heap[k]?
theorem Off.refl (g : Nat) (w : World) : Off g w w := ⟨rfl, rfl, rfl, Nat.le_refl _, fun _ _ _ => rfl⟩
theorem Off.trans {g : Nat} {a b c : World} (h : Off g a b) (k : Off g b c) : Off g a c :=
  ⟨k.os.trans h.os, k.tape.trans h.tape, k.output.trans h.output, Nat.le_trans h.size k.size, fun i hi hg => (k.block i (Nat.lt_of_lt_of_le hi h.size) hg).trans (h.block i hi hg)⟩
theorem Off.of {g : Nat} {w w' : World} (h : Below w.heap.size w w') : Off g w w' := ⟨h.os, h.tape, h.output, h.size, fun k hk _ => h.block k hk⟩
theorem Off.set {g : Nat} (w : World) (i : Nat) (u : Value) : Off g w (w.setCell ⟨g, i, none⟩ u) :=
  ⟨rfl, rfl, rfl, by unfold World.setCell; simp, fun k _ hk => by
    unfold World.setCell
    show (w.heap.modify g _)[k]? = _
    rw [Array.getElem?_modify, if_neg (fun e => hk e.symm)]⟩
theorem Off.row {g : Nat} (w : World) (cs : Array Value) : Off g w (w.setRow g cs) :=
  ⟨rfl, rfl, rfl, by rw [setRow_size]; exact Nat.le_refl _, fun k _ hk => by
    show (w.heap.modify g _)[k]? = _
    rw [Array.getElem?_modify, if_neg (fun e => hk e.symm)]⟩
theorem Off.cell {g : Nat} {w w' : World} (h : Off g w w') {a : Addr} (ha : a.block < w.heap.size) (hg : a.block ≠ g) : w'.cell? a = w.cell? a := World.cell?_of_block (h.block a.block ha hg)
theorem Off.below {g n : Nat} {w w' : World} (h : Off g w w') (hn : n ≤ g) (hs : n ≤ w.heap.size) : Below n w w' := ⟨h.os, h.tape, h.output, h.size, fun k hk => h.block k (by omega) (by omega)⟩
theorem Off.toks {g : Nat} {w w' : World} {v : Value} {L : List Tok} (ho : Off g w w') (h : IsToks g w v L) (hg : g ≤ w.heap.size) : IsToks g w' v L := IsToks.mono h (ho.below (Nat.le_refl _) hg) (Nat.le_refl _)
/-- The world without block g. -/
def blank (g : Nat) (w : World) : World := w.setRow g #[]
theorem blank_cell {g : Nat} {w : World} {a : Addr} (h : a.block ≠ g) : (blank g w).cell? a = w.cell? a := World.cell?_of_block (by
  show (w.heap.modify g _)[a.block]? = _
  rw [Array.getElem?_modify, if_neg (fun e => h e.symm)])
/-! ### the parser -/
def PC (pt : Option Addr) (n cap : Nat) (p : PS) : List Value := [.slice pt n cap, .int .i64 p.i, .int .i64 p.err, .int .i64 p.at', .int .i64 p.opn]
/-- A parser in block g, its tokens ahead of it. -/
def PA (g : Nat) (pt : Option Addr) (cap : Nat) (L : List Tok) (p : PS) (w : World) : Prop := Blk w g 96 (PC pt L.length cap p) ∧ IsToks g w (.slice pt L.length cap) L
/-- The tokens end with one that nobody takes; where the parser may stand. -/
structure PW (L : List Tok) (p : PS) : Prop where
  ends : ∃ t l, L = l ++ [t] ∧ t.kind = 5
  len : L.length ≤ 100000
  at' : p.i < L.length
  lo : -(p.i : Int) ≤ p.opn
  hi : p.opn ≤ 64
  txt : ∀ t ∈ L, t.text.length ≤ 100000
  num : ∀ t ∈ L, -9223372036854775808 ≤ t.num ∧ t.num ≤ 9223372036854775807
theorem PW.fail {L : List Tok} {p : PS} (h : PW L p) (e a : Int) : PW L (p.fail e a) := by
  unfold PS.fail; split
  · exact ⟨h.ends, h.len, h.at', h.lo, h.hi, h.txt, h.num⟩
  · exact h
theorem PS.tok_eq {L : List Tok} {p : PS} (h : p.i < L.length) : p.tok L = L[p.i] := by
  unfold PS.tok; rw [List.getD_eq_getElem?_getD, List.getElem?_eq_getElem h]; rfl
/-- A token that is not the last one has one behind it. -/
theorem PW.next {L : List Tok} {p : PS} (h : PW L p) (hk : (p.tok L).kind ≠ 5) : p.i + 1 < L.length := by
  obtain ⟨t, l, rfl, ht⟩ := h.ends
  have hi := h.at'
  rcases Nat.lt_or_ge (p.i + 1) (l ++ [t]).length with h' | h'
  · exact h'
  · exfalso
    simp only [List.length_append, List.length_cons, List.length_nil] at hi h'
    have e : p.i = l.length := by omega
    apply hk
    unfold PS.tok
    rw [List.getD_eq_getElem?_getD, e]
    simp [ht]
/-- What a step's contract says: the parser stands so, all else is as it was. -/
def StepR (g : Nat) (pt : Option Addr) (cap : Nat) (L : List Tok) (w : World) (v : Value) (p' : PS) (e' : Ending) (w' : World) : Prop := e' = .returned v ∧ PA g pt cap L p' w' ∧ Off g w w'

set_option maxRecDepth 100000 in
set_option maxHeartbeats 4000000 in
theorem pFail (g : Nat) (pt : Option Addr) (cap : Nat) (L : List Tok) (p : PS) (w : World) (h : PA g pt cap L p w) (e a : Int) :
    Calls Tryd.prog 63 #[.pointer (some ⟨g, 0, none⟩), .int .i64 e, .int .i64 a] w (StepR g pt cap L w (.tuple #[]) (p.fail e a)) := by
  obtain ⟨hb, hl⟩ := h
  have hg := hb.lt
  have HB := Lib.hid hb
  have HL := Lib.hid hl; clear hl
  unfold PC at hb
  have c0 := hb.cell 0 _ rfl; have c1 := hb.cell 1 _ rfl; have c2 := hb.cell 2 _ rfl; have c3 := hb.cell 3 _ rfl; have c4 := hb.cell 4 _ rfl
  have f2 := hb.free 2
  have f3 := hb.free 3
  clear hb
  go_enter Tryd.func63, Tryd.ntmps63; (try simp only [List.append_eq, List.cons_append, List.nil_append])
  by_cases h0 : p.err = 0
  · rw [h0] at c2
    go_wp2
    refine bodyPost_end (results_none rfl _ _ _) rfl ?_
    have ho := (Off.set w 2 (.int .i64 e)).trans (Off.set (g := g) (w.setCell ⟨g, 2, none⟩ (.int .i64 e)) 3 (.int .i64 a))
    refine ⟨rfl, ⟨?_, ho.toks HL.out (Nat.le_of_lt hg)⟩, ho⟩
    have := (HB.out.set_ 2 (.int .i64 e)).set_ 3 (.int .i64 a)
    unfold PS.fail; rw [if_pos h0]; exact this
  · have h1 : (p.err == 0) = false := by simpa using h0
    go_wp2
    refine bodyPost_ret (results_none rfl _ _ _) rfl ?_
    unfold PS.fail; rw [if_neg h0]
    exact ⟨rfl, ⟨HB.out, HL.out⟩, Off.refl _ _⟩

theorem PA.keep {g : Nat} {pt : Option Addr} {cap : Nat} {L : List Tok} {p : PS} {w w' : World} (h : PA g pt cap L p w) (hb : Below w.heap.size w w') : PA g pt cap L p w' := ⟨h.1.keep hb, h.2.mono (hb.mono (Nat.le_of_lt h.1.lt)) (Nat.le_refl _)⟩
theorem StepR.keep {g : Nat} {pt : Option Addr} {cap : Nat} {L : List Tok} {p : PS} {w w' : World} {v v' : Value} (h : PA g pt cap L p w) (hb : Below w.heap.size w w') (hv : v = v') : StepR g pt cap L w v' p (.returned v) w' := ⟨by rw [hv], h.keep hb, .of hb⟩
/-- The token that is next, as it lies in memory. -/
theorem PA.now {g : Nat} {pt : Option Addr} {cap : Nat} {L : List Tok} {p : PS} {w : World} (h : PA g pt cap L p w) (hi : p.i < L.length) :
    ∃ b off, pt = some ⟨b, off, none⟩ ∧ b < g ∧ w.cell? ⟨b, off + p.i * 4, none⟩ = some (.int .i64 (p.tok L).kind) ∧ w.cell? ⟨b, off + p.i * 4 + 1, none⟩ = some (.string ⟨(p.tok L).text.toArray⟩) ∧
      w.cell? ⟨b, off + p.i * 4 + 2, none⟩ = some (.int .i64 (p.tok L).num) ∧ w.cell? ⟨b, off + p.i * 4 + 3, none⟩ = some (.int .i64 (p.tok L).pos) := by
  obtain ⟨b, off, h1, h2, h3, h4, h5, h6⟩ := h.2.get hi
  rw [PS.tok_eq hi]
  exact ⟨b, off, h1, h2, h3, h4, h5, h6⟩

set_option maxRecDepth 100000 in
set_option maxHeartbeats 4000000 in
theorem pIs (g : Nat) (pt : Option Addr) (cap : Nat) (L : List Tok) (p : PS) (w : World) (h : PA g pt cap L p w) (hw : PW L p) (s : List UInt8) :
    Calls Tryd.prog 87 #[.pointer (some ⟨g, 0, none⟩), .string ⟨s.toArray⟩] w (StepR g pt cap L w (.bool (p.isT L s)) p) := by
  have hi := hw.at'
  have hlen := hw.len
  obtain ⟨b, off, rfl, hbg, e0, e1, e2, e3⟩ := h.now hi
  obtain ⟨hb, hl⟩ := h
  have hg := hb.lt
  have HB := Lib.hid hb
  have HL := Lib.hid hl; clear hl
  unfold PC at hb
  have c0 := hb.cell 0 _ rfl; have c1 := hb.cell 1 _ rfl; have c2 := hb.cell 2 _ rfl; have c3 := hb.cell 3 _ rfl; have c4 := hb.cell 4 _ rfl
  clear hb
  have hI : (p.isT L s) = (p.err == 0 && ((p.tok L).kind == 4 || (p.tok L).kind == 1) && (p.tok L).text == s) := rfl
  rw [hI]; clear hI
  obtain ⟨t, ht⟩ : ∃ t, p.tok L = t := ⟨_, rfl⟩
  rw [ht] at e0 e1 e2 e3 ⊢
  clear ht
  have hbw : b < w.heap.size := Nat.lt_trans hbg hg
  go_enter Tryd.func87, Tryd.ntmps87; (try simp only [List.append_eq, List.cons_append, List.nil_append])
  go_wp2
  go_region
  all_goals go_wp2
  all_goals go_ret
  all_goals refine StepR.keep ⟨HB.out, HL.out⟩ ((Below.refl _ _).alloc (Nat.le_refl _) _).drew (by simp [*])

theorem PW.take {L : List Tok} {p : PS} (h : PW L p) (s : List UInt8) : PW L (p.take L s).2 := by
  unfold PS.take
  split
  · rename_i ht
    have hk : (p.tok L).kind ≠ 5 := by
      simp only [PS.isT, Bool.and_eq_true, Bool.or_eq_true, beq_iff_eq] at ht
      omega
    have hn := h.next hk
    have h1 := h.lo; have h2 := h.hi
    split
    · split
      · exact h.fail _ _
      · exact ⟨h.ends, h.len, hn, by simp only; omega, by simp only; omega, h.txt, h.num⟩
    · split
      · exact ⟨h.ends, h.len, hn, by simp only; omega, by simp only; omega, h.txt, h.num⟩
      · exact ⟨h.ends, h.len, hn, by simp only; omega, by simp only; omega, h.txt, h.num⟩
  · exact h
theorem PA.upd {g : Nat} {pt : Option Addr} {cap : Nat} {L : List Tok} {p q : PS} {w w' : World} (h : PA g pt cap L p w) (hg : g < w.heap.size) (ho : Off g w w') (hb : Blk w' g 96 (PC pt L.length cap q)) : PA g pt cap L q w' := ⟨hb, ho.toks h.2 (Nat.le_of_lt hg)⟩
theorem StepR.mono {g : Nat} {pt : Option Addr} {cap : Nat} {L : List Tok} {p : PS} {w w0 w' : World} {v : Value} {e : Ending} (ho : Off g w0 w) (h : StepR g pt cap L w v p e w') : StepR g pt cap L w0 v p e w' := ⟨h.1, h.2.1, ho.trans h.2.2⟩

set_option maxRecDepth 100000 in
set_option maxHeartbeats 4000000 in
theorem pTake (g : Nat) (pt : Option Addr) (cap : Nat) (L : List Tok) (p : PS) (w : World) (h : PA g pt cap L p w) (hw : PW L p) (s : List UInt8) :
    Calls Tryd.prog 62 #[.pointer (some ⟨g, 0, none⟩), .string ⟨s.toArray⟩] w (StepR g pt cap L w (.bool (p.take L s).1) (p.take L s).2) := by
  have hi := hw.at'
  have hlen := hw.len
  have hlo := hw.lo
  have hhi := hw.hi
  obtain ⟨b, off, rfl, hbg, -⟩ := h.now hi
  have HIs := Lib.hid (pIs g _ cap L p w h hw s)
  clear h
  go_enter Tryd.func62, Tryd.ntmps62; (try simp only [List.append_eq, List.cons_append, List.nil_append])
  cases hT : p.isT L s with
  | false =>
    rw [hT] at HIs
    go_wp2_with (go_at_call 87; refine HIs.out.mono ?_; rintro e' w1 ⟨rfl, hP, ho⟩)
    go_ret
    unfold PS.take
    rw [hT]
    exact ⟨rfl, hP, ho⟩
  | true =>
    rw [hT] at HIs
    have hn := hw.next (by
      simp only [PS.isT, Bool.and_eq_true, Bool.or_eq_true, beq_iff_eq] at hT
      omega)
    have HR := Lib.hid (show p.take L s = _ from by unfold PS.take; rw [hT])
    clear hT
    rw [HR.out]
    clear HR
    by_cases h40 : s = [40]
    · subst h40
      by_cases h64 : p.opn = 64
      · have h64b : (p.opn == 64) = true := by simpa using h64
        go_wp2_with (go_at_call 87; refine HIs.out.mono ?_; rintro e' w1 ⟨rfl, hP, ho⟩; have HP := Lib.hid hP; have Ho := Lib.hid ho; clear ho; obtain ⟨b', off', hpt, -, e0, e1, e2, e3⟩ := hP.now hi; cases hpt; obtain ⟨hb, hl⟩ := hP; clear hl; have hg := hb.lt; have hbw := Nat.lt_trans hbg hg; unfold PC at hb; have c0 := hb.cell 0 _ rfl; have c1 := hb.cell 1 _ rfl; have c2 := hb.cell 2 _ rfl; have c3 := hb.cell 3 _ rfl; have c4 := hb.cell 4 _ rfl; have f1 := hb.free 1; have f2 := hb.free 2; have f3 := hb.free 3; have f4 := hb.free 4; clear hb)
        go_still_tail 12, (by kernel_rfl)
        change wpList _ _ _ _ _ w1.drew
        have hbd : Below w1.heap.size w1 w1.drew := (Below.refl _ _).drew
        generalize w1.drew = wd at hbd
        go_wp2_with (go_at_call 63; refine (pFail g _ cap L p wd (HP.out.keep hbd) 3 _).mono ?_; rintro e' w2 ⟨rfl, hP2, ho2⟩)
        go_ret
        exact ⟨rfl, hP2, Ho.out.trans ((Off.of hbd).trans ho2)⟩
      · have h64b : (p.opn == 64) = false := by simpa using h64
        go_wp2_with (go_at_call 87; refine HIs.out.mono ?_; rintro e' w1 ⟨rfl, hP, ho⟩; have HP := Lib.hid hP; have Ho := Lib.hid ho; clear ho; obtain ⟨b', off', hpt, -, e0, e1, e2, e3⟩ := hP.now hi; cases hpt; obtain ⟨hb, hl⟩ := hP; clear hl; have hg := hb.lt; have hbw := Nat.lt_trans hbg hg; unfold PC at hb; have c0 := hb.cell 0 _ rfl; have c1 := hb.cell 1 _ rfl; have c2 := hb.cell 2 _ rfl; have c3 := hb.cell 3 _ rfl; have c4 := hb.cell 4 _ rfl; have f1 := hb.free 1; have f2 := hb.free 2; have f3 := hb.free 3; have f4 := hb.free 4; clear hb)
        go_ret
        refine ⟨rfl, HP.out.upd hg ((Off.set w1 4 _).trans (Off.set _ 1 _)) ?_, Ho.out.trans ((Off.set w1 4 _).trans (Off.set _ 1 _))⟩
        exact (HP.out.1.set_ 4 _).set_ 1 _
    · have h40b : (s == [40]) = false := by simpa using h40
      by_cases h41 : s = [41]
      · subst h41
        go_wp2_with (go_at_call 87; refine HIs.out.mono ?_; rintro e' w1 ⟨rfl, hP, ho⟩; have HP := Lib.hid hP; have Ho := Lib.hid ho; clear ho; obtain ⟨b', off', hpt, -, e0, e1, e2, e3⟩ := hP.now hi; cases hpt; obtain ⟨hb, hl⟩ := hP; clear hl; have hg := hb.lt; have hbw := Nat.lt_trans hbg hg; unfold PC at hb; have c0 := hb.cell 0 _ rfl; have c1 := hb.cell 1 _ rfl; have c2 := hb.cell 2 _ rfl; have c3 := hb.cell 3 _ rfl; have c4 := hb.cell 4 _ rfl; have f1 := hb.free 1; have f2 := hb.free 2; have f3 := hb.free 3; have f4 := hb.free 4; clear hb)
        go_ret
        refine ⟨rfl, HP.out.upd hg ((Off.set w1 4 _).trans (Off.set _ 1 _)) ?_, Ho.out.trans ((Off.set w1 4 _).trans (Off.set _ 1 _))⟩
        exact (HP.out.1.set_ 4 _).set_ 1 _
      · have h41b : (s == [41]) = false := by simpa using h41
        go_wp2_with (go_at_call 87; refine HIs.out.mono ?_; rintro e' w1 ⟨rfl, hP, ho⟩; have HP := Lib.hid hP; have Ho := Lib.hid ho; clear ho; obtain ⟨b', off', hpt, -, e0, e1, e2, e3⟩ := hP.now hi; cases hpt; obtain ⟨hb, hl⟩ := hP; clear hl; have hg := hb.lt; have hbw := Nat.lt_trans hbg hg; unfold PC at hb; have c0 := hb.cell 0 _ rfl; have c1 := hb.cell 1 _ rfl; have c2 := hb.cell 2 _ rfl; have c3 := hb.cell 3 _ rfl; have c4 := hb.cell 4 _ rfl; have f1 := hb.free 1; have f2 := hb.free 2; have f3 := hb.free 3; have f4 := hb.free 4; clear hb)
        go_ret
        refine ⟨rfl, HP.out.upd hg (Off.set w1 1 _) ?_, Ho.out.trans (Off.set w1 1 _)⟩
        exact HP.out.1.set_ 1 _
end Go.Proofs.YtobelmipjanibaaDoor

/- The reference's parser: need, token. -/
namespace Go.Proofs.YtobelmipjanibaaDoor
open Go.RowKit
set_option linter.unusedSimpArgs false
set_option linter.unusedVariables false

theorem PW.need {L : List Tok} {p : PS} (h : PW L p) (s : List UInt8) : PW L (p.need L s) := by
  unfold PS.need; split
  · exact h.take s
  · exact (h.take s).fail _ _
theorem PW.token {L : List Tok} {p : PS} (h : PW L p) (k : Int) (hk : k ≠ 5) : PW L (p.token L k).2 := by
  unfold PS.token; split
  · rename_i ht
    have := h.next (by omega)
    have h1 := h.lo; have h2 := h.hi
    exact ⟨h.ends, h.len, this, by simp only; omega, by simp only; omega, h.txt, h.num⟩
  · exact h.fail _ _

set_option maxRecDepth 100000 in
set_option maxHeartbeats 4000000 in
theorem pNeed (g : Nat) (pt : Option Addr) (cap : Nat) (L : List Tok) (p : PS) (w : World) (h : PA g pt cap L p w) (hw : PW L p) (s : List UInt8) :
    Calls Tryd.prog 35 #[.pointer (some ⟨g, 0, none⟩), .string ⟨s.toArray⟩] w (StepR g pt cap L w (.tuple #[]) (p.need L s)) := by
  have HT := Lib.hid (pTake g pt cap L p w h hw s)
  have hq := hw.take s
  have HN := Lib.hid (show p.need L s = _ from rfl)
  obtain ⟨b, off, rfl, hbg, -⟩ := h.now hw.at'
  clear h hw
  obtain ⟨c, hc⟩ : ∃ c, (p.take L s).1 = c := ⟨_, rfl⟩
  obtain ⟨q, hqq⟩ : ∃ q, (p.take L s).2 = q := ⟨_, rfl⟩
  have HN2 : Hid (p.need L s = if c then q else q.fail 14 (q.tok L).pos) := by subst hc hqq; exact HN.out
  rw [HN2.out]
  clear HN HN2
  rw [hqq] at hq HT
  rw [hc] at HT
  clear hc hqq
  have hi := hq.at'
  have hlen := hq.len
  go_enter Tryd.func35, Tryd.ntmps35; (try simp only [List.append_eq, List.cons_append, List.nil_append])
  cases c with
  | true =>
    go_wp2_with (go_at_call 62; refine HT.out.mono ?_; rintro e' w1 ⟨rfl, hP, ho⟩)
    refine bodyPost_end (results_none rfl _ _ _) rfl ?_
    exact ⟨rfl, hP, ho⟩
  | false =>
    go_wp2_with (go_at_call 62; refine HT.out.mono ?_; rintro e' w1 ⟨rfl, hP, ho⟩; have HP := Lib.hid hP; have Ho := Lib.hid ho; clear ho; obtain ⟨b', off', hpt, -, e0, e1, e2, e3⟩ := hP.now hi; cases hpt; obtain ⟨hb, hl⟩ := hP; clear hl; have hg := hb.lt; have hbw := Nat.lt_trans hbg hg; unfold PC at hb; have c0 := hb.cell 0 _ rfl; have c1 := hb.cell 1 _ rfl; have c2 := hb.cell 2 _ rfl; have c3 := hb.cell 3 _ rfl; have c4 := hb.cell 4 _ rfl; have f1 := hb.free 1; have f2 := hb.free 2; have f3 := hb.free 3; have f4 := hb.free 4; clear hb)
    go_still_tail 12, (by kernel_rfl)
    change wpList _ _ _ _ _ w1.drew
    have hbd : Below w1.heap.size w1 w1.drew := (Below.refl _ _).drew
    generalize w1.drew = wd at hbd
    go_wp2_with (go_at_call 63; refine (pFail g _ cap L q wd (HP.out.keep hbd) 14 _).mono ?_; rintro e' w2 ⟨rfl, hP2, ho2⟩)
    refine bodyPost_end (results_none rfl _ _ _) rfl ?_
    exact ⟨rfl, hP2, Ho.out.trans ((Off.of hbd).trans ho2)⟩

theorem Off.rowNew {g : Nat} {w w2 : World} (h : Off g w w2) {k : Nat} (hk : w.heap.size ≤ k) (cs : Array Value) : Off g w (w2.setRow k cs) :=
  ⟨h.os, h.tape, h.output, by rw [setRow_size]; exact h.size, fun j hj hg => by
    rw [← h.block j hj hg]
    show (w2.heap.modify k _)[j]? = _
    rw [Array.getElem?_modify, if_neg (by omega)]⟩
theorem PA.row {g : Nat} {pt : Option Addr} {cap : Nat} {L : List Tok} {p : PS} {w : World} (h : PA g pt cap L p w) {k : Nat} (hk : g < k) (cs : Array Value) : PA g pt cap L p (w.setRow k cs) :=
  ⟨by
    unfold Blk
    show (w.heap.modify k _)[g]? = _
    rw [Array.getElem?_modify, if_neg (by omega)]; exact h.1, h.2.mono (below_setRow (Below.refl g w) (Nat.le_of_lt hk) cs) (Nat.le_refl _)⟩
/-- A token as a value. -/
def Tok.val (t : Tok) : Value := .agg #[.int .i64 t.kind, .string ⟨t.text.toArray⟩, .int .i64 t.num, .int .i64 t.pos]
set_option maxRecDepth 100000 in
set_option maxHeartbeats 4000000 in
theorem pToken (g : Nat) (pt : Option Addr) (cap : Nat) (L : List Tok) (p : PS) (w : World) (h : PA g pt cap L p w) (hw : PW L p) (k : Int) :
    Calls Tryd.prog 36 #[.pointer (some ⟨g, 0, none⟩), .int .i64 k] w (StepR g pt cap L w (p.token L k).1.val (p.token L k).2) := by
  have hi := hw.at'
  have hlen := hw.len
  obtain ⟨b, off, rfl, hbg, e0, e1, e2, e3⟩ := h.now hi
  obtain ⟨hb, hl⟩ := h
  have hg := hb.lt
  have HP := Lib.hid (show PA g (some ⟨b, off, none⟩) cap L p w from ⟨hb, hl⟩)
  clear hl
  have hbw : b < w.heap.size := Nat.lt_trans hbg hg
  have f1 := hb.free 1
  unfold PC at hb
  have c0 := hb.cell 0 _ rfl; have c1 := hb.cell 1 _ rfl; have c2 := hb.cell 2 _ rfl; have c3 := hb.cell 3 _ rfl; have c4 := hb.cell 4 _ rfl
  clear hb
  unfold PS.token
  obtain ⟨t, ht⟩ : ∃ t, p.tok L = t := ⟨_, rfl⟩
  rw [ht] at e0 e1 e2 e3 ⊢
  clear ht
  have HF := Lib.hid (fun (X : World) (hX : PA g (some ⟨b, off, none⟩) cap L p X) => pFail g (some ⟨b, off, none⟩) cap L p X hX 14 t.pos)
  by_cases h0 : p.err = 0 ∧ t.kind = k
  · rw [if_pos h0]
    obtain ⟨h0, h1⟩ := h0
    have h0b : (p.err != 0) = false := by simp [h0]
    subst h1
    go_enter Tryd.func36, Tryd.ntmps36; (try simp only [List.append_eq, List.cons_append, List.nil_append])
    go_wp2
    go_region
    all_goals go_wp2
    have hz : (w.setCell ⟨g, 1, none⟩ (.int .i64 ((p.i : Int) + 1))).heap.size = w.heap.size := by unfold World.setCell; simp
    have hB := (two_at (w.setCell ⟨g, 1, none⟩ (.int .i64 ((p.i : Int) + 1))) [.int .i64 t.kind, .string ⟨t.text.toArray⟩, .int .i64 t.num, .int .i64 t.pos] [.int .i64 t.kind, .string ⟨t.text.toArray⟩, .int .i64 t.num, .int .i64 t.pos] 67 67).drew
    have hb2 := (two_below (w.setCell ⟨g, 1, none⟩ (.int .i64 ((p.i : Int) + 1))) (.cells #[.int .i64 t.kind, .string ⟨t.text.toArray⟩, .int .i64 t.num, .int .i64 t.pos] 67) (.cells #[.int .i64 t.kind, .string ⟨t.text.toArray⟩, .int .i64 t.num, .int .i64 t.pos] 67)).drew
    rw [hz] at hB
    have ho := (Off.set (g := g) w 1 (.int .i64 ((p.i : Int) + 1))).trans (Off.of hb2)
    refine bodyPost_agg (d := _) rfl rfl hB Tryd.underlying67 rfl (by kernel_rfl) rfl ⟨rfl, HP.out.upd hg ho ?_, ho⟩
    exact (HP.out.1.set_ 1 (.int .i64 ((p.i : Int) + 1))).keep hb2
  · rw [if_neg h0]
    by_cases h1 : p.err = 0
    · have h2 : ¬ t.kind = k := fun e => h0 ⟨h1, e⟩
      have h1b : (p.err != 0) = false := by simp [h1]
      have h2b : (t.kind != k) = true := by simp [h2]
      clear h0
      go_enter Tryd.func36, Tryd.ntmps36; (try simp only [List.append_eq, List.cons_append, List.nil_append])
      go_wp2
      go_region
      all_goals go_wp2_with (first
        | (go_at_call 63; refine (HF.out _ (HP.out.keep (two_below w _ _).drew)).mono ?_; rintro e' w2 ⟨rfl, hP2, ho2⟩; have hR2 : Blk w2 w.heap.size 67 [.int .i64 0, .string ⟨#[]⟩, .int .i64 0, .int .i64 0] := (ho2.block w.heap.size (by simp; omega) (Nat.ne_of_gt hg)).trans (two_at w [.int .i64 0, .string ⟨#[]⟩, .int .i64 0, .int .i64 0] [.int .i64 t.kind, .string ⟨t.text.toArray⟩, .int .i64 t.num, .int .i64 t.pos] 67 67).drew; have HR2 := Lib.hid hR2; clear hR2; have HO2 := Lib.hid ((Off.of (g := g) (two_below w _ _).drew).trans ho2); clear ho2)
        | (refine wpList_store_row rfl 67 _ _ rfl w.heap.size #[.int .i64 0, .string ⟨#[]⟩, .int .i64 0, .int .i64 0] rfl rfl 67 _ HR2.out (by kernel_rfl) rfl (by kernel_rfl) ?_))
      exact bodyPost_agg (d := _) rfl rfl (setRow_at HR2.out _) Tryd.underlying67 rfl (by kernel_rfl) rfl ⟨rfl, hP2.row hg _, HO2.out.rowNew (Nat.le_refl _) _⟩
    · have h1b : (p.err != 0) = true := by simp [h1]
      clear h0
      go_enter Tryd.func36, Tryd.ntmps36; (try simp only [List.append_eq, List.cons_append, List.nil_append])
      go_wp2
      go_region
      all_goals go_wp2_with (first
        | (go_at_call 63; refine (HF.out _ (HP.out.keep (two_below w _ _).drew)).mono ?_; rintro e' w2 ⟨rfl, hP2, ho2⟩; have hR2 : Blk w2 w.heap.size 67 [.int .i64 0, .string ⟨#[]⟩, .int .i64 0, .int .i64 0] := (ho2.block w.heap.size (by simp; omega) (Nat.ne_of_gt hg)).trans (two_at w [.int .i64 0, .string ⟨#[]⟩, .int .i64 0, .int .i64 0] [.int .i64 t.kind, .string ⟨t.text.toArray⟩, .int .i64 t.num, .int .i64 t.pos] 67 67).drew; have HR2 := Lib.hid hR2; clear hR2; have HO2 := Lib.hid ((Off.of (g := g) (two_below w _ _).drew).trans ho2); clear ho2)
        | (refine wpList_store_row rfl 67 _ _ rfl w.heap.size #[.int .i64 0, .string ⟨#[]⟩, .int .i64 0, .int .i64 0] rfl rfl 67 _ HR2.out (by kernel_rfl) rfl (by kernel_rfl) ?_))
      exact bodyPost_agg (d := _) rfl rfl (setRow_at HR2.out _) Tryd.underlying67 rfl (by kernel_rfl) rfl ⟨rfl, hP2.row hg _, HO2.out.rowNew (Nat.le_refl _) _⟩
end Go.Proofs.YtobelmipjanibaaDoor

/- The reference's parser: Func. -/
namespace Go.Proofs.YtobelmipjanibaaDoor
open Go.RowKit
set_option linter.unusedSimpArgs false
set_option linter.unusedVariables false

def words1 : List ByteArray := [⟨#[115, 117, 109]⟩, ⟨#[99, 111, 117, 110, 116]⟩, ⟨#[109, 105, 110]⟩, ⟨#[109, 97, 120]⟩, ⟨#[108, 97, 115, 116]⟩, ⟨#[105, 110, 99, 114, 101, 97, 115, 101]⟩]
def words2 : List ByteArray := [⟨#[116, 111, 116, 97, 108]⟩, ⟨#[109, 97, 110, 121]⟩, ⟨#[108, 101, 97, 115, 116]⟩, ⟨#[109, 111, 115, 116]⟩]
/-- Which of the first k words it is not. -/
def noneOf (l : List ByteArray) (k : Nat) (s : ByteArray) : Prop := ∀ j (h : j < l.length), j < k → l[j] ≠ s
theorem noneOf.step {l : List ByteArray} {k : Nat} {s : ByteArray} (h : noneOf l k s) (hk : k < l.length) (hn : l[k] ≠ s) : noneOf l (k + 1) s := fun j hj hjk => by
  by_cases e : j = k
  · subst e; exact hn
  · exact h j hj (by omega)
theorem list_eq_ba (l : List UInt8) (s : ByteArray) : s.data.toList = l ↔ (⟨l.toArray⟩ : ByteArray) = s := by
  obtain ⟨⟨x⟩⟩ := s
  simp [eq_comm]
theorem funcOf_words (s : ByteArray) : funcOf s.data.toList = if ⟨#[115, 117, 109]⟩ = s then some (1, 1) else if ⟨#[99, 111, 117, 110, 116]⟩ = s then some (1, 2) else if ⟨#[109, 105, 110]⟩ = s then some (1, 3) else if ⟨#[109, 97, 120]⟩ = s then some (1, 4)
    else if ⟨#[108, 97, 115, 116]⟩ = s then some (1, 5) else if ⟨#[105, 110, 99, 114, 101, 97, 115, 101]⟩ = s then some (1, 6) else if ⟨#[116, 111, 116, 97, 108]⟩ = s then some (2, 1) else if ⟨#[109, 97, 110, 121]⟩ = s then some (2, 2) else if ⟨#[108, 101, 97, 115, 116]⟩ = s then some (2, 3)
    else if ⟨#[109, 111, 115, 116]⟩ = s then some (2, 4) else none := by
  unfold funcOf
  simp only [wordL]
  simp only [if_true, list_eq_ba]
  simp
theorem funcOf_at1 {s : ByteArray} {k : Nat} (hk : k < 6) (hn : noneOf words1 k s) (h : words1[k]'hk = s) : funcOf s.data.toList = some (1, (k : Int) + 1) := by
  rw [funcOf_words]
  have e0 := hn 0 (by decide); have e1 := hn 1 (by decide); have e2 := hn 2 (by decide); have e3 := hn 3 (by decide); have e4 := hn 4 (by decide)
  have : k = 0 ∨ k = 1 ∨ k = 2 ∨ k = 3 ∨ k = 4 ∨ k = 5 := by omega
  rcases this with rfl | rfl | rfl | rfl | rfl | rfl <;> simp_all [words1] <;> subst h <;> decide
theorem funcOf_at2 {s : ByteArray} {k : Nat} (hk : k < 4) (h1 : noneOf words1 6 s) (hn : noneOf words2 k s) (h : words2[k]'hk = s) : funcOf s.data.toList = some (2, (k : Int) + 1) := by
  rw [funcOf_words]
  have e0 := h1 0 (by decide); have e1 := h1 1 (by decide); have e2 := h1 2 (by decide); have e3 := h1 3 (by decide); have e4 := h1 4 (by decide); have e5 := h1 5 (by decide)
  have f0 := hn 0 (by decide); have f1 := hn 1 (by decide); have f2 := hn 2 (by decide); have f3 := hn 3 (by decide)
  have : k = 0 ∨ k = 1 ∨ k = 2 ∨ k = 3 := by omega
  rcases this with rfl | rfl | rfl | rfl <;> simp_all [words1, words2]
theorem funcOf_none {s : ByteArray} (h1 : noneOf words1 6 s) (hn : noneOf words2 4 s) : funcOf s.data.toList = none := by
  rw [funcOf_words]
  have e0 := h1 0 (by decide); have e1 := h1 1 (by decide); have e2 := h1 2 (by decide); have e3 := h1 3 (by decide); have e4 := h1 4 (by decide); have e5 := h1 5 (by decide)
  have f0 := hn 0 (by decide); have f1 := hn 1 (by decide); have f2 := hn 2 (by decide); have f3 := hn 3 (by decide)
  simp_all [words1, words2]
/-- What Func answers. -/
def funcV (o : Option (Int × Int)) : Value := match o with
  | some (k, f) => .tuple #[.int .i64 k, .int .i64 f, .bool true]
  | none => .tuple #[.int .i64 0, .int .i64 0, .bool false]

theorem arrBlkP {w : World} {g t n sz : Nat} {rows : List (List Value)} (h : Blk w g t rows.flatten) (hg : g < n) (hsz : ∀ r ∈ rows, r.length = sz) (hn : rows.length ≤ maxLen) :
    Arr n w (.slice (some ⟨g, 0, none⟩) rows.length rows.length) sz rows := ⟨_, _, rfl, Nat.le_refl _, hn, fun _ => ⟨g, 0, rfl, hg, fun k r hr j x hx => by
      rw [Nat.zero_add]
      exact h.cell _ _ (flatten_at hsz hr hx)⟩⟩
theorem strsBlkP {w : World} {g n : Nat} (l : List ByteArray) (h : Blk w g 9 (l.map fun s => [Value.string s]).flatten) (hg : g < n) (hs : ∀ x ∈ l, x.size ≤ maxLen) (hn : l.length ≤ maxLen) : IsStrs n w (.slice (some ⟨g, 0, none⟩) l.length l.length) l := by
  have := arrBlkP h hg (sz := 1) (fun r hr => by obtain ⟨s, _, rfl⟩ := List.mem_map.1 hr; rfl) (by simpa using hn)
  exact ⟨by simpa using this, hs⟩

set_option maxRecDepth 100000 in
set_option maxHeartbeats 4000000 in
theorem pFunc (s : ByteArray) (w : World) : Calls Tryd.prog 114 #[.string s] w fun e' w' => e' = .returned (funcV (funcOf s.data.toList)) ∧ Below w.heap.size w w' := by
  have HS1 := Lib.hid (fun (X : World) (g : Nat) (h : Blk X g 9 [.string ⟨#[115, 117, 109]⟩, .string ⟨#[99, 111, 117, 110, 116]⟩, .string ⟨#[109, 105, 110]⟩, .string ⟨#[109, 97, 120]⟩, .string ⟨#[108, 97, 115, 116]⟩, .string ⟨#[105, 110, 99, 114, 101, 97, 115, 101]⟩]) => strsBlkP (n := g + 1) words1 h (Nat.lt_succ_self g) (by intro x hx; simp only [words1, List.mem_cons, List.not_mem_nil, or_false] at hx; rcases hx with rfl | rfl | rfl | rfl | rfl | rfl <;> decide) (by decide))
  have HS2 := Lib.hid (fun (X : World) (g : Nat) (h : Blk X g 9 [.string ⟨#[116, 111, 116, 97, 108]⟩, .string ⟨#[109, 97, 110, 121]⟩, .string ⟨#[108, 101, 97, 115, 116]⟩, .string ⟨#[109, 111, 115, 116]⟩]) => strsBlkP (n := g + 1) words2 h (Nat.lt_succ_self g) (by intro x hx; simp only [words2, List.mem_cons, List.not_mem_nil, or_false] at hx; rcases hx with rfl | rfl | rfl | rfl <;> decide) (by decide))
  go_enter Tryd.func114, Tryd.ntmps114; (try simp only [List.append_eq, List.cons_append, List.nil_append])
  go_wp2
  have hb1 := HS1.out _ _ (Blk.new w [.string ⟨#[115, 117, 109]⟩, .string ⟨#[99, 111, 117, 110, 116]⟩, .string ⟨#[109, 105, 110]⟩, .string ⟨#[109, 97, 120]⟩, .string ⟨#[108, 97, 115, 116]⟩, .string ⟨#[105, 110, 99, 114, 101, 97, 115, 101]⟩] 9)
  obtain ⟨X, hX⟩ : ∃ X, w.alloc (.cells ([.string ⟨#[115, 117, 109]⟩, .string ⟨#[99, 111, 117, 110, 116]⟩, .string ⟨#[109, 105, 110]⟩, .string ⟨#[109, 97, 120]⟩, .string ⟨#[108, 97, 115, 116]⟩, .string ⟨#[105, 110, 99, 114, 101, 97, 115, 101]⟩] : List Value).toArray 9) = X := ⟨_, rfl⟩
  have hbX : Below w.heap.size w X := by rw [← hX]; exact (Below.refl _ _).alloc (Nat.le_refl _) _
  rw [hX] at hb1
  rw [show w.alloc (.cells #[.string ⟨#[115, 117, 109]⟩, .string ⟨#[99, 111, 117, 110, 116]⟩, .string ⟨#[109, 105, 110]⟩, .string ⟨#[109, 97, 120]⟩, .string ⟨#[108, 97, 115, 116]⟩, .string ⟨#[105, 110, 99, 114, 101, 97, 115, 101]⟩] 9) = X from hX]
  clear hX
  have HB1 := Lib.hid hb1; clear hb1
  have HBX := Lib.hid hbX; clear hbX
  go_loop [6] (fun i => ∃ k : Nat, k ≤ 6 ∧ i = .int .i64 k ∧ noneOf words1 k s) (fun i => 6 - (intOf i).toNat)
  case atStart => exact ⟨0, Nat.zero_le _, rfl, fun j _ h => absurd h (Nat.not_lt_zero _)⟩
  case round =>
    obtain ⟨k, hk, rfl, hn⟩ := hrel
    have HN := Lib.hid hn; clear hn
    by_cases hlt : k < 6
    · obtain ⟨b, off, hp, hbn, h1, hs1⟩ := HB1.out.get (k := k) hlt
      simp only [Option.some.injEq, Addr.mk.injEq] at hp
      obtain ⟨rfl, rfl, -⟩ := hp
      rw [Nat.zero_add] at h1
      by_cases he : words1[k] = s
      · have HO := Lib.hid (funcOf_at1 hlt HN.out he)
        have heb : (words1[k].toList == s.toList) = true := by rw [toList_beq]; simpa using he
        go_wp2
        refine bodyPost_ret (results_tmp3 rfl _ _ _) rfl ?_
        exact ⟨by rw [HO.out]; simp only [funcV, Int.add_comm]; rfl, HBX.out⟩
      · have heb : (words1[k].toList == s.toList) = false := by rw [toList_beq]; simpa using he
        have HN2 := Lib.hid (HN.out.step hlt he)
        go_wp2
        exact ⟨⟨k + 1, by omega, by go_num, HN2.out⟩, by simp [intOf]; omega⟩
    · obtain rfl : k = 6 := by omega
      clear hlt hk
      go_wp2
      have hb2 := HS2.out _ _ (Blk.new X [.string ⟨#[116, 111, 116, 97, 108]⟩, .string ⟨#[109, 97, 110, 121]⟩, .string ⟨#[108, 101, 97, 115, 116]⟩, .string ⟨#[109, 111, 115, 116]⟩] 9)
      obtain ⟨Y, hY⟩ : ∃ Y, X.alloc (.cells ([.string ⟨#[116, 111, 116, 97, 108]⟩, .string ⟨#[109, 97, 110, 121]⟩, .string ⟨#[108, 101, 97, 115, 116]⟩, .string ⟨#[109, 111, 115, 116]⟩] : List Value).toArray 9) = Y := ⟨_, rfl⟩
      have hbY : Below w.heap.size w Y := by rw [← hY]; exact HBX.out.alloc HBX.out.size _
      rw [hY] at hb2
      rw [show X.alloc (.cells #[.string ⟨#[116, 111, 116, 97, 108]⟩, .string ⟨#[109, 97, 110, 121]⟩, .string ⟨#[108, 101, 97, 115, 116]⟩, .string ⟨#[109, 111, 115, 116]⟩] 9) = Y from hY]
      clear hY
      have HB2 := Lib.hid hb2; clear hb2
      have HBY := Lib.hid hbY; clear hbY
      go_loop [7] (fun i => ∃ k : Nat, k ≤ 4 ∧ i = .int .i64 k ∧ noneOf words2 k s) (fun i => 4 - (intOf i).toNat)
      case atStart => exact ⟨0, Nat.zero_le _, rfl, fun j _ h => absurd h (Nat.not_lt_zero _)⟩
      case round =>
        obtain ⟨k, hk, rfl, hn⟩ := hrel
        have HN3 := Lib.hid hn; clear hn
        by_cases hlt : k < 4
        · obtain ⟨b, off, hp, hbn, h1, hs1⟩ := HB2.out.get (k := k) hlt
          simp only [Option.some.injEq, Addr.mk.injEq] at hp
          obtain ⟨rfl, rfl, -⟩ := hp
          rw [Nat.zero_add] at h1
          by_cases he : words2[k] = s
          · have HO := Lib.hid (funcOf_at2 hlt HN.out HN3.out he)
            have heb : (words2[k].toList == s.toList) = true := by rw [toList_beq]; simpa using he
            go_wp2
            refine bodyPost_ret (results_tmp3 rfl _ _ _) rfl ?_
            exact ⟨by rw [HO.out]; simp only [funcV, Int.add_comm]; rfl, HBY.out⟩
          · have heb : (words2[k].toList == s.toList) = false := by rw [toList_beq]; simpa using he
            have HN4 := Lib.hid (HN3.out.step hlt he)
            go_wp2
            exact ⟨⟨k + 1, by omega, by go_num, HN4.out⟩, by simp [intOf]; omega⟩
        · obtain rfl : k = 4 := by omega
          have HO := Lib.hid (funcOf_none HN.out HN3.out)
          clear hlt hk
          go_wp2
          refine bodyPost_ret (results_tmp3 rfl _ _ _) rfl ?_
          exact ⟨by rw [HO.out]; rfl, HBY.out⟩
end Go.Proofs.YtobelmipjanibaaDoor
