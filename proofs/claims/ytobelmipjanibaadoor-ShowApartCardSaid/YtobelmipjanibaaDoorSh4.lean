/- show: of, kid; strings.Join of a slice that is read. -/
import Derived.Test.YtobelmipjanibaaDoorSh3
namespace Go.Proofs.YtobelmipjanibaaDoor
open Go.RowKit
set_option linter.unusedSimpArgs false
set_option linter.unusedVariables false

set_option maxRecDepth 100000 in
set_option maxHeartbeats 2000000 in
theorem sOf (e : Ex) (pm pn pk : Option Addr) (cm cn ck : Nat) (w : World) :
    Calls Tryd.prog 46 #[.agg #[.int .i64 e.kind, .int .i64 e.fn, .int .i64 e.op, .int .i64 e.num, .string e.metric, .slice pm e.mats.length cm, .int .i64 e.span, .slice pn e.names.length cn, .slice pk e.kids.length ck]] w fun e' w' => e' = .returned (.agg #[.int .i64 e.kind, .int .i64 e.op]) ∧ Below w.heap.size w w' := by
  go_enter Tryd.func46, Tryd.ntmps46; (try simp only [List.append_eq, List.cons_append, List.nil_append])
  go_wp2_with (refine wpList_store_new rfl 81 _ _ rfl #[.int .i64 e.kind, .int .i64 e.op] 81 _ rfl rfl (by kernel_rfl) rfl (by rfl) ?_)
  have hblk : ((w.alloc (.cells #[.int .i64 e.kind, .int .i64 e.fn, .int .i64 e.op, .int .i64 e.num, .string e.metric, .slice pm e.mats.length cm, .int .i64 e.span, .slice pn e.names.length cn, .slice pk e.kids.length ck] 26)).alloc (.cells #[.int .i64 e.kind, .int .i64 e.op] 81)).heap[w.heap.size + 1]? = some (.cells #[.int .i64 e.kind, .int .i64 e.op] 81 (0, 0)) := by
    have := World.alloc_heap_new (w.alloc (.cells #[.int .i64 e.kind, .int .i64 e.fn, .int .i64 e.op, .int .i64 e.num, .string e.metric, .slice pm e.mats.length cm, .int .i64 e.span, .slice pn e.names.length cn, .slice pk e.kids.length ck] 26)) (.cells #[.int .i64 e.kind, .int .i64 e.op] 81)
    simpa using this
  exact bodyPost_agg (g := w.heap.size + 1) (fr := (0, 0)) (cs := #[.int .i64 e.kind, .int .i64 e.op]) (d := _) rfl rfl hblk Tryd.underlying81 rfl (by kernel_rfl) rfl ⟨rfl, ((Below.refl _ _).alloc (Nat.le_refl _) _).alloc (by simp) _⟩

theorem bJoin (l : List ByteArray) (p : Option Addr) (cap n : Nat) (sep : ByteArray) (W : World) (h : IsStrs n W (.slice p l.length cap) l) (hn : n ≤ W.heap.size) (h1000 : l.length ≤ 1000) (hlen : (Lib.join (l.map (·.data.toList)) sep.data.toList).length ≤ 1000000000) :
    Calls Tryd.prog 45 #[.slice p l.length cap, .string sep] W fun e w' => e = .returned (.string ⟨(Lib.join (l.map (·.data.toList)) sep.data.toList).toArray⟩) ∧ Below W.heap.size W w' := by
  cases l with
  | nil => exact (Tryd.strings_Join_none p cap sep W).mono fun e w' ⟨h1, h2⟩ => ⟨by rw [h1]; rfl, by rw [h2]; exact Below.refl _ _⟩
  | cons x r =>
    obtain ⟨p', cap', hv, h1, h2, h3⟩ := h.open
    cases hv
    unfold maxLen at h2 h3
    obtain ⟨b, off, rfl, hb, -, -⟩ := h.get (k := 0) (by simp)
    refine Tryd.strings_Join b off cap (x :: r) sep W (fun j y hy => ?_) (by omega) (by omega) h1 (by omega)
    obtain ⟨hj, rfl⟩ := List.getElem?_eq_some_iff.1 hy
    obtain ⟨b', off', hp, _, hc, _⟩ := h.get hj
    cases hp
    exact hc

/-- An expression that may be is written. -/
def ExprC (e : Ex) : Prop := e.flat.all rightB = true → e.num64 → ∀ (cs : List Value) (n B b : Nat) (l : List UInt8) (W : World), IsEx n W e cs → n ≤ B → Bld B b l W → B ≤ W.heap.size → TB B W → l.length + (exT e).length ≤ 1000000000 →
    Calls Tryd.prog 27 #[.pointer (some ⟨b, 0, none⟩), .agg cs.toArray] W fun e' w' => e' = .returned (.tuple #[]) ∧ St B b W (l ++ exT e) w'

set_option maxRecDepth 100000 in
set_option maxHeartbeats 4000000 in
theorem sKid (e : Ex) (hE : ExprC e) (hv : e.flat.all rightB = true) (h64 : e.num64) (least : Int) (cs : List Value) (n B b : Nat) (l : List UInt8) (W : World) (he : IsEx n W e cs) (hn : n ≤ B) (hb : Bld B b l W) (hB : B ≤ W.heap.size) (hT : TB B W)
    (hl : l.length + (kidT least (strI e.kind e.op, exT e)).length ≤ 1000000000) :
    Calls Tryd.prog 50 #[.pointer (some ⟨b, 0, none⟩), .agg cs.toArray, .int .i64 least] W fun e' w' => e' = .returned (.tuple #[]) ∧ St B b W (l ++ kidT least (strI e.kind e.op, exT e)) w' := by
  obtain ⟨pm, cm, pn, cn, pk, ck, rfl, -⟩ := he.cellsE
  have hE1 := hE hv h64
  clear hE
  have HE := Lib.hid hE1; clear hE1 hv h64
  have He := Lib.hid he; clear he
  have HW0 := Lib.hid (St.start hb); clear hb
  go_enter Tryd.func50, Tryd.ntmps50; (try simp only [List.append_eq, List.cons_append, List.nil_append])
  go_upto_region 1 with fail
  have hblk := Blk.new W [.int .i64 e.kind, .int .i64 e.fn, .int .i64 e.op, .int .i64 e.num, .string e.metric, .slice pm e.mats.length cm, .int .i64 e.span, .slice pn e.names.length cn, .slice pk e.kids.length ck] 26
  have hst := HW0.out.alloc hB (.cells [.int .i64 e.kind, .int .i64 e.fn, .int .i64 e.op, .int .i64 e.num, .string e.metric, .slice pm e.mats.length cm, .int .i64 e.span, .slice pn e.names.length cn, .slice pk e.kids.length ck].toArray 26)
  have hT1 := hT.on (hst.bel)
  have HIn := Lib.hid (He.out.mono (hst.bel.mono hn) (Nat.le_refl _))
  obtain ⟨W1, hW1⟩ : ∃ W1, W.alloc (.cells [.int .i64 e.kind, .int .i64 e.fn, .int .i64 e.op, .int .i64 e.num, .string e.metric, .slice pm e.mats.length cm, .int .i64 e.span, .slice pn e.names.length cn, .slice pk e.kids.length ck].toArray 26) = W1 := ⟨_, rfl⟩
  rw [hW1] at hblk hst hT1 HIn
  have hW1' : W.alloc (.cells #[.int .i64 e.kind, .int .i64 e.fn, .int .i64 e.op, .int .i64 e.num, .string e.metric, .slice pm e.mats.length cm, .int .i64 e.span, .slice pn e.names.length cn, .slice pk e.kids.length ck] 26) = W1 := hW1
  rw [hW1']
  have hB1 : B ≤ W1.heap.size := hst.size hB
  have gne : W.heap.size ≠ b := hst.bld.ne hblk (by decide)
  have HS0 := Lib.hid hst; clear hst
  have HT := Lib.hid hT1; clear hT1 hT
  have HBk := Lib.hid hblk; clear hblk hW1 hW1'
  have HC := Lib.hid (fun (l' : List UInt8) (X : World) (h : St B b W1 l' X) => show X.cell? ⟨W.heap.size, 0, none⟩ = some (.int .i64 e.kind) ∧ X.cell? ⟨W.heap.size, 1, none⟩ = some (.int .i64 e.fn) ∧ X.cell? ⟨W.heap.size, 2, none⟩ = some (.int .i64 e.op) ∧ X.cell? ⟨W.heap.size, 3, none⟩ = some (.int .i64 e.num) ∧ X.cell? ⟨W.heap.size, 4, none⟩ = some (.string e.metric) ∧ X.cell? ⟨W.heap.size, 5, none⟩ = some (.slice pm e.mats.length cm) ∧ X.cell? ⟨W.heap.size, 6, none⟩ = some (.int .i64 e.span) ∧ X.cell? ⟨W.heap.size, 7, none⟩ = some (.slice pn e.names.length cn) ∧ X.cell? ⟨W.heap.size, 8, none⟩ = some (.slice pk e.kids.length ck) from
    have q := HBk.out.kp h.kp gne (by decide)
    ⟨q.cell 0 _ rfl, q.cell 1 _ rfl, q.cell 2 _ rfl, q.cell 3 _ rfl, q.cell 4 _ rfl, q.cell 5 _ rfl, q.cell 6 _ rfl, q.cell 7 _ rfl, q.cell 8 _ rfl⟩)
  have CO := Lib.hid (fun (l' : List UInt8) (X : World) (h : St B b W1 l' X) => show Calls Tryd.prog 46 #[.agg #[.int .i64 e.kind, .int .i64 e.fn, .int .i64 e.op, .int .i64 e.num, .string e.metric, .slice pm e.mats.length cm, .int .i64 e.span, .slice pn e.names.length cn, .slice pk e.kids.length ck]] X (fun e' w' => e' = .returned (.agg #[.int .i64 e.kind, .int .i64 e.op]) ∧ St B b W1 l' w') from
    (sOf e pm pn pk cm cn ck X).mono fun e' w' ⟨h1, h2⟩ => ⟨h1, h.keep hB1 h2⟩)
  have CS := Lib.hid (fun (l' : List UInt8) (X : World) (h : St B b W1 l' X) => show Calls Tryd.prog 47 #[.agg #[.int .i64 e.kind, .int .i64 e.op]] X (fun e' w' => e' = .returned (.int .i64 (strI e.kind e.op)) ∧ St B b W1 l' w') from
    (sStrength e.kind e.op X).mono fun e' w' ⟨h1, h2⟩ => ⟨h1, h.keep hB1 h2⟩)
  have CE := Lib.hid (fun (l' : List UInt8) (X : World) (h : St B b W1 l' X) (hl' : l'.length + (exT e).length ≤ 1000000000) => show Calls Tryd.prog 27 #[.pointer (some ⟨b, 0, none⟩), .agg #[.int .i64 e.kind, .int .i64 e.fn, .int .i64 e.op, .int .i64 e.num, .string e.metric, .slice pm e.mats.length cm, .int .i64 e.span, .slice pn e.names.length cn, .slice pk e.kids.length ck]] X (fun e' w' => e' = .returned (.tuple #[]) ∧ St B b W1 (l' ++ exT e) w') from
    (HE.out _ n B b l' X (HIn.out.mono (h.bel.mono hn) (Nat.le_refl _)) hn h.bld (h.size hB1) (HT.out.on h.bel) hl').mono fun e' w' ⟨h1, h2⟩ => ⟨h1, h.other h2⟩)
  have hst0 : St B b W1 l W1 := St.start HS0.out.bld
  have hc0 := HC.out _ _ hst0
  by_cases hge : least ≤ strI e.kind e.op
  · have HF : Hid (kidT least (strI e.kind e.op, exT e) = exT e) := by show _ = _; unfold kidT; rw [if_pos hge]
    rw [HF.out] at hl
    have hdec : decide (least ≤ strI e.kind e.op) = true := decide_eq_true hge
    go_upto_region 2 with (first
      | (go_at_call 46; refine (CO.out _ _ hst0).mono ?_; rintro e' w1 ⟨rfl, hst1⟩)
      | (go_at_call 47; refine (CS.out _ _ hst1).mono ?_; rintro e' w2 ⟨rfl, hst2⟩))
    have hc2 := HC.out _ _ hst2
    go_wp2_with (go_at_call 27; refine (CE.out _ _ hst2 (by omega)).mono ?_; rintro e' w3 ⟨rfl, hst3⟩)
    refine bodyPost_ret (results_none rfl _ _ _) rfl ?_
    exact ⟨rfl, by rw [HF.out]; exact HS0.out.other hst3⟩
  · have hdec : decide (least ≤ strI e.kind e.op) = false := decide_eq_false hge
    clear hge
    go_upto_region 2 with (first
      | (go_at_call 46; refine (CO.out _ _ hst0).mono ?_; rintro e' w1 ⟨rfl, hst1⟩)
      | (go_at_call 47; refine (CS.out _ _ hst1).mono ?_; rintro e' w2 ⟨rfl, hst2⟩))
    have hc2 := HC.out _ _ hst2
    have HF : Hid (kidT least (strI e.kind e.op, exT e) = [40] ++ exT e ++ [41]) := by show _ = _; unfold kidT; rw [if_neg (by simpa using hdec)]
    rw [HF.out] at hl
    simp only [List.length_append, List.length_cons, List.length_nil] at hl
    have CW1 := Lib.hid (fun (X : World) (h : St B b W1 l X) => show Calls Tryd.prog 49 #[.pointer (some ⟨b, 0, none⟩), .slice (some ⟨X.heap.size, 0, none⟩) 1 1] (X.alloc (.cells #[.string ⟨#[40]⟩] 9)) (fun e' w' => e' = .returned (.tuple #[]) ∧ St B b W1 (l ++ [40]) w') from
      (h.write (xs := [⟨#[40]⟩]) hB1 _ rfl 1 rfl (by rw [catL_one]; show l.length + 1 ≤ _; omega) (by decide) _ rfl).mono fun e' w' ⟨h1, h2⟩ => ⟨h1, by rw [catL_one] at h2; exact h2⟩)
    have CW2 := Lib.hid (fun (X : World) (h : St B b W1 (l ++ [40] ++ exT e) X) => show Calls Tryd.prog 49 #[.pointer (some ⟨b, 0, none⟩), .slice (some ⟨X.heap.size, 0, none⟩) 1 1] (X.alloc (.cells #[.string ⟨#[41]⟩] 9)) (fun e' w' => e' = .returned (.tuple #[]) ∧ St B b W1 (l ++ [40] ++ exT e ++ [41]) w') from
      (h.write (xs := [⟨#[41]⟩]) hB1 _ rfl 1 rfl (by rw [catL_one]; show (l ++ [40] ++ exT e).length + 1 ≤ _; simp only [List.length_append, List.length_cons, List.length_nil]; omega) (by decide) _ rfl).mono fun e' w' ⟨h1, h2⟩ => ⟨h1, by rw [catL_one] at h2; exact h2⟩)
    go_upto_region 4 with (go_at_call 49; refine (CW1.out _ hst2).mono ?_; rintro e' w3 ⟨rfl, hst3⟩)
    clear hc2
    have hc3 := HC.out _ _ hst3
    go_upto_region 5 with (go_at_call 27; refine (CE.out _ _ hst3 (by simp only [List.length_append, List.length_cons, List.length_nil]; omega)).mono ?_; rintro e' w4 ⟨rfl, hst4⟩)
    go_wp2_with (go_at_call 49; refine (CW2.out _ hst4).mono ?_; rintro e' w5 ⟨rfl, hst5⟩)
    refine bodyPost_end (results_none rfl _ _ _) rfl ?_
    exact ⟨rfl, by rw [HF.out]; have := HS0.out.other hst5; simpa using this⟩
end Go.Proofs.YtobelmipjanibaaDoor
