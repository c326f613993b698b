/- show.Expr, show.Query. -/
import Derived.Test.YtdjdikiimhhjpaaGreatDoorK26
import Derived.Test.YtdjdikiimhhjpaaGreatDoorK27
import Derived.Test.YtdjdikiimhhjpaaGreatDoorK10
set_option maxRecDepth 100000
set_option maxHeartbeats 16000000
namespace Go.Proofs.YtdjdikiimhhjpaaGreatDoor
open Go.RowKit
set_option linter.unusedSimpArgs false
set_option linter.unusedVariables false
/-! ### how long an expression's text is -/
theorem strT_len (a : Int) (x : Int × List UInt8) : (kidT a x).length ≤ x.2.length + 2 := by unfold kidT; split <;> simp <;> omega
theorem sizes_two (l : List Ex) (h : l.length = 2) (h0 : 0 < l.length) (h1 : 1 < l.length) : l[0].size + l[1].size ≤ sizes l := by
  match l, h with
  | [x, y], _ => simp [sizes]
theorem exT_len : ∀ e : Ex, e.flat.all rightB = true → e.num64 → (exT e).length ≤ 4000 * e.size := by
  refine Ex.ind fun e ih hv h64 => ?_
  have hv1 := hv
  rw [Ex.flat_eq, List.all_cons, Bool.and_eq_true] at hv1
  have hkid : ∀ k ∈ e.kids, (exT k).length ≤ 4000 * k.size := fun k hk => ih k hk (List.all_eq_true.2 fun x hx => List.all_eq_true.1 hv1.2 x (flats_iff.2 ⟨k, hk, hx⟩)) (h64.kid hk)
  have h1 := hv1.1
  simp only [rightB, Bool.and_eq_true, kindOk, decide_eq_true_eq] at h1
  have hk : e.kind = 1 ∨ e.kind = 2 ∨ e.kind = 3 ∨ e.kind = 4 ∨ e.kind = 5 := by omega
  have hR := h1.2
  have hsz := e.size_eq
  have hn := itoa_len e.num h64.self
  have hs := signL_length e.op
  rw [exT_eq]
  rcases hk with h | h | h | h | h
  · rw [h, rightH_1] at hR
    obtain ⟨hkn, hfn, hop, hnum, hnam, ⟨hmet, hmats⟩, hspan⟩ := hR; have a1 := wordL_length 1 e.fn; have a2 := name_length hmet; have a3 := matsL_length hmats; have a4 := itoa_len e.span (by omega); have e1 : nodeT e.kind e.fn e.op e.num e.metric e.mats e.span e.names (exTs e.kids) = windowL 1 e.fn e.metric e.mats e.span := by rw [h]; simp [nodeT]
    rw [e1]; unfold windowL; simp only [List.length_append, List.length_cons, List.length_nil]; omega
  · rw [h, rightH_2] at hR
    obtain ⟨hkn, hfn, hop, hnum, hnam, -, hspan⟩ := hR; have hj0 : 0 < e.kids.length := by omega
    have a0 := hkid _ (List.getElem_mem hj0); have s0 := size_le_sizes (List.getElem_mem hj0); have a1 := wordL_length 2 e.fn; have a2 := names_length hnam; rw [h, nodeT, exTs_getD e.kids 0 hj0]; generalize e.kids[0] = k0 at *; simp only [Int.reduceEq, if_true, if_false, List.length_append, List.length_cons, List.length_nil]; omega
  · rw [h, rightH_3] at hR
    obtain ⟨hkn, hfn, hop, hnum, hnam, -, hspan⟩ := hR; have hj0 : 0 < e.kids.length := by omega
    have hj1 : 1 < e.kids.length := by omega
    have a0 := hkid _ (List.getElem_mem hj0); have a1 := hkid _ (List.getElem_mem hj1); have s01 := sizes_two e.kids hkn hj0 hj1; have a2 := onL_length hnam; have b0 := strT_len (strI 3 e.op) (strI e.kids[0].kind e.kids[0].op, exT e.kids[0]); have b1 := strT_len (strI 3 e.op + 1) (strI e.kids[1].kind e.kids[1].op, exT e.kids[1]); rw [h, nodeT, exTs_getD e.kids 0 hj0, exTs_getD e.kids 1 hj1]; simp only [Int.reduceEq, if_true, if_false, List.length_append, List.length_cons, List.length_nil] at b0 b1 ⊢; omega
  · rw [h, rightH_4] at hR
    obtain ⟨hkn, hfn, hop, hnam, -, hspan⟩ := hR; have hj0 : 0 < e.kids.length := by omega
    have a0 := hkid _ (List.getElem_mem hj0); have s0 := size_le_sizes (List.getElem_mem hj0); have b0 := strT_len (strI 4 e.op) (strI e.kids[0].kind e.kids[0].op, exT e.kids[0]); rw [h, nodeT, exTs_getD e.kids 0 hj0]; simp only [Int.reduceEq, if_true, if_false, List.length_append, List.length_cons, List.length_nil] at b0 ⊢; omega
  · rw [h, rightH_5] at hR
    obtain ⟨hkn, hfn, hop, hnam, -, hspan⟩ := hR; have hj0 : 0 < e.kids.length := by omega
    have a0 := hkid _ (List.getElem_mem hj0); have s0 := size_le_sizes (List.getElem_mem hj0); have b0 := strT_len 1 (strI e.kids[0].kind e.kids[0].op, exT e.kids[0]); rw [h, nodeT, exTs_getD e.kids 0 hj0]; simp only [Int.reduceEq, if_true, if_false, List.length_append, List.length_cons, List.length_nil] at b0 ⊢; omega
theorem check_ok {e : Ex} (h : checkExpr e = 0) : e.size ≤ 200 ∧ e.flat.all rightB = true := by
  unfold checkExpr at h
  split at h
  · cases h
  · rename_i h1
    split at h
    · rename_i h2; exact ⟨by omega, h2⟩
    · cases h
theorem exT_short {e : Ex} (h : checkExpr e = 0) (h64 : e.num64) : (exT e).length ≤ 800000 := by
  obtain ⟨h1, h2⟩ := check_ok h
  have := exT_len e h2 h64
  omega
def exprO (e : Ex) : List UInt8 := if checkExpr e = 0 then exT e else []
def queryO (every : Int) (e : Ex) : List UInt8 := if checkQuery every e = 0 then queryT every e else []
theorem sShowExpr (e : Ex) (cs : List Value) (n : Nat) (w : World) (hn : n ≤ w.heap.size) (he : IsEx n w e cs) (h64 : e.num64) (hsz : e.size ≤ 1000000) (hT : TB w.heap.size w) :
    Calls Tryz.prog 28 #[.agg cs.toArray] w fun e' w' => e' = .returned (.tuple #[.string ⟨(exprO e).toArray⟩, .int .i64 (checkExpr e)]) ∧ Below w.heap.size w w' := by
  obtain ⟨pm, cm, pn, cn, pk, ck, rfl, -⟩ := he.cellsE
  have He := Lib.hid he; clear he
  have HT := Lib.hid hT; clear hT
  have H64 := Lib.hid h64; clear h64
  go_enter Tryz.func28, Tryz.ntmps28; (try simp only [List.append_eq, List.cons_append, List.nil_append])
  go_upto_region 2 with (go_at_call 27; refine (aCheckExpr e _ n _ (by simp; omega) (He.out.mono ((Below.refl _ _).alloc hn _) (Nat.le_refl _)) hsz).mono ?_; rintro e' w1 ⟨rfl, hb1⟩; have Hb1 := Lib.hid (((Below.refl _ _).alloc (Nat.le_refl _) _).trans (hb1.mono (by simp))); have hblk1 := (Blk.new w [.int .i64 e.kind, .int .i64 e.fn, .int .i64 e.op, .int .i64 e.num, .string e.metric, .slice pm e.mats.length cm, .int .i64 e.span, .slice pn e.names.length cn, .slice pk e.kids.length ck] 37).keep hb1; have hsz1 : w.heap.size + 1 ≤ w1.heap.size := (by have := hb1.size; simpa using this); clear hb1)
  by_cases hck : checkExpr e = 0
  · have HO : Hid (exprO e = exT e) := by show _ = _; unfold exprO; rw [if_pos hck]
    have hlen := exT_short hck H64.out; obtain ⟨-, hv⟩ := check_ok hck; have Hv := Lib.hid hv; clear hv; have Hck := Lib.hid hck; have Hblk1 := Lib.hid hblk1; clear hblk1
    go_upto_region 5 with fail
    have HB := Lib.hid (Bld.fresh w1); have Hbw : Below w.heap.size w (w1.alloc (.cells #[.pointer none, .slice none 0 0] 85)) := Hb1.out.alloc Hb1.out.size _; have hblk2 := Hblk1.out.keep ((Below.refl w1.heap.size w1).alloc (Nat.le_refl _) (.cells #[.pointer none, .slice none 0 0] 85)); obtain ⟨X, hX⟩ : ∃ X, w1.alloc (.cells #[.pointer none, .slice none 0 0] 85) = X := ⟨_, rfl⟩; have hsX : w1.heap.size ≤ X.heap.size := by rw [← hX]; simp
    rw [hX] at HB Hbw hblk2 ⊢; clear hX; have HBw := Lib.hid Hbw; clear Hbw; obtain ⟨d0, d1, d2, d3, d4, d5, d6, d7, d8⟩ : X.cell? ⟨w.heap.size, 0, none⟩ = some (.int .i64 e.kind) ∧ X.cell? ⟨w.heap.size, 1, none⟩ = some (.int .i64 e.fn) ∧ X.cell? ⟨w.heap.size, 2, none⟩ = some (.int .i64 e.op) ∧ X.cell? ⟨w.heap.size, 3, none⟩ = some (.int .i64 e.num) ∧ X.cell? ⟨w.heap.size, 4, none⟩ = some (.string e.metric) ∧ X.cell? ⟨w.heap.size, 5, none⟩ = some (.slice pm e.mats.length cm) ∧ X.cell? ⟨w.heap.size, 6, none⟩ = some (.int .i64 e.span) ∧ X.cell? ⟨w.heap.size, 7, none⟩ = some (.slice pn e.names.length cn) ∧ X.cell? ⟨w.heap.size, 8, none⟩ = some (.slice pk e.kids.length ck) := ⟨hblk2.cell 0 _ rfl, hblk2.cell 1 _ rfl, hblk2.cell 2 _ rfl, hblk2.cell 3 _ rfl, hblk2.cell 4 _ rfl, hblk2.cell 5 _ rfl, hblk2.cell 6 _ rfl, hblk2.cell 7 _ rfl, hblk2.cell 8 _ rfl⟩; clear hblk2; have CE := Lib.hid (sExpr e Hv.out H64.out _ n w1.heap.size w1.heap.size [] X (He.out.mono (HBw.out.mono hn) (Nat.le_refl _)) (by omega) HB.out hsX ((HT.out.on HBw.out).less (by omega)) (by simp; omega)); clear hck hlen
    go_wp2_with (first
      | (go_at_call 41; refine CE.out.mono ?_; rintro e' w2 ⟨rfl, hst⟩; have HST := Lib.hid hst; clear hst)
      | (go_at_call 42; refine (bStr _ _ _ _ HST.out.bld (Nat.le_trans hsX HST.out.bel.size)).mono ?_; rintro e' w3 ⟨rfl, -, hb3, -⟩; have Hb3 := Lib.hid hb3; clear hb3))
    refine bodyPost_ret (results_tmp2 rfl _ _ _) rfl ?_; exact ⟨by rw [HO.out, Hck.out]; rfl, HBw.out.trans ((HST.out.bel.trans Hb3.out).mono (by omega))⟩
  · have HO : Hid (exprO e = []) := by show _ = _; unfold exprO; rw [if_neg hck]
    have hb : (checkExpr e != 0) = true := by simpa using hck
    go_wp2; refine bodyPost_ret (results_tmp2 rfl _ _ _) rfl ?_; exact ⟨by rw [HO.out]; rfl, Hb1.out⟩
end Go.Proofs.YtdjdikiimhhjpaaGreatDoor
namespace Go.Proofs.YtdjdikiimhhjpaaGreatDoor
open Go.RowKit
set_option linter.unusedSimpArgs false
set_option linter.unusedVariables false
theorem IsEx.len9 {n : Nat} {w : World} {e : Ex} {r : List Value} (h : IsEx n w e r) : r.length = 9 := by cases h; rfl
theorem arrBlk {w : World} {g t n sz : Nat} {rows : List (List Value)} (h : Blk w g t rows.flatten) (hg : g < n) (hsz : ∀ r ∈ rows, r.length = sz) (hn : rows.length ≤ maxLen) :
    Arr n w (.slice (some ⟨g, 0, none⟩) rows.length rows.length) sz rows := by
  refine ⟨_, _, rfl, Nat.le_refl _, hn, fun _ => ⟨g, 0, rfl, hg, fun k r hr j x hx => ?_⟩⟩
  rw [Nat.zero_add]
  exact h.cell _ _ (flatten_at hsz hr hx)
theorem setRow_other (w : World) (g k : Nat) (cs : Array Value) (h : k ≠ g) : (w.setRow g cs).heap[k]? = w.heap[k]? := by
  show (w.heap.modify g _)[k]? = _
  rw [Array.getElem?_modify, if_neg (by omega)]
theorem strsBlk {w : World} {g n : Nat} (l : List ByteArray) (h : Blk w g 9 (l.map fun s => [Value.string s]).flatten) (hg : g < n) (hs : ∀ x ∈ l, x.size ≤ maxLen) (hn : l.length ≤ maxLen) : IsStrs n w (.slice (some ⟨g, 0, none⟩) l.length l.length) l := by
  have := arrBlk (sz := 1) h hg (by intro r hr; obtain ⟨x, _, rfl⟩ := List.mem_map.1 hr; rfl) (by rw [List.length_map]; exact hn)
  rw [List.length_map] at this
  exact ⟨this, hs⟩
theorem exsBlk {w : World} {g n m : Nat} (l : List Ex) (rows : List (List Value)) (h : Blk w g 37 rows.flatten) (hg : g < n) (hnm : m ≤ n) (hl : rows.length = l.length) (hm : rows.length ≤ maxLen) (hr : ∀ (k : Nat) (r : List Value) (e : Ex), rows[k]? = some r → l[k]? = some e → IsEx m w e r) :
    IsExs n w (.slice (some ⟨g, 0, none⟩) rows.length rows.length) l := by
  refine ⟨rows, arrBlk h hg (fun r hr' => ?_) hm, hl, fun k r e h1 h2 => (hr k r e h1 h2).mono (Below.refl _ _) hnm⟩
  obtain ⟨k, hk, rfl⟩ := List.getElem_of_mem hr'
  exact (hr k rows[k] (l[k]'(by omega)) (by simp) (by simp)).len9
theorem IsEx.node {n : Nat} {w : World} {kind fn op num span : Int} {names : List ByteArray} {kids : List Ex} {vn vk : Value} (hn : IsStrs n w vn names) (hk : IsExs n w vk kids) :
    IsEx n w (.mk kind fn op num ⟨#[]⟩ [] span names kids) [.int .i64 kind, .int .i64 fn, .int .i64 op, .int .i64 num, .string ⟨#[]⟩, .slice none 0 0, .int .i64 span, vn, vk] := by
  obtain ⟨rows, h1, h2, h3⟩ := hk
  exact .mk (by decide) ⟨Arr.nil _ _ _, by simp⟩ hn h1 h2 h3
theorem noStrs (n : Nat) (w : World) : IsStrs n w (.slice none 0 0) [] := ⟨Arr.nil _ _ _, by simp⟩
def sumE (m : ByteArray) : Ex := .mk 1 1 0 0 m [] 1 [] []
def sumC (m : ByteArray) : List Value := [.int .i64 1, .int .i64 1, .int .i64 0, .int .i64 0, .string m, .slice none 0 0, .int .i64 1, .slice none 0 0, .slice none 0 0]
theorem sum_is (m : ByteArray) (hm : m.size ≤ maxLen) (n : Nat) (w : World) : IsEx n w (sumE m) (sumC m) :=
  .mk (rows := []) hm ⟨Arr.nil _ _ _, by simp⟩ ⟨Arr.nil _ _ _, by simp⟩ (Arr.nil _ _ _) rfl (fun k r e hr _ => by simp at hr)
def winE (fn span : Int) : Ex := .mk 1 fn 0 0 ⟨#[99, 112, 117]⟩ [] span [] []
theorem win_is2 (fn span : Int) (n : Nat) (w : World) : IsEx n w (winE fn span) [.int .i64 1, .int .i64 fn, .int .i64 0, .int .i64 0, .string ⟨#[99, 112, 117]⟩, .slice none 0 0, .int .i64 span, .slice none 0 0, .slice none 0 0] :=
  .mk (rows := []) (by decide) ⟨Arr.nil _ _ _, by simp⟩ ⟨Arr.nil _ _ _, by simp⟩ (Arr.nil _ _ _) rfl (fun k r e hr _ => by simp at hr)
theorem xWin (fn span : Int) (w : World) : Calls Tryz.prog 19 #[.int .i64 fn, .int .i64 span] w fun e' w' =>
    e' = .returned (.agg #[.int .i64 1, .int .i64 fn, .int .i64 0, .int .i64 0, .string ⟨#[99, 112, 117]⟩, .slice none 0 0, .int .i64 span, .slice none 0 0, .slice none 0 0]) ∧ Below w.heap.size w w' := by
  go_enter Tryz.func19, Tryz.ntmps19; (try simp only [List.append_eq, List.cons_append, List.nil_append])
  go_wp2
  exact bodyPost_agg (g := w.heap.size) (fr := (0, 0)) rfl rfl (World.alloc_heap_new w _) Tryz.underlying37 rfl (by kernel_rfl) rfl ⟨rfl, (Below.refl _ _).alloc (Nat.le_refl _) _⟩
def twoE (op : Int) (a b : Ex) : Ex := .mk 3 0 op 0 ⟨#[]⟩ [] 0 [] [a, b]
end Go.Proofs.YtdjdikiimhhjpaaGreatDoor
