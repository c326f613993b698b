/- show.Expr, show.Query. -/
import Derived.Test.YtobelmipjanibaaDoorK19
import Derived.Test.YtobelmipjanibaaDoorK21
import Derived.Test.YtobelmipjanibaaDoorK20
namespace Go.Proofs.YtobelmipjanibaaDoor
open Go.RowKit
set_option linter.unusedSimpArgs false
set_option linter.unusedVariables false

/-! ### how long an expression's text is -/
theorem strT_len (a : Int) (x : Int × List UInt8) : (kidT a x).length ≤ x.2.length + 2 := by unfold kidT; split <;> simp <;> omega
theorem sizes_two (l : List Ex) (h : l.length = 2) (h0 : 0 < l.length) (h1 : 1 < l.length) : l[0].size + l[1].size ≤ sizes l := by
  match l, h with
  | [x, y], _ => simp [sizes]
theorem exT_len : ∀ e : Ex, e.flat.all rightB = true → e.num64 → (exT e).length ≤ 4000 * e.size := by
  refine Ex.ind fun e ih hv h64 => ?_
  have hv1 := hv
  rw [Ex.flat_eq, List.all_cons, Bool.and_eq_true] at hv1
  have hkid : ∀ k ∈ e.kids, (exT k).length ≤ 4000 * k.size := fun k hk => ih k hk (List.all_eq_true.2 fun x hx => List.all_eq_true.1 hv1.2 x (flats_iff.2 ⟨k, hk, hx⟩)) (h64.kid hk)
  have h1 := hv1.1
  simp only [rightB, Bool.and_eq_true, kindOk, decide_eq_true_eq] at h1
  have hk : e.kind = 1 ∨ e.kind = 2 ∨ e.kind = 3 ∨ e.kind = 4 ∨ e.kind = 5 := by omega
  have hR := h1.2
  have hsz := e.size_eq
  have hn := itoa_len e.num h64.self
  have hs := signL_length e.op
  rw [exT_eq]
  rcases hk with h | h | h | h | h
  · rw [h, rightH_1] at hR
    obtain ⟨hkn, hfn, hop, hnum, hnam, ⟨hmet, hmats⟩, hspan⟩ := hR
    have a1 := wordL_length 1 e.fn
    have a2 := name_length hmet
    have a3 := matsL_length hmats
    have a4 := itoa_len e.span (by omega)
    have e1 : nodeT e.kind e.fn e.op e.num e.metric e.mats e.span e.names (exTs e.kids) = windowL 1 e.fn e.metric e.mats e.span := by rw [h]; simp [nodeT]
    rw [e1]
    unfold windowL
    simp only [List.length_append, List.length_cons, List.length_nil]
    omega
  · rw [h, rightH_2] at hR
    obtain ⟨hkn, hfn, hop, hnum, hnam, -, hspan⟩ := hR
    have hj0 : 0 < e.kids.length := by omega
    have a0 := hkid _ (List.getElem_mem hj0)
    have s0 := size_le_sizes (List.getElem_mem hj0)
    have a1 := wordL_length 2 e.fn
    have a2 := names_length hnam
    rw [h, nodeT, exTs_getD e.kids 0 hj0]
    generalize e.kids[0] = k0 at *
    simp only [Int.reduceEq, if_true, if_false, List.length_append, List.length_cons, List.length_nil]
    omega
  · rw [h, rightH_3] at hR
    obtain ⟨hkn, hfn, hop, hnum, hnam, -, hspan⟩ := hR
    have hj0 : 0 < e.kids.length := by omega
    have hj1 : 1 < e.kids.length := by omega
    have a0 := hkid _ (List.getElem_mem hj0)
    have a1 := hkid _ (List.getElem_mem hj1)
    have s01 := sizes_two e.kids hkn hj0 hj1
    have a2 := onL_length hnam
    have b0 := strT_len (strI 3 e.op) (strI e.kids[0].kind e.kids[0].op, exT e.kids[0])
    have b1 := strT_len (strI 3 e.op + 1) (strI e.kids[1].kind e.kids[1].op, exT e.kids[1])
    rw [h, nodeT, exTs_getD e.kids 0 hj0, exTs_getD e.kids 1 hj1]
    simp only [Int.reduceEq, if_true, if_false, List.length_append, List.length_cons, List.length_nil] at b0 b1 ⊢
    omega
  · rw [h, rightH_4] at hR
    obtain ⟨hkn, hfn, hop, hnam, -, hspan⟩ := hR
    have hj0 : 0 < e.kids.length := by omega
    have a0 := hkid _ (List.getElem_mem hj0)
    have s0 := size_le_sizes (List.getElem_mem hj0)
    have b0 := strT_len (strI 4 e.op) (strI e.kids[0].kind e.kids[0].op, exT e.kids[0])
    rw [h, nodeT, exTs_getD e.kids 0 hj0]
    simp only [Int.reduceEq, if_true, if_false, List.length_append, List.length_cons, List.length_nil] at b0 ⊢
    omega
  · rw [h, rightH_5] at hR
    obtain ⟨hkn, hfn, hop, hnam, -, hspan⟩ := hR
    have hj0 : 0 < e.kids.length := by omega
    have a0 := hkid _ (List.getElem_mem hj0)
    have s0 := size_le_sizes (List.getElem_mem hj0)
    have b0 := strT_len 1 (strI e.kids[0].kind e.kids[0].op, exT e.kids[0])
    rw [h, nodeT, exTs_getD e.kids 0 hj0]
    simp only [Int.reduceEq, if_true, if_false, List.length_append, List.length_cons, List.length_nil] at b0 ⊢
    omega
theorem check_ok {e : Ex} (h : checkExpr e = 0) : e.size ≤ 200 ∧ e.flat.all rightB = true := by
  unfold checkExpr at h
  split at h
  · cases h
  · rename_i h1
    split at h
    · rename_i h2; exact ⟨by omega, h2⟩
    · cases h
theorem exT_short {e : Ex} (h : checkExpr e = 0) (h64 : e.num64) : (exT e).length ≤ 800000 := by
  obtain ⟨h1, h2⟩ := check_ok h
  have := exT_len e h2 h64
  omega
/-- What show.Expr and show.Query tell. -/
def exprO (e : Ex) : List UInt8 := if checkExpr e = 0 then exT e else []
def queryO (every : Int) (e : Ex) : List UInt8 := if checkQuery every e = 0 then queryT every e else []

set_option maxRecDepth 100000 in
set_option maxHeartbeats 4000000 in
theorem sShowExpr (e : Ex) (cs : List Value) (n : Nat) (w : World) (hn : n ≤ w.heap.size) (he : IsEx n w e cs) (h64 : e.num64) (hsz : e.size ≤ 1000000) (hT : TB w.heap.size w) :
    Calls Tryd.prog 14 #[.agg cs.toArray] w fun e' w' => e' = .returned (.tuple #[.string ⟨(exprO e).toArray⟩, .int .i64 (checkExpr e)]) ∧ Below w.heap.size w w' := by
  obtain ⟨pm, cm, pn, cn, pk, ck, rfl, -⟩ := he.cellsE
  have He := Lib.hid he; clear he
  have HT := Lib.hid hT; clear hT
  have H64 := Lib.hid h64; clear h64
  go_enter Tryd.func14, Tryd.ntmps14; (try simp only [List.append_eq, List.cons_append, List.nil_append])
  go_upto_region 2 with (go_at_call 26; refine (aCheckExpr e _ n _ (by simp; omega) (He.out.mono ((Below.refl _ _).alloc hn _) (Nat.le_refl _)) hsz).mono ?_; rintro e' w1 ⟨rfl, hb1⟩; have Hb1 := Lib.hid (((Below.refl _ _).alloc (Nat.le_refl _) _).trans (hb1.mono (by simp))); have hblk1 := (Blk.new w [.int .i64 e.kind, .int .i64 e.fn, .int .i64 e.op, .int .i64 e.num, .string e.metric, .slice pm e.mats.length cm, .int .i64 e.span, .slice pn e.names.length cn, .slice pk e.kids.length ck] 26).keep hb1; have hsz1 : w.heap.size + 1 ≤ w1.heap.size := (by have := hb1.size; simpa using this); clear hb1)
  by_cases hck : checkExpr e = 0
  · have HO : Hid (exprO e = exT e) := by show _ = _; unfold exprO; rw [if_pos hck]
    have hlen := exT_short hck H64.out
    obtain ⟨-, hv⟩ := check_ok hck
    have Hv := Lib.hid hv; clear hv
    have Hck := Lib.hid hck
    have Hblk1 := Lib.hid hblk1; clear hblk1
    go_upto_region 5 with fail
    have HB := Lib.hid (Bld.fresh w1)
    have Hbw : Below w.heap.size w (w1.alloc (.cells #[.pointer none, .slice none 0 0] 57)) := Hb1.out.alloc Hb1.out.size _
    have hblk2 := Hblk1.out.keep ((Below.refl w1.heap.size w1).alloc (Nat.le_refl _) (.cells #[.pointer none, .slice none 0 0] 57))
    obtain ⟨X, hX⟩ : ∃ X, w1.alloc (.cells #[.pointer none, .slice none 0 0] 57) = X := ⟨_, rfl⟩
    have hsX : w1.heap.size ≤ X.heap.size := by rw [← hX]; simp
    rw [hX] at HB Hbw hblk2 ⊢
    clear hX
    have HBw := Lib.hid Hbw; clear Hbw
    obtain ⟨d0, d1, d2, d3, d4, d5, d6, d7, d8⟩ : X.cell? ⟨w.heap.size, 0, none⟩ = some (.int .i64 e.kind) ∧ X.cell? ⟨w.heap.size, 1, none⟩ = some (.int .i64 e.fn) ∧ X.cell? ⟨w.heap.size, 2, none⟩ = some (.int .i64 e.op) ∧ X.cell? ⟨w.heap.size, 3, none⟩ = some (.int .i64 e.num) ∧ X.cell? ⟨w.heap.size, 4, none⟩ = some (.string e.metric) ∧ X.cell? ⟨w.heap.size, 5, none⟩ = some (.slice pm e.mats.length cm) ∧ X.cell? ⟨w.heap.size, 6, none⟩ = some (.int .i64 e.span) ∧ X.cell? ⟨w.heap.size, 7, none⟩ = some (.slice pn e.names.length cn) ∧ X.cell? ⟨w.heap.size, 8, none⟩ = some (.slice pk e.kids.length ck) := ⟨hblk2.cell 0 _ rfl, hblk2.cell 1 _ rfl, hblk2.cell 2 _ rfl, hblk2.cell 3 _ rfl, hblk2.cell 4 _ rfl, hblk2.cell 5 _ rfl, hblk2.cell 6 _ rfl, hblk2.cell 7 _ rfl, hblk2.cell 8 _ rfl⟩
    clear hblk2
    have CE := Lib.hid (sExpr e Hv.out H64.out _ n w1.heap.size w1.heap.size [] X (He.out.mono (HBw.out.mono hn) (Nat.le_refl _)) (by omega) HB.out hsX ((HT.out.on HBw.out).less (by omega)) (by simp; omega))
    clear hck hlen
    go_wp2_with (first
      | (go_at_call 27; refine CE.out.mono ?_; rintro e' w2 ⟨rfl, hst⟩; have HST := Lib.hid hst; clear hst)
      | (go_at_call 28; refine (bStr _ _ _ _ HST.out.bld (Nat.le_trans hsX HST.out.bel.size)).mono ?_; rintro e' w3 ⟨rfl, -, hb3, -⟩; have Hb3 := Lib.hid hb3; clear hb3))
    refine bodyPost_ret (results_tmp2 rfl _ _ _) rfl ?_
    exact ⟨by rw [HO.out, Hck.out]; rfl, HBw.out.trans ((HST.out.bel.trans Hb3.out).mono (by omega))⟩
  · have HO : Hid (exprO e = []) := by show _ = _; unfold exprO; rw [if_neg hck]
    have hb : (checkExpr e != 0) = true := by simpa using hck
    go_wp2
    refine bodyPost_ret (results_tmp2 rfl _ _ _) rfl ?_
    exact ⟨by rw [HO.out]; rfl, Hb1.out⟩

set_option maxRecDepth 100000 in
set_option maxHeartbeats 4000000 in
theorem sShowQuery (every : Int) (e : Ex) (cs : List Value) (n : Nat) (w : World) (hn : n ≤ w.heap.size) (he : IsEx n w e cs) (h64 : e.num64) (hev : -9223372036854775808 ≤ every ∧ every ≤ 9223372036854775807) (hsz : e.size ≤ 1000000) (hT : TB w.heap.size w) :
    Calls Tryd.prog 16 #[.agg (.int .i64 every :: cs).toArray] w fun e' w' => e' = .returned (.tuple #[.string ⟨(queryO every e).toArray⟩, .int .i64 (checkQuery every e)]) ∧ Below w.heap.size w w' := by
  have hCQ := fun W (hb : Below w.heap.size w W) => aCheck every e cs n W (Nat.le_trans hn hb.size) (he.mono (hb.mono hn) (Nat.le_refl _)) hsz
  have hCE := fun W (hb : Below w.heap.size w W) => sShowExpr e cs n W (Nat.le_trans hn hb.size) (he.mono (hb.mono hn) (Nat.le_refl _)) h64 hsz ((hT.on hb).less hb.size)
  obtain ⟨pm, cm, pn, cn, pk, ck, rfl, -⟩ := he.cellsE
  have HCQ := Lib.hid hCQ; clear hCQ
  have HCE := Lib.hid hCE; clear hCE
  have HF := Lib.hid (fun W (hb : Below w.heap.size w W) => bFmt every hev w.heap.size W (hT.on hb)); clear hT
  have He := Lib.hid he; clear he
  have H64 := Lib.hid h64; clear h64
  go_enter Tryd.func16, Tryd.ntmps16; (try simp only [List.append_eq, List.cons_append, List.nil_append])
  go_upto_region 2 with (go_at_call 31; refine (HCQ.out _ ((Below.refl _ _).alloc (Nat.le_refl _) _)).mono ?_; rintro e' w1 ⟨rfl, hb1⟩; have Hb1 := Lib.hid (((Below.refl _ _).alloc (Nat.le_refl _) _).trans (hb1.mono (by simp))); have hblk1 := (Blk.new w (.int .i64 every :: [.int .i64 e.kind, .int .i64 e.fn, .int .i64 e.op, .int .i64 e.num, .string e.metric, .slice pm e.mats.length cm, .int .i64 e.span, .slice pn e.names.length cn, .slice pk e.kids.length ck]) 38).keep hb1; clear hb1)
  by_cases hck : checkQuery every e = 0
  · have hck2 : checkExpr e = 0 := by
      unfold checkQuery at hck
      split at hck
      · exact hck
      · cases hck
    have HO : Hid (queryO every e = queryT every e) := by show _ = _; unfold queryO; rw [if_pos hck]
    have HO2 : Hid (exprO e = exT e) := by show _ = _; unfold exprO; rw [if_pos hck2]
    have hlen := exT_short hck2 H64.out
    have hil := itoa_len every hev
    obtain ⟨T, hT⟩ : ∃ T : ByteArray, T = ⟨(exprO e).toArray⟩ := ⟨_, rfl⟩
    have hTs : T.size ≤ 800000 := by rw [hT, HO2.out]; simpa [ByteArray.size] using hlen
    obtain ⟨I, hI⟩ : ∃ I : ByteArray, I = ⟨(Lib.itoa every).toArray⟩ := ⟨_, rfl⟩
    have hIs : I.size ≤ 21 := by rw [hI]; simpa [ByteArray.size] using hil
    rw [← hT] at HCE
    rw [← hI] at HF
    have HTT := Lib.hid hT; clear hT
    have HII := Lib.hid hI; clear hI
    have Hck := Lib.hid hck
    clear hlen hil hck2
    have Hblk1 := Lib.hid hblk1
    obtain ⟨d0, d1, d2, d3, d4, d5, d6, d7, d8, d9⟩ : w1.cell? ⟨w.heap.size, 0, none⟩ = some (.int .i64 every) ∧ w1.cell? ⟨w.heap.size, 1, none⟩ = some (.int .i64 e.kind) ∧ w1.cell? ⟨w.heap.size, 2, none⟩ = some (.int .i64 e.fn) ∧ w1.cell? ⟨w.heap.size, 3, none⟩ = some (.int .i64 e.op) ∧ w1.cell? ⟨w.heap.size, 4, none⟩ = some (.int .i64 e.num) ∧ w1.cell? ⟨w.heap.size, 5, none⟩ = some (.string e.metric) ∧ w1.cell? ⟨w.heap.size, 6, none⟩ = some (.slice pm e.mats.length cm) ∧ w1.cell? ⟨w.heap.size, 7, none⟩ = some (.int .i64 e.span) ∧ w1.cell? ⟨w.heap.size, 8, none⟩ = some (.slice pn e.names.length cn) ∧ w1.cell? ⟨w.heap.size, 9, none⟩ = some (.slice pk e.kids.length ck) := ⟨hblk1.cell 0 _ rfl, hblk1.cell 1 _ rfl, hblk1.cell 2 _ rfl, hblk1.cell 3 _ rfl, hblk1.cell 4 _ rfl, hblk1.cell 5 _ rfl, hblk1.cell 6 _ rfl, hblk1.cell 7 _ rfl, hblk1.cell 8 _ rfl, hblk1.cell 9 _ rfl⟩
    clear hblk1
    go_upto_region 5 with (go_at_call 14; refine (HCE.out _ Hb1.out).mono ?_; rintro e' w2 ⟨rfl, hb2⟩; have c0 := (Hblk1.out.keep hb2).cell 0 _ rfl; have Hb2 := Lib.hid (Hb1.out.trans (hb2.mono Hb1.out.size)); clear hb2)
    clear hck
    have s1 : (⟨#[101, 118, 101, 114, 121, 32]⟩ : ByteArray).size = 6 := rfl
    have s2 : (⟨#[58, 32]⟩ : ByteArray).size = 2 := rfl
    have r1 : ∀ W, (binOp BinOp.add 9 (.string ⟨#[101, 118, 101, 114, 121, 32]⟩) (.string I)).run Tryd.prog W = .ok (.string (⟨#[101, 118, 101, 114, 121, 32]⟩ ++ I)) W := fun W => concat_run _ _ W (by omega)
    have r2 : ∀ W, (binOp BinOp.add 9 (.string (⟨#[101, 118, 101, 114, 121, 32]⟩ ++ I)) (.string ⟨#[58, 32]⟩)).run Tryd.prog W = .ok (.string (⟨#[101, 118, 101, 114, 121, 32]⟩ ++ I ++ ⟨#[58, 32]⟩)) W := fun W => concat_run _ _ W (by rw [ByteArray.size_append]; omega)
    have r3 : ∀ W, (binOp BinOp.add 9 (.string (⟨#[101, 118, 101, 114, 121, 32]⟩ ++ I ++ ⟨#[58, 32]⟩)) (.string T)).run Tryd.prog W = .ok (.string (⟨#[101, 118, 101, 114, 121, 32]⟩ ++ I ++ ⟨#[58, 32]⟩ ++ T)) W := fun W => concat_run _ _ W (by rw [ByteArray.size_append, ByteArray.size_append]; omega)
    clear s1 s2
    go_wp2_with (go_at_call 32; refine (HF.out _ Hb2.out).mono ?_; rintro e' w3 ⟨rfl, hb3⟩; have Hb3 := Lib.hid (Hb2.out.trans (hb3.mono Hb2.out.size)); clear hb3)
    refine bodyPost_ret (results_tmp2 rfl _ _ _) rfl ?_
    refine ⟨?_, Hb3.out⟩
    have hfin : (⟨#[101, 118, 101, 114, 121, 32]⟩ : ByteArray) ++ I ++ ⟨#[58, 32]⟩ ++ T = ⟨(queryO every e).toArray⟩ := by
      apply ByteArray.ext
      rw [HTT.out, HII.out, HO.out, HO2.out]
      simp [queryT, ByteArray.data_append]
    rw [← hfin, Hck.out]; rfl
  · have HO : Hid (queryO every e = []) := by show _ = _; unfold queryO; rw [if_neg hck]
    have hb : (checkQuery every e != 0) = true := by simpa using hck
    go_wp2
    refine bodyPost_ret (results_tmp2 rfl _ _ _) rfl ?_
    exact ⟨by rw [HO.out]; rfl, Hb1.out⟩
end Go.Proofs.YtobelmipjanibaaDoor

/- ShowNames: lives and the walk. -/
namespace Go.Proofs.YtobelmipjanibaaDoor
open Go.RowKit
set_option linter.unusedSimpArgs false
set_option linter.unusedVariables false

theorem IsEx.len9 {n : Nat} {w : World} {e : Ex} {r : List Value} (h : IsEx n w e r) : r.length = 9 := by cases h; rfl
theorem arrBlk {w : World} {g t n sz : Nat} {rows : List (List Value)} (h : Blk w g t rows.flatten) (hg : g < n) (hsz : ∀ r ∈ rows, r.length = sz) (hn : rows.length ≤ maxLen) :
    Arr n w (.slice (some ⟨g, 0, none⟩) rows.length rows.length) sz rows := by
  refine ⟨_, _, rfl, Nat.le_refl _, hn, fun _ => ⟨g, 0, rfl, hg, fun k r hr j x hx => ?_⟩⟩
  rw [Nat.zero_add]
  exact h.cell _ _ (flatten_at hsz hr hx)
theorem setRow_other (w : World) (g k : Nat) (cs : Array Value) (h : k ≠ g) : (w.setRow g cs).heap[k]? = w.heap[k]? := by
  show (w.heap.modify g _)[k]? = _
  rw [Array.getElem?_modify, if_neg (by omega)]
theorem strsBlk {w : World} {g n : Nat} (l : List ByteArray) (h : Blk w g 9 (l.map fun s => [Value.string s]).flatten) (hg : g < n) (hs : ∀ x ∈ l, x.size ≤ maxLen) (hn : l.length ≤ maxLen) : IsStrs n w (.slice (some ⟨g, 0, none⟩) l.length l.length) l := by
  have := arrBlk (sz := 1) h hg (by intro r hr; obtain ⟨x, _, rfl⟩ := List.mem_map.1 hr; rfl) (by rw [List.length_map]; exact hn)
  rw [List.length_map] at this
  exact ⟨this, hs⟩
theorem exsBlk {w : World} {g n m : Nat} (l : List Ex) (rows : List (List Value)) (h : Blk w g 26 rows.flatten) (hg : g < n) (hnm : m ≤ n) (hl : rows.length = l.length) (hm : rows.length ≤ maxLen) (hr : ∀ (k : Nat) (r : List Value) (e : Ex), rows[k]? = some r → l[k]? = some e → IsEx m w e r) :
    IsExs n w (.slice (some ⟨g, 0, none⟩) rows.length rows.length) l := by
  refine ⟨rows, arrBlk h hg (fun r hr' => ?_) hm, hl, fun k r e h1 h2 => (hr k r e h1 h2).mono (Below.refl _ _) hnm⟩
  obtain ⟨k, hk, rfl⟩ := List.getElem_of_mem hr'
  exact (hr k rows[k] (l[k]'(by omega)) (by simp) (by simp)).len9
theorem IsEx.node {n : Nat} {w : World} {kind fn op num span : Int} {names : List ByteArray} {kids : List Ex} {vn vk : Value} (hn : IsStrs n w vn names) (hk : IsExs n w vk kids) :
    IsEx n w (.mk kind fn op num ⟨#[]⟩ [] span names kids) [.int .i64 kind, .int .i64 fn, .int .i64 op, .int .i64 num, .string ⟨#[]⟩, .slice none 0 0, .int .i64 span, vn, vk] := by
  obtain ⟨rows, h1, h2, h3⟩ := hk
  exact .mk (by decide) ⟨Arr.nil _ _ _, by simp⟩ hn h1 h2 h3
theorem noStrs (n : Nat) (w : World) : IsStrs n w (.slice none 0 0) [] := ⟨Arr.nil _ _ _, by simp⟩

/-- A window over a metric. -/
def sumE (m : ByteArray) : Ex := .mk 1 1 0 0 m [] 1 [] []
def sumC (m : ByteArray) : List Value := [.int .i64 1, .int .i64 1, .int .i64 0, .int .i64 0, .string m, .slice none 0 0, .int .i64 1, .slice none 0 0, .slice none 0 0]
theorem sum_is (m : ByteArray) (hm : m.size ≤ maxLen) (n : Nat) (w : World) : IsEx n w (sumE m) (sumC m) :=
  .mk (rows := []) hm ⟨Arr.nil _ _ _, by simp⟩ ⟨Arr.nil _ _ _, by simp⟩ (Arr.nil _ _ _) rfl (fun k r e hr _ => by simp at hr)
def winE (fn span : Int) : Ex := .mk 1 fn 0 0 ⟨#[99, 112, 117]⟩ [] span [] []
theorem win_is2 (fn span : Int) (n : Nat) (w : World) : IsEx n w (winE fn span) [.int .i64 1, .int .i64 fn, .int .i64 0, .int .i64 0, .string ⟨#[99, 112, 117]⟩, .slice none 0 0, .int .i64 span, .slice none 0 0, .slice none 0 0] :=
  .mk (rows := []) (by decide) ⟨Arr.nil _ _ _, by simp⟩ ⟨Arr.nil _ _ _, by simp⟩ (Arr.nil _ _ _) rfl (fun k r e hr _ => by simp at hr)
theorem xWin (fn span : Int) (w : World) : Calls Tryd.prog 23 #[.int .i64 fn, .int .i64 span] w fun e' w' =>
    e' = .returned (.agg #[.int .i64 1, .int .i64 fn, .int .i64 0, .int .i64 0, .string ⟨#[99, 112, 117]⟩, .slice none 0 0, .int .i64 span, .slice none 0 0, .slice none 0 0]) ∧ Below w.heap.size w w' := by
  go_enter Tryd.func23, Tryd.ntmps23; (try simp only [List.append_eq, List.cons_append, List.nil_append])
  go_wp2
  exact bodyPost_agg (g := w.heap.size) (fr := (0, 0)) rfl rfl (World.alloc_heap_new w _) Tryd.underlying26 rfl (by kernel_rfl) rfl ⟨rfl, (Below.refl _ _).alloc (Nat.le_refl _) _⟩
theorem xSum (m : ByteArray) (w : World) : Calls Tryd.prog 8 #[.string m] w fun e' w' =>
    e' = .returned (.agg #[.int .i64 1, .int .i64 1, .int .i64 0, .int .i64 0, .string m, .slice none 0 0, .int .i64 1, .slice none 0 0, .slice none 0 0]) ∧ Below w.heap.size w w' := by
  go_enter Tryd.func8, Tryd.ntmps8; (try simp only [List.append_eq, List.cons_append, List.nil_append])
  go_wp2
  exact bodyPost_agg (g := w.heap.size) (fr := (0, 0)) rfl rfl (World.alloc_heap_new w _) Tryd.underlying26 rfl (by kernel_rfl) rfl ⟨rfl, (Below.refl _ _).alloc (Nat.le_refl _) _⟩
def twoE (op : Int) (a b : Ex) : Ex := .mk 3 0 op 0 ⟨#[]⟩ [] 0 [] [a, b]

end Go.Proofs.YtobelmipjanibaaDoor

/- ShowNames: lives, and the walk. -/
namespace Go.Proofs.YtobelmipjanibaaDoor
open Go.RowKit
set_option linter.unusedSimpArgs false
set_option linter.unusedVariables false

set_option maxRecDepth 100000 in
set_option maxHeartbeats 4000000 in
theorem xIs (e : Ex) (cs : List Value) (n : Nat) (w : World) (hn : n ≤ w.heap.size) (he : IsEx n w e cs) (h64 : e.num64) (hsz : e.size ≤ 1000000) (hT : TB w.heap.size w) (want : ByteArray) (hok : checkExpr e = 0) (hw : (⟨(exprO e).toArray⟩ : ByteArray) = want) :
    Calls Tryd.prog 10 #[.agg cs.toArray, .string want] w fun e' w' => e' = .returned (.bool true) ∧ Below w.heap.size w w' := by
  have HX := Lib.hid (fun (X : World) (hb : Below w.heap.size w X) => sShowExpr e cs n X (Nat.le_trans hn hb.size) (he.mono (hb.mono hn) (Nat.le_refl _)) h64 hsz ((hT.on hb).less hb.size))
  rw [hw, hok] at HX
  obtain ⟨pm, cm, pn, cn, pk, ck, rfl, -⟩ := he.cellsE
  clear he h64 hsz hT hw hok
  go_enter Tryd.func10, Tryd.ntmps10; (try simp only [List.append_eq, List.cons_append, List.nil_append])
  go_wp2_with (go_at_call 14; refine (HX.out _ ((Below.refl _ _).alloc (Nat.le_refl _) _)).mono ?_; rintro e' w1 ⟨rfl, hb1⟩; have Hb1 := Lib.hid (((Below.refl _ _).alloc (Nat.le_refl _) _).trans (hb1.mono (by simp))); clear hb1)
  go_ret
  exact ⟨rfl, Hb1.out⟩

def gE : Ex := .mk 2 1 0 0 ⟨#[]⟩ [] 0 [⟨#[97]⟩] [winE 1 10]
def fE : Ex := .mk 5 0 6 3 ⟨#[]⟩ [] 0 [] [gE]
def sclE (num : Int) (k : Ex) : Ex := .mk 4 0 3 num ⟨#[]⟩ [] 0 [] [k]
theorem fE_ok : checkQuery 5 fE = 0 ∧ queryO 5 fE = [101, 118, 101, 114, 121, 32, 53, 58, 32, 116, 111, 116, 97, 108, 32, 98, 121, 32, 40, 97, 41, 32, 40, 115, 117, 109, 40, 99, 112, 117, 91, 49, 48, 93, 41, 41, 32, 62, 32, 51] := by decide +kernel
theorem sclE_ok : checkExpr (sclE (-2) (sumE ⟨#[97]⟩)) = 0 ∧ exprO (sclE (-2) (sumE ⟨#[97]⟩)) = [115, 117, 109, 40, 97, 91, 49, 93, 41, 32, 42, 32, 45, 50] := by decide +kernel
theorem sizes_ok : fE.size = 3 ∧ (sclE (-2) (sumE ⟨#[97]⟩)).size = 2 ∧ (sclE 2 (twoE 1 (sumE ⟨#[97]⟩) (sumE ⟨#[98]⟩))).size = 4 ∧ (twoE 1 (sumE ⟨#[97]⟩) (twoE 1 (sumE ⟨#[98]⟩) (sumE ⟨#[99]⟩))).size = 5 := by decide +kernel

theorem num64B {e : Ex} (h : e.flat.all (fun x => decide (-9223372036854775808 ≤ x.num ∧ x.num ≤ 9223372036854775807)) = true) : e.num64 := fun x hx => by
  have := List.all_eq_true.1 h x hx
  simpa using this
/-- One expression, in a block of its own. -/
theorem exs_one {X : World} {g m n : Nat} {e : Ex} {cs : List Value} (h : Blk X g 26 cs) (hm : m ≤ n) (hg : g < n) (he : IsEx m X e cs) : IsExs n X (.slice (some ⟨g, 0, none⟩) 1 1) [e] :=
  exsBlk (m := m) [e] [cs] (by simpa using h) hg hm rfl (by show 1 ≤ maxLen; decide) (fun k r e' hr he' => by
    match k, hr, he' with
    | 0, hr, he' => simp only [List.getElem?_cons_zero, Option.some.injEq] at hr he'; subst hr he'; exact he
    | k + 1, hr, he' => simp at hr)
theorem scl_is {X : World} {g m : Nat} {e : Ex} {num : Int} {cs : List Value} (h : Blk X g 26 cs) (hm : m ≤ X.heap.size) (he : IsEx m X e cs) :
    IsEx X.heap.size X (sclE num e) [.int .i64 4, .int .i64 0, .int .i64 3, .int .i64 num, .string ⟨#[]⟩, .slice none 0 0, .int .i64 0, .slice none 0 0, .slice (some ⟨g, 0, none⟩) 1 1] :=
  IsEx.node (noStrs _ _) (exs_one h hm h.lt he)

set_option maxRecDepth 100000 in
set_option maxHeartbeats 8000000 in
theorem xLives (w : World) (hT : TB w.heap.size w) : Calls Tryd.prog 9 #[] w fun e' w' => e' = .returned (.bool true) ∧ Below w.heap.size w w' := by
  go_enter Tryd.func9, Tryd.ntmps9; (try simp only [List.append_eq, List.cons_append, List.nil_append])
  go_wp2_with fail
  refine (xWin 1 10 _).mono ?_
  rintro e' w2 ⟨rfl, hb2⟩
  have ha2 : Blk w2 w.heap.size 9 [.string ⟨#[97]⟩] := (Blk.new w [.string ⟨#[97]⟩] 9).keep hb2
  have hs2 : w.heap.size + 1 ≤ w2.heap.size := by have := hb2.size; simpa using this
  have hw2 : Below w.heap.size w w2 := ((Below.refl _ _).alloc (Nat.le_refl _) _).trans (hb2.mono (by simp))
  clear hb2
  go_upto_region 2 with fail
  have k1 := two_at w2 [.int .i64 1, .int .i64 1, .int .i64 0, .int .i64 0, .string ⟨#[99, 112, 117]⟩, .slice none 0 0, .int .i64 10, .slice none 0 0, .slice none 0 0] [.int .i64 2, .int .i64 1, .int .i64 0, .int .i64 0, .string ⟨#[]⟩, .slice none 0 0, .int .i64 0, .slice (some ⟨w.heap.size, 0, none⟩) 1 1, .slice (some ⟨w2.heap.size, 0, none⟩) 1 1] 26 26
  have k2 := two_at' w2 (.cells #[.int .i64 1, .int .i64 1, .int .i64 0, .int .i64 0, .string ⟨#[99, 112, 117]⟩, .slice none 0 0, .int .i64 10, .slice none 0 0, .slice none 0 0] 26) [.int .i64 2, .int .i64 1, .int .i64 0, .int .i64 0, .string ⟨#[]⟩, .slice none 0 0, .int .i64 0, .slice (some ⟨w.heap.size, 0, none⟩) 1 1, .slice (some ⟨w2.heap.size, 0, none⟩) 1 1] 26
  have kb := two_below w2 (.cells #[.int .i64 1, .int .i64 1, .int .i64 0, .int .i64 0, .string ⟨#[99, 112, 117]⟩, .slice none 0 0, .int .i64 10, .slice none 0 0, .slice none 0 0] 26) (.cells #[.int .i64 2, .int .i64 1, .int .i64 0, .int .i64 0, .string ⟨#[]⟩, .slice none 0 0, .int .i64 0, .slice (some ⟨w.heap.size, 0, none⟩) 1 1, .slice (some ⟨w2.heap.size, 0, none⟩) 1 1] 26)
  have ks : ((w2.alloc (.cells #[.int .i64 1, .int .i64 1, .int .i64 0, .int .i64 0, .string ⟨#[99, 112, 117]⟩, .slice none 0 0, .int .i64 10, .slice none 0 0, .slice none 0 0] 26)).alloc (.cells #[.int .i64 2, .int .i64 1, .int .i64 0, .int .i64 0, .string ⟨#[]⟩, .slice none 0 0, .int .i64 0, .slice (some ⟨w.heap.size, 0, none⟩) 1 1, .slice (some ⟨w2.heap.size, 0, none⟩) 1 1] 26)).heap.size = w2.heap.size + 2 := by simp
  obtain ⟨X, hX⟩ : ∃ X, ((w2.alloc (.cells #[.int .i64 1, .int .i64 1, .int .i64 0, .int .i64 0, .string ⟨#[99, 112, 117]⟩, .slice none 0 0, .int .i64 10, .slice none 0 0, .slice none 0 0] 26)).alloc (.cells #[.int .i64 2, .int .i64 1, .int .i64 0, .int .i64 0, .string ⟨#[]⟩, .slice none 0 0, .int .i64 0, .slice (some ⟨w.heap.size, 0, none⟩) 1 1, .slice (some ⟨w2.heap.size, 0, none⟩) 1 1] 26)) = X := ⟨_, rfl⟩
  have kk1 : Blk X w2.heap.size 26 [.int .i64 1, .int .i64 1, .int .i64 0, .int .i64 0, .string ⟨#[99, 112, 117]⟩, .slice none 0 0, .int .i64 10, .slice none 0 0, .slice none 0 0] := by rw [← hX]; exact k1
  have kk2 : Blk X (w2.heap.size + 1) 26 [.int .i64 2, .int .i64 1, .int .i64 0, .int .i64 0, .string ⟨#[]⟩, .slice none 0 0, .int .i64 0, .slice (some ⟨w.heap.size, 0, none⟩) 1 1, .slice (some ⟨w2.heap.size, 0, none⟩) 1 1] := by rw [← hX]; exact k2
  rw [hX] at kb ks ⊢
  clear hX k1 k2
  have hbX : Below w.heap.size w X := hw2.trans (kb.mono (by omega))
  have ha3 : Blk X w.heap.size 9 [.string ⟨#[97]⟩] := ha2.mono kb (by omega)
  have hG : IsEx X.heap.size X gE [.int .i64 2, .int .i64 1, .int .i64 0, .int .i64 0, .string ⟨#[]⟩, .slice none 0 0, .int .i64 0, .slice (some ⟨w.heap.size, 0, none⟩) 1 1, .slice (some ⟨w2.heap.size, 0, none⟩) 1 1] :=
    IsEx.node (strsBlk [⟨#[97]⟩] ha3 ha3.lt (by intro x hx; simp at hx; subst hx; decide) (by decide)) (exs_one kk1 (Nat.zero_le _) kk1.lt (win_is2 1 10 0 X))
  have d0 := kk2.cell 0 _ rfl; have d1 := kk2.cell 1 _ rfl; have d2 := kk2.cell 2 _ rfl; have d3 := kk2.cell 3 _ rfl; have d4 := kk2.cell 4 _ rfl; have d5 := kk2.cell 5 _ rfl; have d6 := kk2.cell 6 _ rfl; have d7 := kk2.cell 7 _ rfl; have d8 := kk2.cell 8 _ rfl
  have kx2 := X.heap.size
  have kq := Blk.new X [.int .i64 2, .int .i64 1, .int .i64 0, .int .i64 0, .string ⟨#[]⟩, .slice none 0 0, .int .i64 0, .slice (some ⟨w.heap.size, 0, none⟩) 1 1, .slice (some ⟨w2.heap.size, 0, none⟩) 1 1] 26
  have hbx2 : Below X.heap.size X (X.alloc (.cells #[.int .i64 2, .int .i64 1, .int .i64 0, .int .i64 0, .string ⟨#[]⟩, .slice none 0 0, .int .i64 0, .slice (some ⟨w.heap.size, 0, none⟩) 1 1, .slice (some ⟨w2.heap.size, 0, none⟩) 1 1] 26)) := (Below.refl _ _).alloc (Nat.le_refl _) _
  have hF := IsEx.node (kind := 5) (fn := 0) (op := 6) (num := 3) (span := 0) (noStrs _ _) (exs_one (n := (X.alloc (.cells #[.int .i64 2, .int .i64 1, .int .i64 0, .int .i64 0, .string ⟨#[]⟩, .slice none 0 0, .int .i64 0, .slice (some ⟨w.heap.size, 0, none⟩) 1 1, .slice (some ⟨w2.heap.size, 0, none⟩) 1 1] 26)).heap.size) kq hbx2.size kq.lt (hG.mono hbx2 (Nat.le_refl _)))
  have HF := Lib.hid hF; clear hF
  have HBX := Lib.hid (hbX.trans (hbx2.mono hbX.size)); clear hbX hbx2
  have hq := sShowQuery 5 fE _ _ _ (Nat.le_refl _) HF.out (num64B (by decide +kernel)) (by decide) (by rw [sizes_ok.1]; decide) ((hT.on HBX.out).less HBX.out.size)
  have HQ := Lib.hid hq; clear hq
  rw [fE_ok.1, fE_ok.2] at HQ
  clear kq hG ha3 kb ks ha2
  go_wp2_with fail
  refine HQ.out.mono ?_
  rintro e' w3 ⟨rfl, hb3⟩
  have HB3 := Lib.hid (HBX.out.trans (hb3.mono HBX.out.size)); clear hb3
  have hst : (⟨[101, 118, 101, 114, 121, 32, 53, 58, 32, 116, 111, 116, 97, 108, 32, 98, 121, 32, 40, 97, 41, 32, 40, 115, 117, 109, 40, 99, 112, 117, 91, 49, 48, 93, 41, 41, 32, 62, 32, 51].toArray⟩ : ByteArray) = ⟨#[101, 118, 101, 114, 121, 32, 53, 58, 32, 116, 111, 116, 97, 108, 32, 98, 121, 32, 40, 97, 41, 32, 40, 115, 117, 109, 40, 99, 112, 117, 91, 49, 48, 93, 41, 41, 32, 62, 32, 51]⟩ := rfl
  rw [hst]
  clear hst
  go_wp2_with fail
  refine (xSum _ _).mono ?_
  rintro e' w4 ⟨rfl, hb4⟩
  have HB4 := Lib.hid (HB3.out.trans (hb4.mono HB3.out.size)); clear hb4
  go_wp2_with fail
  have kS := Blk.new w4 (sumC ⟨#[97]⟩) 26
  have hbS : Below w.heap.size w (w4.alloc (.cells (sumC ⟨#[97]⟩).toArray 26)) := HB4.out.alloc HB4.out.size _
  refine (xIs (sclE (-2) (sumE ⟨#[97]⟩)) _ _ _ (Nat.le_refl _) (scl_is kS (Nat.zero_le _) (sum_is ⟨#[97]⟩ (by decide) 0 _)) (num64B (by decide +kernel)) (by rw [sizes_ok.2.1]; decide) ((hT.on hbS).less hbS.size) _ sclE_ok.1 (by rw [sclE_ok.2])).mono ?_
  rintro e' w5 ⟨rfl, hb5⟩
  have HB5 := Lib.hid (hbS.trans (hb5.mono hbS.size)); clear hb5
  go_wp2
  go_ret
  exact ⟨rfl, HB5.out⟩

end Go.Proofs.YtobelmipjanibaaDoor
