/- show.Expr, show.Query. -/
import Derived.Test.YtobelmipjanibaaDoorSh5
import Derived.Test.YtobelmipjanibaaDoorBts
namespace Go.Proofs.YtobelmipjanibaaDoor
open Go.RowKit
set_option linter.unusedSimpArgs false
set_option linter.unusedVariables false

/-! ### how long an expression's text is -/
theorem strT_len (a : Int) (x : Int × List UInt8) : (kidT a x).length ≤ x.2.length + 2 := by unfold kidT; split <;> simp <;> omega
theorem sizes_two (l : List Ex) (h : l.length = 2) (h0 : 0 < l.length) (h1 : 1 < l.length) : l[0].size + l[1].size ≤ sizes l := by
  match l, h with
  | [x, y], _ => simp [sizes]
theorem exT_len : ∀ e : Ex, e.flat.all rightB = true → e.num64 → (exT e).length ≤ 4000 * e.size := by
  refine Ex.ind fun e ih hv h64 => ?_
  have hv1 := hv
  rw [Ex.flat_eq, List.all_cons, Bool.and_eq_true] at hv1
  have hkid : ∀ k ∈ e.kids, (exT k).length ≤ 4000 * k.size := fun k hk => ih k hk (List.all_eq_true.2 fun x hx => List.all_eq_true.1 hv1.2 x (flats_iff.2 ⟨k, hk, hx⟩)) (h64.kid hk)
  have h1 := hv1.1
  simp only [rightB, Bool.and_eq_true, kindOk, decide_eq_true_eq] at h1
  have hk : e.kind = 1 ∨ e.kind = 2 ∨ e.kind = 3 ∨ e.kind = 4 ∨ e.kind = 5 := by omega
  have hR := h1.2
  have hsz := e.size_eq
  have hn := itoa_len e.num h64.self
  have hs := signL_length e.op
  rw [exT_eq]
  rcases hk with h | h | h | h | h
  · rw [h, rightH_1] at hR
    obtain ⟨hkn, hfn, hop, hnum, hnam, ⟨hmet, hmats⟩, hspan⟩ := hR
    have a1 := wordL_length 1 e.fn
    have a2 := name_length hmet
    have a3 := matsL_length hmats
    have a4 := itoa_len e.span (by omega)
    have e1 : nodeT e.kind e.fn e.op e.num e.metric e.mats e.span e.names (exTs e.kids) = windowL 1 e.fn e.metric e.mats e.span := by rw [h]; simp [nodeT]
    rw [e1]
    unfold windowL
    simp only [List.length_append, List.length_cons, List.length_nil]
    omega
  · rw [h, rightH_2] at hR
    obtain ⟨hkn, hfn, hop, hnum, hnam, -, hspan⟩ := hR
    have hj0 : 0 < e.kids.length := by omega
    have a0 := hkid _ (List.getElem_mem hj0)
    have s0 := size_le_sizes (List.getElem_mem hj0)
    have a1 := wordL_length 2 e.fn
    have a2 := names_length hnam
    rw [h, nodeT, exTs_getD e.kids 0 hj0]
    generalize e.kids[0] = k0 at *
    simp only [Int.reduceEq, if_true, if_false, List.length_append, List.length_cons, List.length_nil]
    omega
  · rw [h, rightH_3] at hR
    obtain ⟨hkn, hfn, hop, hnum, hnam, -, hspan⟩ := hR
    have hj0 : 0 < e.kids.length := by omega
    have hj1 : 1 < e.kids.length := by omega
    have a0 := hkid _ (List.getElem_mem hj0)
    have a1 := hkid _ (List.getElem_mem hj1)
    have s01 := sizes_two e.kids hkn hj0 hj1
    have a2 := onL_length hnam
    have b0 := strT_len (strI 3 e.op) (strI e.kids[0].kind e.kids[0].op, exT e.kids[0])
    have b1 := strT_len (strI 3 e.op + 1) (strI e.kids[1].kind e.kids[1].op, exT e.kids[1])
    rw [h, nodeT, exTs_getD e.kids 0 hj0, exTs_getD e.kids 1 hj1]
    simp only [Int.reduceEq, if_true, if_false, List.length_append, List.length_cons, List.length_nil] at b0 b1 ⊢
    omega
  · rw [h, rightH_4] at hR
    obtain ⟨hkn, hfn, hop, hnam, -, hspan⟩ := hR
    have hj0 : 0 < e.kids.length := by omega
    have a0 := hkid _ (List.getElem_mem hj0)
    have s0 := size_le_sizes (List.getElem_mem hj0)
    have b0 := strT_len (strI 4 e.op) (strI e.kids[0].kind e.kids[0].op, exT e.kids[0])
    rw [h, nodeT, exTs_getD e.kids 0 hj0]
    simp only [Int.reduceEq, if_true, if_false, List.length_append, List.length_cons, List.length_nil] at b0 ⊢
    omega
  · rw [h, rightH_5] at hR
    obtain ⟨hkn, hfn, hop, hnam, -, hspan⟩ := hR
    have hj0 : 0 < e.kids.length := by omega
    have a0 := hkid _ (List.getElem_mem hj0)
    have s0 := size_le_sizes (List.getElem_mem hj0)
    have b0 := strT_len 1 (strI e.kids[0].kind e.kids[0].op, exT e.kids[0])
    rw [h, nodeT, exTs_getD e.kids 0 hj0]
    simp only [Int.reduceEq, if_true, if_false, List.length_append, List.length_cons, List.length_nil] at b0 ⊢
    omega
theorem check_ok {e : Ex} (h : checkExpr e = 0) : e.size ≤ 200 ∧ e.flat.all rightB = true := by
  unfold checkExpr at h
  split at h
  · cases h
  · rename_i h1
    split at h
    · rename_i h2; exact ⟨by omega, h2⟩
    · cases h
theorem exT_short {e : Ex} (h : checkExpr e = 0) (h64 : e.num64) : (exT e).length ≤ 800000 := by
  obtain ⟨h1, h2⟩ := check_ok h
  have := exT_len e h2 h64
  omega
/-- What show.Expr and show.Query tell. -/
def exprO (e : Ex) : List UInt8 := if checkExpr e = 0 then exT e else []
def queryO (every : Int) (e : Ex) : List UInt8 := if checkQuery every e = 0 then queryT every e else []

set_option maxRecDepth 100000 in
set_option maxHeartbeats 4000000 in
theorem sShowExpr (e : Ex) (cs : List Value) (n : Nat) (w : World) (hn : n ≤ w.heap.size) (he : IsEx n w e cs) (h64 : e.num64) (hsz : e.size ≤ 1000000) (hT : TB w.heap.size w) :
    Calls Tryd.prog 14 #[.agg cs.toArray] w fun e' w' => e' = .returned (.tuple #[.string ⟨(exprO e).toArray⟩, .int .i64 (checkExpr e)]) ∧ Below w.heap.size w w' := by
  obtain ⟨pm, cm, pn, cn, pk, ck, rfl, -⟩ := he.cellsE
  have He := Lib.hid he; clear he
  have HT := Lib.hid hT; clear hT
  have H64 := Lib.hid h64; clear h64
  go_enter Tryd.func14, Tryd.ntmps14; (try simp only [List.append_eq, List.cons_append, List.nil_append])
  go_upto_region 2 with (go_at_call 26; refine (aCheckExpr e _ n _ (by simp; omega) (He.out.mono ((Below.refl _ _).alloc hn _) (Nat.le_refl _)) hsz).mono ?_; rintro e' w1 ⟨rfl, hb1⟩; have Hb1 := Lib.hid (((Below.refl _ _).alloc (Nat.le_refl _) _).trans (hb1.mono (by simp))); have hblk1 := (Blk.new w [.int .i64 e.kind, .int .i64 e.fn, .int .i64 e.op, .int .i64 e.num, .string e.metric, .slice pm e.mats.length cm, .int .i64 e.span, .slice pn e.names.length cn, .slice pk e.kids.length ck] 26).keep hb1; have hsz1 : w.heap.size + 1 ≤ w1.heap.size := (by have := hb1.size; simpa using this); clear hb1)
  by_cases hck : checkExpr e = 0
  · have HO : Hid (exprO e = exT e) := by show _ = _; unfold exprO; rw [if_pos hck]
    have hlen := exT_short hck H64.out
    obtain ⟨-, hv⟩ := check_ok hck
    have Hv := Lib.hid hv; clear hv
    have Hck := Lib.hid hck
    have Hblk1 := Lib.hid hblk1; clear hblk1
    go_upto_region 5 with fail
    have HB := Lib.hid (Bld.fresh w1)
    have Hbw : Below w.heap.size w (w1.alloc (.cells #[.pointer none, .slice none 0 0] 57)) := Hb1.out.alloc Hb1.out.size _
    have hblk2 := Hblk1.out.keep ((Below.refl w1.heap.size w1).alloc (Nat.le_refl _) (.cells #[.pointer none, .slice none 0 0] 57))
    obtain ⟨X, hX⟩ : ∃ X, w1.alloc (.cells #[.pointer none, .slice none 0 0] 57) = X := ⟨_, rfl⟩
    have hsX : w1.heap.size ≤ X.heap.size := by rw [← hX]; simp
    rw [hX] at HB Hbw hblk2 ⊢
    clear hX
    have HBw := Lib.hid Hbw; clear Hbw
    obtain ⟨d0, d1, d2, d3, d4, d5, d6, d7, d8⟩ : X.cell? ⟨w.heap.size, 0, none⟩ = some (.int .i64 e.kind) ∧ X.cell? ⟨w.heap.size, 1, none⟩ = some (.int .i64 e.fn) ∧ X.cell? ⟨w.heap.size, 2, none⟩ = some (.int .i64 e.op) ∧ X.cell? ⟨w.heap.size, 3, none⟩ = some (.int .i64 e.num) ∧ X.cell? ⟨w.heap.size, 4, none⟩ = some (.string e.metric) ∧ X.cell? ⟨w.heap.size, 5, none⟩ = some (.slice pm e.mats.length cm) ∧ X.cell? ⟨w.heap.size, 6, none⟩ = some (.int .i64 e.span) ∧ X.cell? ⟨w.heap.size, 7, none⟩ = some (.slice pn e.names.length cn) ∧ X.cell? ⟨w.heap.size, 8, none⟩ = some (.slice pk e.kids.length ck) := ⟨hblk2.cell 0 _ rfl, hblk2.cell 1 _ rfl, hblk2.cell 2 _ rfl, hblk2.cell 3 _ rfl, hblk2.cell 4 _ rfl, hblk2.cell 5 _ rfl, hblk2.cell 6 _ rfl, hblk2.cell 7 _ rfl, hblk2.cell 8 _ rfl⟩
    clear hblk2
    have CE := Lib.hid (sExpr e Hv.out H64.out _ n w1.heap.size w1.heap.size [] X (He.out.mono (HBw.out.mono hn) (Nat.le_refl _)) (by omega) HB.out hsX ((HT.out.on HBw.out).less (by omega)) (by simp; omega))
    clear hck hlen
    go_wp2_with (first
      | (go_at_call 27; refine CE.out.mono ?_; rintro e' w2 ⟨rfl, hst⟩; have HST := Lib.hid hst; clear hst)
      | (go_at_call 28; refine (bStr _ _ _ _ HST.out.bld (Nat.le_trans hsX HST.out.bel.size)).mono ?_; rintro e' w3 ⟨rfl, -, hb3, -⟩; have Hb3 := Lib.hid hb3; clear hb3))
    refine bodyPost_ret (results_tmp2 rfl _ _ _) rfl ?_
    exact ⟨by rw [HO.out, Hck.out]; rfl, HBw.out.trans ((HST.out.bel.trans Hb3.out).mono (by omega))⟩
  · have HO : Hid (exprO e = []) := by show _ = _; unfold exprO; rw [if_neg hck]
    have hb : (checkExpr e != 0) = true := by simpa using hck
    go_wp2
    refine bodyPost_ret (results_tmp2 rfl _ _ _) rfl ?_
    exact ⟨by rw [HO.out]; rfl, Hb1.out⟩

set_option maxRecDepth 100000 in
set_option maxHeartbeats 4000000 in
theorem sShowQuery (every : Int) (e : Ex) (cs : List Value) (n : Nat) (w : World) (hn : n ≤ w.heap.size) (he : IsEx n w e cs) (h64 : e.num64) (hev : -9223372036854775808 ≤ every ∧ every ≤ 9223372036854775807) (hsz : e.size ≤ 1000000) (hT : TB w.heap.size w) :
    Calls Tryd.prog 16 #[.agg (.int .i64 every :: cs).toArray] w fun e' w' => e' = .returned (.tuple #[.string ⟨(queryO every e).toArray⟩, .int .i64 (checkQuery every e)]) ∧ Below w.heap.size w w' := by
  have hCQ := fun W (hb : Below w.heap.size w W) => aCheck every e cs n W (Nat.le_trans hn hb.size) (he.mono (hb.mono hn) (Nat.le_refl _)) hsz
  have hCE := fun W (hb : Below w.heap.size w W) => sShowExpr e cs n W (Nat.le_trans hn hb.size) (he.mono (hb.mono hn) (Nat.le_refl _)) h64 hsz ((hT.on hb).less hb.size)
  obtain ⟨pm, cm, pn, cn, pk, ck, rfl, -⟩ := he.cellsE
  have HCQ := Lib.hid hCQ; clear hCQ
  have HCE := Lib.hid hCE; clear hCE
  have HF := Lib.hid (fun W (hb : Below w.heap.size w W) => bFmt every hev w.heap.size W (hT.on hb)); clear hT
  have He := Lib.hid he; clear he
  have H64 := Lib.hid h64; clear h64
  go_enter Tryd.func16, Tryd.ntmps16; (try simp only [List.append_eq, List.cons_append, List.nil_append])
  go_upto_region 2 with (go_at_call 31; refine (HCQ.out _ ((Below.refl _ _).alloc (Nat.le_refl _) _)).mono ?_; rintro e' w1 ⟨rfl, hb1⟩; have Hb1 := Lib.hid (((Below.refl _ _).alloc (Nat.le_refl _) _).trans (hb1.mono (by simp))); have hblk1 := (Blk.new w (.int .i64 every :: [.int .i64 e.kind, .int .i64 e.fn, .int .i64 e.op, .int .i64 e.num, .string e.metric, .slice pm e.mats.length cm, .int .i64 e.span, .slice pn e.names.length cn, .slice pk e.kids.length ck]) 38).keep hb1; clear hb1)
  by_cases hck : checkQuery every e = 0
  · have hck2 : checkExpr e = 0 := by
      unfold checkQuery at hck
      split at hck
      · exact hck
      · cases hck
    have HO : Hid (queryO every e = queryT every e) := by show _ = _; unfold queryO; rw [if_pos hck]
    have HO2 : Hid (exprO e = exT e) := by show _ = _; unfold exprO; rw [if_pos hck2]
    have hlen := exT_short hck2 H64.out
    have hil := itoa_len every hev
    obtain ⟨T, hT⟩ : ∃ T : ByteArray, T = ⟨(exprO e).toArray⟩ := ⟨_, rfl⟩
    have hTs : T.size ≤ 800000 := by rw [hT, HO2.out]; simpa [ByteArray.size] using hlen
    obtain ⟨I, hI⟩ : ∃ I : ByteArray, I = ⟨(Lib.itoa every).toArray⟩ := ⟨_, rfl⟩
    have hIs : I.size ≤ 21 := by rw [hI]; simpa [ByteArray.size] using hil
    rw [← hT] at HCE
    rw [← hI] at HF
    have HTT := Lib.hid hT; clear hT
    have HII := Lib.hid hI; clear hI
    have Hck := Lib.hid hck
    clear hlen hil hck2
    have Hblk1 := Lib.hid hblk1
    obtain ⟨d0, d1, d2, d3, d4, d5, d6, d7, d8, d9⟩ : w1.cell? ⟨w.heap.size, 0, none⟩ = some (.int .i64 every) ∧ w1.cell? ⟨w.heap.size, 1, none⟩ = some (.int .i64 e.kind) ∧ w1.cell? ⟨w.heap.size, 2, none⟩ = some (.int .i64 e.fn) ∧ w1.cell? ⟨w.heap.size, 3, none⟩ = some (.int .i64 e.op) ∧ w1.cell? ⟨w.heap.size, 4, none⟩ = some (.int .i64 e.num) ∧ w1.cell? ⟨w.heap.size, 5, none⟩ = some (.string e.metric) ∧ w1.cell? ⟨w.heap.size, 6, none⟩ = some (.slice pm e.mats.length cm) ∧ w1.cell? ⟨w.heap.size, 7, none⟩ = some (.int .i64 e.span) ∧ w1.cell? ⟨w.heap.size, 8, none⟩ = some (.slice pn e.names.length cn) ∧ w1.cell? ⟨w.heap.size, 9, none⟩ = some (.slice pk e.kids.length ck) := ⟨hblk1.cell 0 _ rfl, hblk1.cell 1 _ rfl, hblk1.cell 2 _ rfl, hblk1.cell 3 _ rfl, hblk1.cell 4 _ rfl, hblk1.cell 5 _ rfl, hblk1.cell 6 _ rfl, hblk1.cell 7 _ rfl, hblk1.cell 8 _ rfl, hblk1.cell 9 _ rfl⟩
    clear hblk1
    go_upto_region 5 with (go_at_call 14; refine (HCE.out _ Hb1.out).mono ?_; rintro e' w2 ⟨rfl, hb2⟩; have c0 := (Hblk1.out.keep hb2).cell 0 _ rfl; have Hb2 := Lib.hid (Hb1.out.trans (hb2.mono Hb1.out.size)); clear hb2)
    clear hck
    have s1 : (⟨#[101, 118, 101, 114, 121, 32]⟩ : ByteArray).size = 6 := rfl
    have s2 : (⟨#[58, 32]⟩ : ByteArray).size = 2 := rfl
    have r1 : ∀ W, (binOp BinOp.add 9 (.string ⟨#[101, 118, 101, 114, 121, 32]⟩) (.string I)).run Tryd.prog W = .ok (.string (⟨#[101, 118, 101, 114, 121, 32]⟩ ++ I)) W := fun W => concat_run _ _ W (by omega)
    have r2 : ∀ W, (binOp BinOp.add 9 (.string (⟨#[101, 118, 101, 114, 121, 32]⟩ ++ I)) (.string ⟨#[58, 32]⟩)).run Tryd.prog W = .ok (.string (⟨#[101, 118, 101, 114, 121, 32]⟩ ++ I ++ ⟨#[58, 32]⟩)) W := fun W => concat_run _ _ W (by rw [ByteArray.size_append]; omega)
    have r3 : ∀ W, (binOp BinOp.add 9 (.string (⟨#[101, 118, 101, 114, 121, 32]⟩ ++ I ++ ⟨#[58, 32]⟩)) (.string T)).run Tryd.prog W = .ok (.string (⟨#[101, 118, 101, 114, 121, 32]⟩ ++ I ++ ⟨#[58, 32]⟩ ++ T)) W := fun W => concat_run _ _ W (by rw [ByteArray.size_append, ByteArray.size_append]; omega)
    clear s1 s2
    go_wp2_with (go_at_call 32; refine (HF.out _ Hb2.out).mono ?_; rintro e' w3 ⟨rfl, hb3⟩; have Hb3 := Lib.hid (Hb2.out.trans (hb3.mono Hb2.out.size)); clear hb3)
    refine bodyPost_ret (results_tmp2 rfl _ _ _) rfl ?_
    refine ⟨?_, Hb3.out⟩
    have hfin : (⟨#[101, 118, 101, 114, 121, 32]⟩ : ByteArray) ++ I ++ ⟨#[58, 32]⟩ ++ T = ⟨(queryO every e).toArray⟩ := by
      apply ByteArray.ext
      rw [HTT.out, HII.out, HO.out, HO2.out]
      simp [queryT, ByteArray.data_append]
    rw [← hfin, Hck.out]; rfl
  · have HO : Hid (queryO every e = []) := by show _ = _; unfold queryO; rw [if_neg hck]
    have hb : (checkQuery every e != 0) = true := by simpa using hck
    go_wp2
    refine bodyPost_ret (results_tmp2 rfl _ _ _) rfl ?_
    exact ⟨by rw [HO.out]; rfl, Hb1.out⟩
end Go.Proofs.YtobelmipjanibaaDoor
