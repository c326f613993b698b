/- ShowNames: lives, and the walk. -/
import Derived.Test.YtobelmipjanibaaDoorSh7
namespace Go.Proofs.YtobelmipjanibaaDoor
open Go.RowKit
set_option linter.unusedSimpArgs false
set_option linter.unusedVariables false

set_option maxRecDepth 100000 in
set_option maxHeartbeats 4000000 in
theorem xIs (e : Ex) (cs : List Value) (n : Nat) (w : World) (hn : n ≤ w.heap.size) (he : IsEx n w e cs) (h64 : e.num64) (hsz : e.size ≤ 1000000) (hT : TB w.heap.size w) (want : ByteArray) (hok : checkExpr e = 0) (hw : (⟨(exprO e).toArray⟩ : ByteArray) = want) :
    Calls Tryd.prog 10 #[.agg cs.toArray, .string want] w fun e' w' => e' = .returned (.bool true) ∧ Below w.heap.size w w' := by
  have HX := Lib.hid (fun (X : World) (hb : Below w.heap.size w X) => sShowExpr e cs n X (Nat.le_trans hn hb.size) (he.mono (hb.mono hn) (Nat.le_refl _)) h64 hsz ((hT.on hb).less hb.size))
  rw [hw, hok] at HX
  obtain ⟨pm, cm, pn, cn, pk, ck, rfl, -⟩ := he.cellsE
  clear he h64 hsz hT hw hok
  go_enter Tryd.func10, Tryd.ntmps10; (try simp only [List.append_eq, List.cons_append, List.nil_append])
  go_wp2_with (go_at_call 14; refine (HX.out _ ((Below.refl _ _).alloc (Nat.le_refl _) _)).mono ?_; rintro e' w1 ⟨rfl, hb1⟩; have Hb1 := Lib.hid (((Below.refl _ _).alloc (Nat.le_refl _) _).trans (hb1.mono (by simp))); clear hb1)
  go_ret
  exact ⟨rfl, Hb1.out⟩

def gE : Ex := .mk 2 1 0 0 ⟨#[]⟩ [] 0 [⟨#[97]⟩] [winE 1 10]
def fE : Ex := .mk 5 0 6 3 ⟨#[]⟩ [] 0 [] [gE]
def sclE (num : Int) (k : Ex) : Ex := .mk 4 0 3 num ⟨#[]⟩ [] 0 [] [k]
theorem fE_ok : checkQuery 5 fE = 0 ∧ queryO 5 fE = [101, 118, 101, 114, 121, 32, 53, 58, 32, 116, 111, 116, 97, 108, 32, 98, 121, 32, 40, 97, 41, 32, 40, 115, 117, 109, 40, 99, 112, 117, 91, 49, 48, 93, 41, 41, 32, 62, 32, 51] := by decide +kernel
theorem sclE_ok : checkExpr (sclE (-2) (sumE ⟨#[97]⟩)) = 0 ∧ exprO (sclE (-2) (sumE ⟨#[97]⟩)) = [115, 117, 109, 40, 97, 91, 49, 93, 41, 32, 42, 32, 45, 50] := by decide +kernel
theorem d_ok : checkExpr (sclE 2 (twoE 1 (sumE ⟨#[97]⟩) (sumE ⟨#[98]⟩))) = 0 ∧ exprO (sclE 2 (twoE 1 (sumE ⟨#[97]⟩) (sumE ⟨#[98]⟩))) = [40, 115, 117, 109, 40, 97, 91, 49, 93, 41, 32, 43, 32, 115, 117, 109, 40, 98, 91, 49, 93, 41, 41, 32, 42, 32, 50] := by decide +kernel
theorem t_ok : checkExpr (twoE 1 (sumE ⟨#[97]⟩) (twoE 1 (sumE ⟨#[98]⟩) (sumE ⟨#[99]⟩))) = 0 ∧ exprO (twoE 1 (sumE ⟨#[97]⟩) (twoE 1 (sumE ⟨#[98]⟩) (sumE ⟨#[99]⟩))) = [115, 117, 109, 40, 97, 91, 49, 93, 41, 32, 43, 32, 40, 115, 117, 109, 40, 98, 91, 49, 93, 41, 32, 43, 32, 115, 117, 109, 40, 99, 91, 49, 93, 41, 41] := by decide +kernel
theorem sizes_ok : fE.size = 3 ∧ (sclE (-2) (sumE ⟨#[97]⟩)).size = 2 ∧ (sclE 2 (twoE 1 (sumE ⟨#[97]⟩) (sumE ⟨#[98]⟩))).size = 4 ∧ (twoE 1 (sumE ⟨#[97]⟩) (twoE 1 (sumE ⟨#[98]⟩) (sumE ⟨#[99]⟩))).size = 5 := by decide +kernel

theorem num64B {e : Ex} (h : e.flat.all (fun x => decide (-9223372036854775808 ≤ x.num ∧ x.num ≤ 9223372036854775807)) = true) : e.num64 := fun x hx => by
  have := List.all_eq_true.1 h x hx
  simpa using this
/-- One expression, in a block of its own. -/
theorem exs_one {X : World} {g m n : Nat} {e : Ex} {cs : List Value} (h : Blk X g 26 cs) (hm : m ≤ n) (hg : g < n) (he : IsEx m X e cs) : IsExs n X (.slice (some ⟨g, 0, none⟩) 1 1) [e] :=
  exsBlk (m := m) [e] [cs] (by simpa using h) hg hm rfl (by show 1 ≤ maxLen; decide) (fun k r e' hr he' => by
    match k, hr, he' with
    | 0, hr, he' => simp only [List.getElem?_cons_zero, Option.some.injEq] at hr he'; subst hr he'; exact he
    | k + 1, hr, he' => simp at hr)
theorem scl_is {X : World} {g m : Nat} {e : Ex} {num : Int} {cs : List Value} (h : Blk X g 26 cs) (hm : m ≤ X.heap.size) (he : IsEx m X e cs) :
    IsEx X.heap.size X (sclE num e) [.int .i64 4, .int .i64 0, .int .i64 3, .int .i64 num, .string ⟨#[]⟩, .slice none 0 0, .int .i64 0, .slice none 0 0, .slice (some ⟨g, 0, none⟩) 1 1] :=
  IsEx.node (noStrs _ _) (exs_one h hm h.lt he)

set_option maxRecDepth 100000 in
set_option maxHeartbeats 8000000 in
theorem xLives (w : World) (hT : TB w.heap.size w) : Calls Tryd.prog 9 #[] w fun e' w' => e' = .returned (.bool true) ∧ Below w.heap.size w w' := by
  go_enter Tryd.func9, Tryd.ntmps9; (try simp only [List.append_eq, List.cons_append, List.nil_append])
  go_wp2_with fail
  refine (xWin 1 10 _).mono ?_
  rintro e' w2 ⟨rfl, hb2⟩
  have ha2 : Blk w2 w.heap.size 9 [.string ⟨#[97]⟩] := (Blk.new w [.string ⟨#[97]⟩] 9).keep hb2
  have hs2 : w.heap.size + 1 ≤ w2.heap.size := by have := hb2.size; simpa using this
  have hw2 : Below w.heap.size w w2 := ((Below.refl _ _).alloc (Nat.le_refl _) _).trans (hb2.mono (by simp))
  clear hb2
  go_upto_region 2 with fail
  have k1 := two_at w2 [.int .i64 1, .int .i64 1, .int .i64 0, .int .i64 0, .string ⟨#[99, 112, 117]⟩, .slice none 0 0, .int .i64 10, .slice none 0 0, .slice none 0 0] [.int .i64 2, .int .i64 1, .int .i64 0, .int .i64 0, .string ⟨#[]⟩, .slice none 0 0, .int .i64 0, .slice (some ⟨w.heap.size, 0, none⟩) 1 1, .slice (some ⟨w2.heap.size, 0, none⟩) 1 1] 26 26
  have k2 := two_at' w2 (.cells #[.int .i64 1, .int .i64 1, .int .i64 0, .int .i64 0, .string ⟨#[99, 112, 117]⟩, .slice none 0 0, .int .i64 10, .slice none 0 0, .slice none 0 0] 26) [.int .i64 2, .int .i64 1, .int .i64 0, .int .i64 0, .string ⟨#[]⟩, .slice none 0 0, .int .i64 0, .slice (some ⟨w.heap.size, 0, none⟩) 1 1, .slice (some ⟨w2.heap.size, 0, none⟩) 1 1] 26
  have kb := two_below w2 (.cells #[.int .i64 1, .int .i64 1, .int .i64 0, .int .i64 0, .string ⟨#[99, 112, 117]⟩, .slice none 0 0, .int .i64 10, .slice none 0 0, .slice none 0 0] 26) (.cells #[.int .i64 2, .int .i64 1, .int .i64 0, .int .i64 0, .string ⟨#[]⟩, .slice none 0 0, .int .i64 0, .slice (some ⟨w.heap.size, 0, none⟩) 1 1, .slice (some ⟨w2.heap.size, 0, none⟩) 1 1] 26)
  have ks : ((w2.alloc (.cells #[.int .i64 1, .int .i64 1, .int .i64 0, .int .i64 0, .string ⟨#[99, 112, 117]⟩, .slice none 0 0, .int .i64 10, .slice none 0 0, .slice none 0 0] 26)).alloc (.cells #[.int .i64 2, .int .i64 1, .int .i64 0, .int .i64 0, .string ⟨#[]⟩, .slice none 0 0, .int .i64 0, .slice (some ⟨w.heap.size, 0, none⟩) 1 1, .slice (some ⟨w2.heap.size, 0, none⟩) 1 1] 26)).heap.size = w2.heap.size + 2 := by simp
  obtain ⟨X, hX⟩ : ∃ X, ((w2.alloc (.cells #[.int .i64 1, .int .i64 1, .int .i64 0, .int .i64 0, .string ⟨#[99, 112, 117]⟩, .slice none 0 0, .int .i64 10, .slice none 0 0, .slice none 0 0] 26)).alloc (.cells #[.int .i64 2, .int .i64 1, .int .i64 0, .int .i64 0, .string ⟨#[]⟩, .slice none 0 0, .int .i64 0, .slice (some ⟨w.heap.size, 0, none⟩) 1 1, .slice (some ⟨w2.heap.size, 0, none⟩) 1 1] 26)) = X := ⟨_, rfl⟩
  have kk1 : Blk X w2.heap.size 26 [.int .i64 1, .int .i64 1, .int .i64 0, .int .i64 0, .string ⟨#[99, 112, 117]⟩, .slice none 0 0, .int .i64 10, .slice none 0 0, .slice none 0 0] := by rw [← hX]; exact k1
  have kk2 : Blk X (w2.heap.size + 1) 26 [.int .i64 2, .int .i64 1, .int .i64 0, .int .i64 0, .string ⟨#[]⟩, .slice none 0 0, .int .i64 0, .slice (some ⟨w.heap.size, 0, none⟩) 1 1, .slice (some ⟨w2.heap.size, 0, none⟩) 1 1] := by rw [← hX]; exact k2
  rw [hX] at kb ks ⊢
  clear hX k1 k2
  have hbX : Below w.heap.size w X := hw2.trans (kb.mono (by omega))
  have ha3 : Blk X w.heap.size 9 [.string ⟨#[97]⟩] := ha2.mono kb (by omega)
  have hG : IsEx X.heap.size X gE [.int .i64 2, .int .i64 1, .int .i64 0, .int .i64 0, .string ⟨#[]⟩, .slice none 0 0, .int .i64 0, .slice (some ⟨w.heap.size, 0, none⟩) 1 1, .slice (some ⟨w2.heap.size, 0, none⟩) 1 1] :=
    IsEx.node (strsBlk [⟨#[97]⟩] ha3 ha3.lt (by intro x hx; simp at hx; subst hx; decide) (by decide)) (exs_one kk1 (Nat.zero_le _) kk1.lt (win_is2 1 10 0 X))
  have d0 := kk2.cell 0 _ rfl; have d1 := kk2.cell 1 _ rfl; have d2 := kk2.cell 2 _ rfl; have d3 := kk2.cell 3 _ rfl; have d4 := kk2.cell 4 _ rfl; have d5 := kk2.cell 5 _ rfl; have d6 := kk2.cell 6 _ rfl; have d7 := kk2.cell 7 _ rfl; have d8 := kk2.cell 8 _ rfl
  have kx2 := X.heap.size
  have kq := Blk.new X [.int .i64 2, .int .i64 1, .int .i64 0, .int .i64 0, .string ⟨#[]⟩, .slice none 0 0, .int .i64 0, .slice (some ⟨w.heap.size, 0, none⟩) 1 1, .slice (some ⟨w2.heap.size, 0, none⟩) 1 1] 26
  have hbx2 : Below X.heap.size X (X.alloc (.cells #[.int .i64 2, .int .i64 1, .int .i64 0, .int .i64 0, .string ⟨#[]⟩, .slice none 0 0, .int .i64 0, .slice (some ⟨w.heap.size, 0, none⟩) 1 1, .slice (some ⟨w2.heap.size, 0, none⟩) 1 1] 26)) := (Below.refl _ _).alloc (Nat.le_refl _) _
  have hF := IsEx.node (kind := 5) (fn := 0) (op := 6) (num := 3) (span := 0) (noStrs _ _) (exs_one (n := (X.alloc (.cells #[.int .i64 2, .int .i64 1, .int .i64 0, .int .i64 0, .string ⟨#[]⟩, .slice none 0 0, .int .i64 0, .slice (some ⟨w.heap.size, 0, none⟩) 1 1, .slice (some ⟨w2.heap.size, 0, none⟩) 1 1] 26)).heap.size) kq hbx2.size kq.lt (hG.mono hbx2 (Nat.le_refl _)))
  have HF := Lib.hid hF; clear hF
  have HBX := Lib.hid (hbX.trans (hbx2.mono hbX.size)); clear hbX hbx2
  have hq := sShowQuery 5 fE _ _ _ (Nat.le_refl _) HF.out (num64B (by decide +kernel)) (by decide) (by rw [sizes_ok.1]; decide) ((hT.on HBX.out).less HBX.out.size)
  have HQ := Lib.hid hq; clear hq
  rw [fE_ok.1, fE_ok.2] at HQ
  clear kq hG ha3 kb ks ha2
  go_wp2_with fail
  refine HQ.out.mono ?_
  rintro e' w3 ⟨rfl, hb3⟩
  have HB3 := Lib.hid (HBX.out.trans (hb3.mono HBX.out.size)); clear hb3
  have hst : (⟨[101, 118, 101, 114, 121, 32, 53, 58, 32, 116, 111, 116, 97, 108, 32, 98, 121, 32, 40, 97, 41, 32, 40, 115, 117, 109, 40, 99, 112, 117, 91, 49, 48, 93, 41, 41, 32, 62, 32, 51].toArray⟩ : ByteArray) = ⟨#[101, 118, 101, 114, 121, 32, 53, 58, 32, 116, 111, 116, 97, 108, 32, 98, 121, 32, 40, 97, 41, 32, 40, 115, 117, 109, 40, 99, 112, 117, 91, 49, 48, 93, 41, 41, 32, 62, 32, 51]⟩ := rfl
  rw [hst]
  clear hst
  go_wp2_with fail
  refine (xSum _ _).mono ?_
  rintro e' w4 ⟨rfl, hb4⟩
  have HB4 := Lib.hid (HB3.out.trans (hb4.mono HB3.out.size)); clear hb4
  go_wp2_with fail
  have kS := Blk.new w4 (sumC ⟨#[97]⟩) 26
  have hbS : Below w.heap.size w (w4.alloc (.cells (sumC ⟨#[97]⟩).toArray 26)) := HB4.out.alloc HB4.out.size _
  refine (xIs (sclE (-2) (sumE ⟨#[97]⟩)) _ _ _ (Nat.le_refl _) (scl_is kS (Nat.zero_le _) (sum_is ⟨#[97]⟩ (by decide) 0 _)) (num64B (by decide +kernel)) (by rw [sizes_ok.2.1]; decide) ((hT.on hbS).less hbS.size) _ sclE_ok.1 (by rw [sclE_ok.2])).mono ?_
  rintro e' w5 ⟨rfl, hb5⟩
  have HB5 := Lib.hid (hbS.trans (hb5.mono hbS.size)); clear hb5
  go_wp2
  go_ret
  exact ⟨rfl, HB5.out⟩

set_option maxRecDepth 100000 in
set_option maxHeartbeats 8000000 in
theorem xNames (w : World) (hT : TB w.heap.size w) : Calls Tryd.prog 3 #[] w fun e' w' => e' = .returned (.bool true) ∧ Below w.heap.size w w' := by
  go_enter Tryd.func3, Tryd.ntmps3; (try simp only [List.append_eq, List.cons_append, List.nil_append])
  go_wp2_with fail
  refine (xSum _ _).mono ?_
  rintro e' w1 ⟨rfl, hb1⟩
  go_wp2_with fail
  refine (xSum _ _).mono ?_
  rintro e' w2 ⟨rfl, hb2⟩
  have HB2 := Lib.hid (hb1.trans (hb2.mono hb1.size)); clear hb1 hb2
  go_wp2_with fail
  refine (xTwo 1 (sumE ⟨#[97]⟩) (sumE ⟨#[98]⟩) (sumC ⟨#[97]⟩) (sumC ⟨#[98]⟩) 0 w2 (Nat.zero_le _) (sum_is _ (by decide) _ _) (sum_is _ (by decide) _ _)).mono ?_
  rintro e' w3 ⟨g, rfl, he3, hb3⟩
  have HE3 := Lib.hid he3; clear he3
  have HB3 := Lib.hid (HB2.out.trans (hb3.mono HB2.out.size)); clear hb3
  go_upto_region 2 with fail
  have k1 := two_at w3 [.int .i64 3, .int .i64 0, .int .i64 1, .int .i64 0, .string ⟨#[]⟩, .slice none 0 0, .int .i64 0, .slice none 0 0, .slice (some ⟨g, 0, none⟩) 2 2] [.int .i64 4, .int .i64 0, .int .i64 3, .int .i64 2, .string ⟨#[]⟩, .slice none 0 0, .int .i64 0, .slice none 0 0, .slice (some ⟨w3.heap.size, 0, none⟩) 1 1] 26 26
  have k2 := two_at' w3 (.cells #[.int .i64 3, .int .i64 0, .int .i64 1, .int .i64 0, .string ⟨#[]⟩, .slice none 0 0, .int .i64 0, .slice none 0 0, .slice (some ⟨g, 0, none⟩) 2 2] 26) [.int .i64 4, .int .i64 0, .int .i64 3, .int .i64 2, .string ⟨#[]⟩, .slice none 0 0, .int .i64 0, .slice none 0 0, .slice (some ⟨w3.heap.size, 0, none⟩) 1 1] 26
  have kb := two_below w3 (.cells #[.int .i64 3, .int .i64 0, .int .i64 1, .int .i64 0, .string ⟨#[]⟩, .slice none 0 0, .int .i64 0, .slice none 0 0, .slice (some ⟨g, 0, none⟩) 2 2] 26) (.cells #[.int .i64 4, .int .i64 0, .int .i64 3, .int .i64 2, .string ⟨#[]⟩, .slice none 0 0, .int .i64 0, .slice none 0 0, .slice (some ⟨w3.heap.size, 0, none⟩) 1 1] 26)
  obtain ⟨X, hX⟩ : ∃ X, ((w3.alloc (.cells #[.int .i64 3, .int .i64 0, .int .i64 1, .int .i64 0, .string ⟨#[]⟩, .slice none 0 0, .int .i64 0, .slice none 0 0, .slice (some ⟨g, 0, none⟩) 2 2] 26)).alloc (.cells #[.int .i64 4, .int .i64 0, .int .i64 3, .int .i64 2, .string ⟨#[]⟩, .slice none 0 0, .int .i64 0, .slice none 0 0, .slice (some ⟨w3.heap.size, 0, none⟩) 1 1] 26)) = X := ⟨_, rfl⟩
  have kk1 : Blk X w3.heap.size 26 [.int .i64 3, .int .i64 0, .int .i64 1, .int .i64 0, .string ⟨#[]⟩, .slice none 0 0, .int .i64 0, .slice none 0 0, .slice (some ⟨g, 0, none⟩) 2 2] := by rw [← hX]; exact k1
  have kk2 : Blk X (w3.heap.size + 1) 26 [.int .i64 4, .int .i64 0, .int .i64 3, .int .i64 2, .string ⟨#[]⟩, .slice none 0 0, .int .i64 0, .slice none 0 0, .slice (some ⟨w3.heap.size, 0, none⟩) 1 1] := by rw [← hX]; exact k2
  rw [hX] at kb ⊢
  clear hX k1 k2
  have HD := Lib.hid (scl_is (num := 2) kk1 (Nat.le_refl _) ((HE3.out.mono kb kb.size)))
  have HBX := Lib.hid (HB3.out.trans (kb.mono HB3.out.size)); clear kb kk1
  have HK := Lib.hid kk2; clear kk2
  have HLv := Lib.hid (xLives X ((hT.on HBX.out).less HBX.out.size))
  go_wp2_with fail
  refine HLv.out.mono ?_
  rintro e' w4 ⟨rfl, hb4⟩
  have kq := HK.out.keep hb4
  have d0 := kq.cell 0 _ rfl; have d1 := kq.cell 1 _ rfl; have d2 := kq.cell 2 _ rfl; have d3 := kq.cell 3 _ rfl; have d4 := kq.cell 4 _ rfl; have d5 := kq.cell 5 _ rfl; have d6 := kq.cell 6 _ rfl; have d7 := kq.cell 7 _ rfl; have d8 := kq.cell 8 _ rfl
  have hD4 := HD.out.mono hb4 hb4.size
  have HB4 := Lib.hid (HBX.out.trans (hb4.mono HBX.out.size)); clear hb4 kq
  have HI := Lib.hid (xIs (sclE 2 (twoE 1 (sumE ⟨#[97]⟩) (sumE ⟨#[98]⟩))) _ _ w4 (Nat.le_refl _) hD4 (num64B (by decide +kernel)) (by rw [sizes_ok.2.2.1]; decide) ((hT.on HB4.out).less HB4.out.size) ⟨#[40, 115, 117, 109, 40, 97, 91, 49, 93, 41, 32, 43, 32, 115, 117, 109, 40, 98, 91, 49, 93, 41, 41, 32, 42, 32, 50]⟩ d_ok.1 (by rw [d_ok.2])); clear hD4
  go_wp2_with fail
  refine HI.out.mono ?_
  rintro e' w5 ⟨rfl, hb5⟩
  have HB5 := Lib.hid (HB4.out.trans (hb5.mono HB4.out.size)); clear hb5 d0 d1 d2 d3 d4 d5 d6 d7 d8
  go_wp2_with fail
  refine (xSum _ _).mono ?_
  rintro e' w6 ⟨rfl, hb6⟩
  go_wp2_with fail
  refine (xSum _ _).mono ?_
  rintro e' w7 ⟨rfl, hb7⟩
  go_wp2_with fail
  refine (xSum _ _).mono ?_
  rintro e' w8 ⟨rfl, hb8⟩
  have HB8 := Lib.hid (HB5.out.trans ((hb6.trans ((hb7.trans (hb8.mono hb7.size)).mono hb6.size)).mono HB5.out.size)); clear hb6 hb7 hb8
  go_wp2_with fail
  refine (xTwo 1 (sumE ⟨#[98]⟩) (sumE ⟨#[99]⟩) (sumC ⟨#[98]⟩) (sumC ⟨#[99]⟩) 0 w8 (Nat.zero_le _) (sum_is _ (by decide) _ _) (sum_is _ (by decide) _ _)).mono ?_
  rintro e' w9 ⟨g2, rfl, he9, hb9⟩
  have HB9 := Lib.hid (HB8.out.trans (hb9.mono HB8.out.size)); clear hb9
  have HE9 := Lib.hid he9; clear he9
  go_wp2_with fail
  refine (xTwo 1 (sumE ⟨#[97]⟩) (twoE 1 (sumE ⟨#[98]⟩) (sumE ⟨#[99]⟩)) (sumC ⟨#[97]⟩) _ w9.heap.size w9 (Nat.le_refl _) (sum_is _ (by decide) _ _) HE9.out).mono ?_
  rintro e' w10 ⟨g3, rfl, he10, hb10⟩
  have HB10 := Lib.hid (HB9.out.trans (hb10.mono HB9.out.size)); clear hb10
  have HI2 := Lib.hid (xIs (twoE 1 (sumE ⟨#[97]⟩) (twoE 1 (sumE ⟨#[98]⟩) (sumE ⟨#[99]⟩))) _ _ w10 (Nat.le_refl _) he10 (num64B (by decide +kernel)) (by rw [sizes_ok.2.2.2]; decide) ((hT.on HB10.out).less HB10.out.size) ⟨#[115, 117, 109, 40, 97, 91, 49, 93, 41, 32, 43, 32, 40, 115, 117, 109, 40, 98, 91, 49, 93, 41, 32, 43, 32, 115, 117, 109, 40, 99, 91, 49, 93, 41, 41]⟩ t_ok.1 (by rw [t_ok.2])); clear he10
  go_wp2_with fail
  refine HI2.out.mono ?_
  rintro e' w11 ⟨rfl, hb11⟩
  have HB11 := Lib.hid (HB10.out.trans (hb11.mono HB10.out.size)); clear hb11
  go_wp2_with fail
  refine (sSign 9 _ (by decide)).mono ?_
  rintro e' w12 ⟨rfl, hb12⟩
  rw [show (⟨(signL 9).toArray⟩ : ByteArray) = ⟨#[33, 61]⟩ from rfl]
  go_wp2_with fail
  refine (sSign 10 _ (by decide)).mono ?_
  rintro e' w13 ⟨rfl, hb13⟩
  rw [show (⟨(signL 10).toArray⟩ : ByteArray) = ⟨#[]⟩ from rfl]
  go_wp2_with fail
  refine (sWord 2 2 _).mono ?_
  rintro e' w14 ⟨rfl, hb14⟩
  rw [show (⟨(wordL 2 2).toArray⟩ : ByteArray) = ⟨#[109, 97, 110, 121]⟩ from rfl]
  go_wp2_with fail
  refine (sWord 1 7 _).mono ?_
  rintro e' w15 ⟨rfl, hb15⟩
  rw [show (⟨(wordL 1 7).toArray⟩ : ByteArray) = ⟨#[]⟩ from rfl]
  have HBf := Lib.hid (HB11.out.trans ((hb12.trans ((hb13.trans ((hb14.trans (hb15.mono hb14.size)).mono hb13.size)).mono hb12.size)).mono HB11.out.size)); clear hb12 hb13 hb14 hb15
  go_wp2
  go_ret
  exact ⟨rfl, HBf.out⟩
end Go.Proofs.YtobelmipjanibaaDoor
