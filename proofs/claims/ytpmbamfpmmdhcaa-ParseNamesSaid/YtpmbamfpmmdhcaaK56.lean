/- ParseNames: the walk. -/
import Derived.Test.YtpmbamfpmmdhcaaK41
set_option maxRecDepth 100000
set_option maxHeartbeats 16000000
namespace Go.Proofs.Ytpmbamfpmmdhcaa
open Go.RowKit
set_option linter.unusedSimpArgs false
set_option linter.unusedVariables false
def scE : Ex := .mk 4 0 3 2 ⟨#[]⟩ [] 0 [] [winE 1 1]
def jE : Ex := .mk 3 0 1 0 ⟨#[]⟩ [] 0 [⟨#[120]⟩] [winE 1 1, scE]
def mL : List Mat := [⟨1, ⟨#[97]⟩, ⟨#[120]⟩⟩, ⟨2, ⟨#[98]⟩, ⟨#[]⟩⟩]
theorem names_e : outE ⟨#[115, 117, 109, 40, 99, 112, 117, 91, 49, 93, 41, 32, 43, 32, 111, 110, 32, 40, 120, 41, 32, 115, 117, 109, 40, 99, 112, 117, 91, 49, 93, 41, 32, 42, 32, 50]⟩ = some (jE, 0, 0) := by kernel_rfl
theorem names_m : outM ⟨#[123, 97, 61, 34, 120, 34, 44, 32, 98, 33, 61, 34, 34, 125]⟩ = some (mL, 0, 0) := by kernel_rfl
theorem names_f : funcV (funcOf (⟨#[109, 111, 115, 116]⟩ : ByteArray).data.toList) = .tuple #[.int .i64 2, .int .i64 4, .bool true] := by kernel_rfl
theorem mL_two : mL.length = 2 := rfl
theorem mL_one : (mL[1]'(by decide)).kind = 2 := rfl
theorem xNames (w : World) : Calls Try.prog 3 #[] w fun e' w' => e' = .returned (.bool true) ∧ Below w.heap.size w w' := by
  have HE := Lib.hid (ofE names_e (by decide))
  have HM := Lib.hid (ofM names_m (by decide))
  have HF := Lib.hid (fun X => qFunc ⟨#[109, 111, 115, 116]⟩ X)
  rw [names_f] at HF
  go_enter Try.func3, Try.ntmps3; (try simp only [List.append_eq, List.cons_append, List.nil_append])
  go_wp2_with fail
  refine (HE.out _).mono ?_
  rintro e' w1 ⟨cs, rfl, hx, hb⟩
  have HB := Lib.hid hb; clear hb HE
  obtain ⟨pm1, cm1, pn1, cn1, pk1, ck1, rfl, -⟩ := hx.cellsE
  have X1 := Lib.hid hx; clear hx
  go_upto_region 2 with fail
  obtain ⟨y1, hW⟩ : ∃ z, (w1.alloc (.cells #[.int .i64 jE.kind, .int .i64 jE.fn, .int .i64 jE.op, .int .i64 jE.num, .string jE.metric, .slice pm1 jE.mats.length cm1, .int .i64 jE.span, .slice pn1 jE.names.length cn1, .slice pk1 jE.kids.length ck1] 26)).alloc (.cells #[.int .i64 0, .int .i64 0] 29) = z := ⟨_, rfl⟩
  have kb : Below w1.heap.size w1 y1 := by rw [← hW]; exact two_below w1 _ _
  have B1 : Blk y1 w1.heap.size 26 [.int .i64 jE.kind, .int .i64 jE.fn, .int .i64 jE.op, .int .i64 jE.num, .string jE.metric, .slice pm1 jE.mats.length cm1, .int .i64 jE.span, .slice pn1 jE.names.length cn1, .slice pk1 jE.kids.length ck1] := by rw [← hW]; exact two_at w1 [.int .i64 jE.kind, .int .i64 jE.fn, .int .i64 jE.op, .int .i64 jE.num, .string jE.metric, .slice pm1 jE.mats.length cm1, .int .i64 jE.span, .slice pn1 jE.names.length cn1, .slice pk1 jE.kids.length ck1] [.int .i64 0, .int .i64 0] _ _
  have F1 : Blk y1 (w1.heap.size + 1) 29 [.int .i64 0, .int .i64 0] := by rw [← hW]; exact two_at' w1 _ [.int .i64 0, .int .i64 0] _
  rw [hW]; clear hW
  have X1 := Lib.hid (X1.out.mono kb kb.size)
  have HB := Lib.hid (HB.out.trans (kb.mono HB.out.size)); clear kb
  have B1 := Lib.hid B1; have F1 := Lib.hid F1
  go_wp2_with fail
  refine (xWin 1 1 _).mono ?_
  rintro e' w2 ⟨rfl, hb⟩
  have X1 := Lib.hid (X1.out.mono hb hb.size); have B1 := Lib.hid (B1.out.keep hb); have F1 := Lib.hid (F1.out.keep hb)
  have HB := Lib.hid (HB.out.trans (hb.mono HB.out.size)); clear hb
  go_upto_region 3 with fail
  obtain ⟨y2, hW⟩ : ∃ z, w2.alloc (.cells #[.int .i64 1, .int .i64 1, .int .i64 0, .int .i64 0, .string ⟨#[99, 112, 117]⟩, .slice none 0 0, .int .i64 1, .slice none 0 0, .slice none 0 0] 26) = z := ⟨_, rfl⟩
  have kb : Below w2.heap.size w2 y2 := by rw [← hW]; exact (Below.refl _ _).alloc (Nat.le_refl _) _
  have B2 : Blk y2 w2.heap.size 26 [.int .i64 1, .int .i64 1, .int .i64 0, .int .i64 0, .string ⟨#[99, 112, 117]⟩, .slice none 0 0, .int .i64 1, .slice none 0 0, .slice none 0 0] := by rw [← hW]; exact Blk.new w2 [.int .i64 1, .int .i64 1, .int .i64 0, .int .i64 0, .string ⟨#[99, 112, 117]⟩, .slice none 0 0, .int .i64 1, .slice none 0 0, .slice none 0 0] _
  rw [hW]; clear hW
  have X1 := Lib.hid (X1.out.mono kb kb.size); have B1 := Lib.hid (B1.out.keep kb); have F1 := Lib.hid (F1.out.keep kb)
  have HB := Lib.hid (HB.out.trans (kb.mono HB.out.size)); clear kb
  have K2 := Lib.hid B2
  have p20 := B2.cell 0 _ rfl; have p21 := B2.cell 1 _ rfl; have p22 := B2.cell 2 _ rfl; have p23 := B2.cell 3 _ rfl; have p24 := B2.cell 4 _ rfl; have p25 := B2.cell 5 _ rfl; have p26 := B2.cell 6 _ rfl; have p27 := B2.cell 7 _ rfl; have p28 := B2.cell 8 _ rfl
  clear B2
  go_upto_region 4 with fail
  obtain ⟨y3, hW⟩ : ∃ z, (y2.alloc (.cells #[.int .i64 1, .int .i64 1, .int .i64 0, .int .i64 0, .string ⟨#[99, 112, 117]⟩, .slice none 0 0, .int .i64 1, .slice none 0 0, .slice none 0 0] 26)).alloc (.cells #[.int .i64 4, .int .i64 0, .int .i64 3, .int .i64 2, .string ⟨#[]⟩, .slice none 0 0, .int .i64 0, .slice none 0 0, .slice (some ⟨y2.heap.size, 0, none⟩) 1 1] 26) = z := ⟨_, rfl⟩
  have kb : Below y2.heap.size y2 y3 := by rw [← hW]; exact two_below y2 _ _
  have G3 : Blk y3 y2.heap.size 26 [.int .i64 1, .int .i64 1, .int .i64 0, .int .i64 0, .string ⟨#[99, 112, 117]⟩, .slice none 0 0, .int .i64 1, .slice none 0 0, .slice none 0 0] := by rw [← hW]; exact two_at y2 [.int .i64 1, .int .i64 1, .int .i64 0, .int .i64 0, .string ⟨#[99, 112, 117]⟩, .slice none 0 0, .int .i64 1, .slice none 0 0, .slice none 0 0] [.int .i64 4, .int .i64 0, .int .i64 3, .int .i64 2, .string ⟨#[]⟩, .slice none 0 0, .int .i64 0, .slice none 0 0, .slice (some ⟨y2.heap.size, 0, none⟩) 1 1] _ _
  have B3 : Blk y3 (y2.heap.size + 1) 26 [.int .i64 4, .int .i64 0, .int .i64 3, .int .i64 2, .string ⟨#[]⟩, .slice none 0 0, .int .i64 0, .slice none 0 0, .slice (some ⟨y2.heap.size, 0, none⟩) 1 1] := by rw [← hW]; exact two_at' y2 _ [.int .i64 4, .int .i64 0, .int .i64 3, .int .i64 2, .string ⟨#[]⟩, .slice none 0 0, .int .i64 0, .slice none 0 0, .slice (some ⟨y2.heap.size, 0, none⟩) 1 1] _
  rw [hW]; clear hW
  clear p20 p21 p22 p23 p24 p25 p26 p27 p28
  have X1 := Lib.hid (X1.out.mono kb kb.size); have B1 := Lib.hid (B1.out.keep kb); have F1 := Lib.hid (F1.out.keep kb); have B2 := Lib.hid (K2.out.keep kb)
  have HB := Lib.hid (HB.out.trans (kb.mono HB.out.size)); clear kb K2
  have hs : IsEx y3.heap.size y3 scE [.int .i64 4, .int .i64 0, .int .i64 3, .int .i64 2, .string ⟨#[]⟩, .slice none 0 0, .int .i64 0, .slice none 0 0, .slice (some ⟨y2.heap.size, 0, none⟩) 1 1] := IsEx.node (noStrs _ _) (exs_one G3 (Nat.zero_le _) G3.lt (win_is2 1 1 0 y3))
  have X3 := Lib.hid hs; have B3 := Lib.hid B3; clear hs G3
  go_wp2_with fail
  refine (HF.out _).mono ?_
  rintro e' w4 ⟨rfl, rfl⟩
  clear HF
  go_wp2_with fail
  refine (HM.out _).mono ?_
  rintro e' w5 ⟨v5, rfl, hx, hb⟩
  have X1 := Lib.hid (X1.out.mono hb hb.size); have B1 := Lib.hid (B1.out.keep hb); have F1 := Lib.hid (F1.out.keep hb); have B2 := Lib.hid (B2.out.keep hb); have B3 := Lib.hid (B3.out.keep hb); have X3 := Lib.hid (X3.out.mono hb hb.size)
  have HB := Lib.hid (HB.out.trans (hb.mono HB.out.size)); clear hb HM
  obtain ⟨p5, c5, rfl, -⟩ := hx.open
  have X5 := Lib.hid hx; clear hx
  go_upto_region 6 with fail
  obtain ⟨y5, hW⟩ : ∃ z, w5.alloc (.cells #[.int .i64 0, .int .i64 0] 29) = z := ⟨_, rfl⟩
  have kb : Below w5.heap.size w5 y5 := by rw [← hW]; exact (Below.refl _ _).alloc (Nat.le_refl _) _
  have F5 : Blk y5 w5.heap.size 29 [.int .i64 0, .int .i64 0] := by rw [← hW]; exact Blk.new w5 [.int .i64 0, .int .i64 0] _
  rw [hW]; clear hW
  have F5 := Lib.hid F5
  have X1 := Lib.hid (X1.out.mono kb kb.size); have B1 := Lib.hid (B1.out.keep kb); have F1 := Lib.hid (F1.out.keep kb); have B2 := Lib.hid (B2.out.keep kb); have B3 := Lib.hid (B3.out.keep kb); have X3 := Lib.hid (X3.out.mono kb kb.size); have X5 := Lib.hid (X5.out.mono kb kb.size)
  have HB := Lib.hid (HB.out.trans (kb.mono HB.out.size)); clear kb
  go_wp2_with fail
  refine (xLives _).mono ?_
  rintro e' w7 ⟨rfl, hb⟩
  have X1 := Lib.hid (X1.out.mono hb hb.size); have B1 := Lib.hid (B1.out.keep hb); have F1 := Lib.hid (F1.out.keep hb); have B2 := Lib.hid (B2.out.keep hb); have B3 := Lib.hid (B3.out.keep hb); have F5 := Lib.hid (F5.out.keep hb); have X3 := Lib.hid (X3.out.mono hb hb.size); have X5 := Lib.hid (X5.out.mono hb hb.size)
  have HB := Lib.hid (HB.out.trans (hb.mono HB.out.size)); clear hb
  have f1 := F1.out
  have q10 := f1.cell 0 _ rfl; have q11 := f1.cell 1 _ rfl
  have b1 := B1.out
  have p10 := b1.cell 0 _ rfl; have p11 := b1.cell 1 _ rfl; have p12 := b1.cell 2 _ rfl; have p13 := b1.cell 3 _ rfl; have p14 := b1.cell 4 _ rfl; have p15 := b1.cell 5 _ rfl; have p16 := b1.cell 6 _ rfl; have p17 := b1.cell 7 _ rfl; have p18 := b1.cell 8 _ rfl
  have b2 := B2.out
  have p20 := b2.cell 0 _ rfl; have p21 := b2.cell 1 _ rfl; have p22 := b2.cell 2 _ rfl; have p23 := b2.cell 3 _ rfl; have p24 := b2.cell 4 _ rfl; have p25 := b2.cell 5 _ rfl; have p26 := b2.cell 6 _ rfl; have p27 := b2.cell 7 _ rfl; have p28 := b2.cell 8 _ rfl
  have b3 := B3.out
  have p30 := b3.cell 0 _ rfl; have p31 := b3.cell 1 _ rfl; have p32 := b3.cell 2 _ rfl; have p33 := b3.cell 3 _ rfl; have p34 := b3.cell 4 _ rfl; have p35 := b3.cell 5 _ rfl; have p36 := b3.cell 6 _ rfl; have p37 := b3.cell 7 _ rfl; have p38 := b3.cell 8 _ rfl
  clear f1 b1 b2 b3
  have L2 := B2.out.lt
  have L3 := B3.out.lt
  have L5 := F5.out.lt
  have kb := two_below w7 (.cells #[.string ⟨#[120]⟩] 9) (.cells #[.int .i64 1, .int .i64 1, .int .i64 0, .int .i64 0, .string ⟨#[99, 112, 117]⟩, .slice none 0 0, .int .i64 1, .slice none 0 0, .slice none 0 0, .int .i64 4, .int .i64 0, .int .i64 3, .int .i64 2, .string ⟨#[]⟩, .slice none 0 0, .int .i64 0, .slice none 0 0, .slice (some ⟨y2.heap.size, 0, none⟩) 1 1] 26)
  have kn := two_at w7 [.string ⟨#[120]⟩] [.int .i64 1, .int .i64 1, .int .i64 0, .int .i64 0, .string ⟨#[99, 112, 117]⟩, .slice none 0 0, .int .i64 1, .slice none 0 0, .slice none 0 0, .int .i64 4, .int .i64 0, .int .i64 3, .int .i64 2, .string ⟨#[]⟩, .slice none 0 0, .int .i64 0, .slice none 0 0, .slice (some ⟨y2.heap.size, 0, none⟩) 1 1] 9 26
  have kk := two_at' w7 (.cells #[.string ⟨#[120]⟩] 9) [.int .i64 1, .int .i64 1, .int .i64 0, .int .i64 0, .string ⟨#[99, 112, 117]⟩, .slice none 0 0, .int .i64 1, .slice none 0 0, .slice none 0 0, .int .i64 4, .int .i64 0, .int .i64 3, .int .i64 2, .string ⟨#[]⟩, .slice none 0 0, .int .i64 0, .slice none 0 0, .slice (some ⟨y2.heap.size, 0, none⟩) 1 1] 26
  have hj := IsEx.node (kind := 3) (fn := 0) (op := 1) (num := 0) (span := 0) (strsBlkP [⟨#[120]⟩] kn kn.lt (by intro z hz; simp at hz; subst hz; decide) (by decide)) (exsBlk (m := w7.heap.size) [winE 1 1, scE] [[.int .i64 1, .int .i64 1, .int .i64 0, .int .i64 0, .string ⟨#[99, 112, 117]⟩, .slice none 0 0, .int .i64 1, .slice none 0 0, .slice none 0 0], [.int .i64 4, .int .i64 0, .int .i64 3, .int .i64 2, .string ⟨#[]⟩, .slice none 0 0, .int .i64 0, .slice none 0 0, .slice (some ⟨y2.heap.size, 0, none⟩) 1 1]] (by simpa using kk) kk.lt kb.size rfl (by show 2 ≤ maxLen; decide) (fun k r e hr he => by
    match k, hr, he with
    | 0, hr, he => simp only [List.getElem?_cons_zero, Option.some.injEq] at hr he; subst hr he; exact (win_is2 1 1 w7.heap.size _)
    | 1, hr, he => simp only [List.getElem?_cons_succ, List.getElem?_cons_zero, Option.some.injEq] at hr he; subst hr he; exact X3.out.mono kb (Nat.le_refl _)
    | k + 2, hr, he => simp at hr))
  have HK := Lib.hid (kExpr jE jE _ _ _ _ (Nat.le_refl _) (X1.out.mono kb kb.size) hj)
  have HB := Lib.hid (HB.out.trans (kb.mono HB.out.size))
  have F5 := Lib.hid (F5.out.keep kb); have X5 := Lib.hid (X5.out.mono kb kb.size)
  clear kb kn kk hj
  go_wp2_with fail
  refine HK.out.mono ?_
  rintro e' w9 ⟨rfl, hb⟩
  have f5 := F5.out.keep hb
  have q50 := f5.cell 0 _ rfl; have q51 := f5.cell 1 _ rfl
  have x5 := X5.out.mono hb hb.size
  have HB := Lib.hid (HB.out.trans (hb.mono HB.out.size)); clear hb f5 HK
  clear p10 p11 p12 p13 p14 p15 p16 p17 p18 p20 p21 p22 p23 p24 p25 p26 p27 p28 p30 p31 p32 p33 p34 p35 p36 p37 p38 q10 q11
  obtain ⟨b9, o9, rfl, -, g1, -⟩ := x5.get (k := 1) (by decide)
  rw [mL_one] at g1
  rw [mL_two]
  clear x5
  go_wp2
  go_ret
  exact ⟨rfl, HB.out⟩
end Go.Proofs.Ytpmbamfpmmdhcaa
