/- law12.lives; the law InternNil: the walk. -/
import Derived.Test.YtkheeiipkdeihaaNt14
namespace Go.Proofs.Ytkheeiipkdeihaa
open Go.RowKit
set_option linter.unusedSimpArgs false
set_option linter.unusedVariables false
open Go.Maps

theorem arr_one {w : World} {g t sz m : Nat} {cs : List Value} (h : Blk w g t cs) (hm : g < m) : Arr m w (.slice (some ⟨g, 0, none⟩) 1 1) sz [cs] :=
  ⟨_, 1, rfl, Nat.le_refl _, by decide, fun _ => ⟨g, 0, rfl, hm, fun k r hr j x hx => by
    match k with
    | 0 =>
      simp at hr
      subst hr
      have := h.cell j x hx
      simpa using this
    | k + 1 => simp at hr⟩⟩
def sCpu : Sr := ⟨⟨#[99, 112, 117]⟩, [laX]⟩
def sMem : Sr := ⟨⟨#[109, 101, 109]⟩, []⟩
theorem ok_cpu : okS sCpu = 0 := by decide +kernel
theorem ok_mem : okS sMem = 0 := by decide +kernel
theorem put_1 : putS [] sCpu = [sCpu] := by decide +kernel
theorem put_2 : putS [sCpu] sMem = [sCpu, sMem] := by decide +kernel
theorem put_3 : putS [sCpu, sMem] sCpu = [sCpu, sMem] := by decide +kernel
theorem id_1 : idS [sCpu] sCpu = 1 := by decide +kernel
theorem id_2 : idS [sCpu, sMem] sMem = 2 := by decide +kernel
theorem id_3 : idS [sCpu, sMem] sCpu = 1 := by decide +kernel
theorem ids_3 : idsOf ⟨#[99, 112, 117]⟩ [sCpu, sMem] = [1] := by decide +kernel
theorem win_11 : checkExpr (winE 1 1) = 0 := by decide +kernel
theorem win_37 : checkExpr (winE 3 7) = 0 := by decide +kernel
theorem put_ok {T T' : List Sr} {s : Sr} {n err z : Int} (h : (okS s ≠ 0 ∧ n = 0 ∧ err = okS s) ∨ (okS s = 0 ∧ err = 0 ∧ n = idS (putS T s) s)) (hok : okS s = 0) (hp : putS T s = T') (hi : idS T' s = z) : n = z ∧ err = 0 := by
  rcases h with ⟨h, -⟩ | ⟨-, h1, h2⟩
  · exact absurd hok h
  · rw [hp, hi] at h2
    exact ⟨h2, h1⟩
set_option maxRecDepth 100000 in
set_option maxHeartbeats 4000000 in
theorem lives12 (W : World) : Calls Try.prog 5 #[] W fun e w' => e = .returned (.bool true) ∧ Below W.heap.size W w' := by
  go_enter Try.func5, Try.ntmps5; (try simp only [List.append_eq, List.cons_append, List.nil_append])
  go_wp2_with fail
  refine (tNew W).mono ?_
  rintro e w1 ⟨rfl, hT, hb, hs⟩
  have HT1 := Lib.hid (show TabB W.heap.size (fun _ => False) w1 (W.heap.size + 3) [] 0 from ⟨_, hT, fun k hk => ⟨hk.1, id⟩⟩)
  have HW1 := Lib.hid hb
  obtain ⟨g, hg⟩ : ∃ z, W.heap.size + 3 = z := ⟨_, rfl⟩
  rw [hg] at HT1 ⊢
  clear hT hb hs hg
  go_wp2_with fail
  refine (cpu12 w1).mono ?_
  rintro e w2 ⟨p, c, rfl, hown, hb2⟩
  have HW2 := Lib.hid (HW1.out.trans (hb2.mono HW1.out.size))
  have HT2 := Lib.hid (HT1.out.keep hb2)
  have HO2 := Lib.hid (OwnL.labs (m := w2.heap.size) hown (Nat.le_refl _) (ok_small ok_cpu))
  clear hown hb2 HW1 HT1
  go_wp2_with fail
  have hP : Calls Try.prog 8 #[.pointer (some ⟨g, 0, none⟩), .agg #[.string ⟨#[99, 112, 117]⟩, .slice p 1 c]] w2 (PutB W.heap.size (fun _ => False) w2 g [] 0 sCpu) :=
    tPutB (s := sCpu) HT2.out HW2.out.size (fun _ h => h.elim) (Nat.le_refl _) HO2.out (by decide) (by decide) (by decide)
  refine hP.mono ?_
  clear hP
  rintro e w3 ⟨n1, err1, rfl, hn, hT3, hb3, -⟩
  obtain ⟨rfl, rfl⟩ := put_ok hn ok_cpu put_1 id_1
  rw [put_1] at hT3
  have HT3 := Lib.hid hT3
  have HW3 := Lib.hid (HW2.out.trans hb3)
  clear hn hT3 hb3 HW2 HT2 HO2
  go_wp2_with fail
  have hP : Calls Try.prog 8 #[.pointer (some ⟨g, 0, none⟩), .agg #[.string ⟨#[109, 101, 109]⟩, .slice none 0 0]] w3 (PutB W.heap.size (fun _ => False) w3 g [sCpu] 30 sMem) :=
    tPutB (s := sMem) HT3.out HW3.out.size (fun _ h => h.elim) (Nat.le_refl _) ⟨Arr.nil _ _ _, by simp [sMem]⟩ (by decide) (by decide) (by decide)
  refine hP.mono ?_
  clear hP
  rintro e w4 ⟨n2, err2, rfl, hn, hT4, hb4, -⟩
  obtain ⟨rfl, rfl⟩ := put_ok hn ok_mem put_2 id_2
  rw [put_2] at hT4
  have HT4 := Lib.hid hT4
  have HW4 := Lib.hid (HW3.out.trans hb4)
  clear hn hT4 hb4 HW3 HT3
  go_wp2_with fail
  refine (cpu12 w4).mono ?_
  rintro e w5 ⟨p5, c5, rfl, hown, hb5⟩
  have HW5 := Lib.hid (HW4.out.trans (hb5.mono HW4.out.size))
  have HT5 := Lib.hid (HT4.out.keep hb5)
  have HO5 := Lib.hid (OwnL.labs (m := w5.heap.size) hown (Nat.le_refl _) (ok_small ok_cpu))
  clear hown hb5 HW4 HT4
  go_wp2_with fail
  have hP : Calls Try.prog 8 #[.pointer (some ⟨g, 0, none⟩), .agg #[.string ⟨#[99, 112, 117]⟩, .slice p5 1 c5]] w5 (PutB W.heap.size (fun _ => False) w5 g [sCpu, sMem] 60 sCpu) :=
    tPutB (s := sCpu) HT5.out HW5.out.size (fun _ h => h.elim) (Nat.le_refl _) HO5.out (by decide) (by decide) (by decide)
  refine hP.mono ?_
  clear hP
  rintro e w6 ⟨n3, err3, rfl, hn, hT6, hb6, -⟩
  obtain ⟨rfl, rfl⟩ := put_ok hn ok_cpu put_3 id_3
  rw [put_3] at hT6
  have HT6 := Lib.hid hT6
  have HW6 := Lib.hid (HW5.out.trans hb6)
  clear hn hT6 hb6 HW5 HT5 HO5
  go_wp2_with fail
  refine (xWin 1 1 w6).mono ?_
  rintro e w7 ⟨rfl, hb7⟩
  have HW7 := Lib.hid (HW6.out.trans (hb7.mono HW6.out.size))
  have HT7 := Lib.hid (HT6.out.keep hb7)
  clear hb7 HW6 HT6
  go_wp2_with fail
  have hP : Calls Try.prog 13 #[.pointer (some ⟨g, 0, none⟩), .agg #[.int .i64 1, .int .i64 1, .int .i64 0, .int .i64 0, .string ⟨#[99, 112, 117]⟩, .slice none 0 0, .int .i64 1, .slice none 0 0, .slice none 0 0]] w7 fun e w' => ∃ v', e = .returned v' ∧ OwnI 3 w7.heap.size w' v' (idsOf ⟨#[99, 112, 117]⟩ [sCpu, sMem]) ∧ Below w7.heap.size w7 w' := by
    obtain ⟨Fr, h1, -⟩ := HT7.out
    exact tTakes h1 (by decide) 1 1 win_11
  rw [ids_3] at hP
  refine hP.mono ?_
  clear hP
  rintro e w8 ⟨v8, rfl, hown, hb8⟩
  have HW8 := Lib.hid (HW7.out.trans (hb8.mono HW7.out.size))
  obtain ⟨p8, c8, rfl⟩ := ownsRow_slice hown
  have HO8 := Lib.hid hown
  clear hown hb8 HW7 HT7
  go_wp2_with fail
  have hbb : Below w8.heap.size w8 (w8.alloc (.cells #[.int .i64 1] 3)) := (Below.refl _ _).alloc (Nat.le_refl _) _
  have hN := Blk.new w8 [.int .i64 1] 3
  refine (kInts [1] [1] _ _ (w8.alloc (.cells #[.int .i64 1] 3)).heap.size _ (Nat.le_refl _) ((OwnI.ints (l := [1]) HO8.out (Nat.le_refl _)).mono hbb hbb.size) (show IsInts _ _ _ [1] from arr_one hN hN.lt)).mono ?_
  rintro e w9 ⟨rfl, hb9⟩
  have HW9 := Lib.hid ((HW8.out.trans (hbb.mono HW8.out.size)).trans (hb9.mono (by have := HW8.out.size; have := hbb.size; omega)))
  clear hbb hN hb9
  go_wp2
  go_ret
  exact ⟨by simp, HW9.out⟩
end Go.Proofs.Ytkheeiipkdeihaa
