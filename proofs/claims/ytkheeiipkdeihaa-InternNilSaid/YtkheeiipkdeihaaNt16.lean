/- The law InternNil: the walk. -/
import Derived.Test.YtkheeiipkdeihaaNt15
namespace Go.Proofs.Ytkheeiipkdeihaa
open Go.RowKit
set_option linter.unusedSimpArgs false
set_option linter.unusedVariables false
open Go.Maps

set_option maxRecDepth 100000 in
set_option maxHeartbeats 4000000 in
theorem internNil12 {n : Nat} {W : World} {s : Sr} {p : Option Addr} {c : Nat} (hn : n ≤ W.heap.size) (hL : IsLabs n W (.slice p s.labs.length c) s.labs) (hz : s.metric.size ≤ maxLen) (i : Int) :
    Calls Try.prog 4 #[.agg #[.string s.metric, .slice p s.labs.length c], .int .i64 i] W fun e w' => e = .returned (.bool true) ∧ Below W.heap.size W w' := by
  obtain ⟨m, la⟩ := s
  simp only at hL hz ⊢
  have HLA := Lib.hid hL
  have HN := Lib.hid hn; have HZ := Lib.hid hz
  obtain ⟨N, hN⟩ : ∃ z, la.length = z := ⟨_, rfl⟩
  rw [hN] at HLA ⊢
  have HNL := Lib.hid hN
  clear hL hn hz hN
  go_enter Try.func4, Try.ntmps4; (try simp only [List.append_eq, List.cons_append, List.nil_append])
  go_upto_region 1 with fail
  have k2 := Blk.new W [.string m, .slice p N c] 33
  have b1 : Below W.heap.size W (W.alloc (.cells #[.string m, .slice p N c] 33)) := (Below.refl _ _).alloc (Nat.le_refl _) _
  obtain ⟨B, hB⟩ : ∃ z, W.heap.size = z := ⟨_, rfl⟩
  obtain ⟨Y, hY⟩ : ∃ z, W.alloc (.cells #[.string m, .slice p N c] 33) = z := ⟨_, rfl⟩
  rw [show W.alloc (.cells ([.string m, .slice p N c] : List Value).toArray 33) = Y from hY] at k2
  rw [hY] at b1 ⊢
  have HW := Lib.hid b1
  rw [show (Value.pointer (some ⟨W.heap.size, 0, none⟩)) = .pointer (some ⟨B, 0, none⟩) by rw [hB]]
  rw [hB] at k2
  have HK := Lib.hid k2
  clear k2 b1 hY hB
  go_wp2_with fail
  refine (lives12 Y).mono ?_
  rintro e w1 ⟨rfl, hb1⟩
  have HW1 := Lib.hid (HW.out.trans (hb1.mono HW.out.size))
  have HK1 := Lib.hid (HK.out.keep hb1)
  clear hb1 HW HK
  have c0 := HK1.out.cell 0 _ rfl; have c1 := HK1.out.cell 1 _ rfl; have cl := HK1.out.lt
  go_wp2_with fail
  have hbb : Below w1.heap.size w1 (w1.alloc (.cells #[.string m, .slice p N c] 33)) := (Below.refl _ _).alloc (Nat.le_refl _) _
  have hNw := Blk.new w1 [.string m, .slice p N c] 33
  have hWb := HW1.out.trans (hbb.mono HW1.out.size)
  have hS : IsSers (w1.alloc (.cells #[.string m, .slice p N c] 33)).heap.size (w1.alloc (.cells #[.string m, .slice p N c] 33)) (.slice (some ⟨w1.heap.size, 0, none⟩) 1 1) [⟨m, la⟩] :=
    ⟨[[.string m, .slice p N c]], arr_one hNw hNw.lt, rfl, fun k row s h1 h2 => by
      match k with
      | 0 =>
        simp at h1 h2
        subst h1 h2
        exact ⟨p, c, by simp only [HNL.out], by simp only [HNL.out]; exact HLA.out.mono (hWb.mono HN.out) (Nat.le_trans HN.out hWb.size), HZ.out⟩
      | k + 1 => simp at h1⟩
  refine (light12 (Nat.le_refl _) hS).mono ?_
  rintro e w2 ⟨⟨r, rfl, -⟩, hw2⟩
  have HW2 := Lib.hid hWb
  have HK2 := Lib.hid (HK1.out.keep hbb)
  rw [← hw2] at HW2 HK2
  clear hw2 hWb hbb hNw hS HW1 HK1 c0 c1 cl
  cases r with
  | false =>
    go_wp2
    go_ret
    exact ⟨rfl, HW2.out⟩
  | true =>
    have c0 := HK2.out.cell 0 _ rfl; have c1 := HK2.out.cell 1 _ rfl; have cl := HK2.out.lt
    go_wp2_with fail
    refine (tPut0 m _ rfl w2).mono ?_
    rintro e w3 ⟨rfl, hb⟩
    have HW3 := Lib.hid (HW2.out.trans (hb.mono HW2.out.size))
    have HK3 := Lib.hid (HK2.out.keep hb)
    clear hb HW2 HK2 c0 c1 cl
    have c0 := HK3.out.cell 0 _ rfl; have c1 := HK3.out.cell 1 _ rfl; have cl := HK3.out.lt
    go_wp2_with fail
    refine (tFind0 m _ rfl w3).mono ?_
    rintro e w4 ⟨rfl, hb⟩
    have HW4 := Lib.hid (HW3.out.trans (hb.mono HW3.out.size))
    clear hb HW3 HK3 c0 c1 cl
    go_wp2_with fail
    refine (tSeries0 i w4).mono ?_
    rintro e w5 ⟨rfl, hb⟩
    have HW5 := Lib.hid (HW4.out.trans (hb.mono HW4.out.size))
    clear hb HW4
    go_wp2_with fail
    refine (tLen0 _).mono ?_
    rintro e w6 ⟨rfl, hw6⟩
    have HW6 := Lib.hid (show Below W.heap.size W w6 by rw [hw6]; exact HW5.out.alloc HW5.out.size _)
    clear hw6 HW5
    go_wp2_with fail
    refine (xWin 1 1 w6).mono ?_
    rintro e w7 ⟨rfl, hb⟩
    have HW7 := Lib.hid (HW6.out.trans (hb.mono HW6.out.size))
    clear hb HW6
    go_wp2_with fail
    refine (tTakes0 1 1 w7).mono ?_
    rintro e w8 ⟨rfl, hb⟩
    have HW8 := Lib.hid (HW7.out.trans (hb.mono HW7.out.size))
    clear hb HW7
    go_wp2_with fail
    refine (tWith0 _ _ w8).mono ?_
    rintro e w9 ⟨rfl, hw9⟩
    subst hw9
    go_wp2_with fail
    refine (tBytes0 _).mono ?_
    rintro e w10 ⟨rfl, hw10⟩
    subst hw10
    go_wp2
    go_ret
    exact ⟨rfl, HW8.out⟩
end Go.Proofs.Ytkheeiipkdeihaa
