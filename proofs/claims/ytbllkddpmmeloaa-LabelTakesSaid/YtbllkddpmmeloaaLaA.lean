/- LabelNames: lives and the walk. -/
import Derived.Test.YtbllkddpmmeloaaLa9
namespace Go.Proofs.Ytbllkddpmmeloaa
open Go.RowKit
set_option linter.unusedSimpArgs false
set_option linter.unusedVariables false

theorem arr_lit (w : World) (t sz : Nat) (rows : List (List Value)) (hsz : ∀ r ∈ rows, r.length = sz) (hn : rows.length ≤ maxLen) :
    Arr (w.heap.size + 1) (w.alloc (.cells rows.flatten.toArray t)) (.slice (some ⟨w.heap.size, 0, none⟩) rows.length rows.length) sz rows := by
  refine ⟨_, _, rfl, Nat.le_refl _, hn, fun _ => ⟨w.heap.size, 0, rfl, by omega, fun k r hr j x hx => ?_⟩⟩
  rw [World.cell?_alloc_new, Nat.zero_add]
  have := flatten_at hsz hr hx
  simpa using this
theorem labs_lit (w : World) (l : List Lab) (hs : ∀ x ∈ l, x.small) (hn : l.length ≤ maxLen) : IsLabs (w.heap.size + 1) (w.alloc (.cells (flat l).toArray 28)) (.slice (some ⟨w.heap.size, 0, none⟩) l.length l.length) l := by
  have := arr_lit w 28 2 (l.map Lab.cells) (labs_len l) (by rw [List.length_map]; exact hn)
  rw [List.length_map] at this
  exact ⟨this, hs⟩
theorem mats_lit (w : World) (l : List Mat) (hs : ∀ x ∈ l, x.small) (hn : l.length ≤ maxLen) : IsMats (w.heap.size + 1) (w.alloc (.cells (l.map Mat.cells).flatten.toArray 41)) (.slice (some ⟨w.heap.size, 0, none⟩) l.length l.length) l := by
  have := arr_lit w 41 3 (l.map Mat.cells) (by intro r hr; obtain ⟨x, _, rfl⟩ := List.mem_map.1 hr; rfl) (by rw [List.length_map]; exact hn)
  rw [List.length_map] at this
  exact ⟨this, hs⟩
theorem strs_lit (w : World) (l : List ByteArray) (hs : ∀ x ∈ l, x.size ≤ maxLen) (hn : l.length ≤ maxLen) : IsStrs (w.heap.size + 1) (w.alloc (.cells (l.map fun s => [Value.string s]).flatten.toArray 9)) (.slice (some ⟨w.heap.size, 0, none⟩) l.length l.length) l := by
  have := arr_lit w 9 1 (l.map fun s => [Value.string s]) (by intro r hr; obtain ⟨x, _, rfl⟩ := List.mem_map.1 hr; rfl) (by rw [List.length_map]; exact hn)
  rw [List.length_map] at this
  exact ⟨this, hs⟩
def A : ByteArray := ⟨#[97]⟩
def lay : Lab := ⟨⟨#[97]⟩, ⟨#[121]⟩⟩
def lbx : Lab := ⟨⟨#[98]⟩, ⟨#[120]⟩⟩
def lc : Lab := ⟨⟨#[99]⟩, ⟨#[]⟩⟩
def L2 : List Lab := [lay, lbx]
theorem small_lit {l : List Lab} (h : l.all (fun x => decide (x.name.size ≤ 1000) && decide (x.text.size ≤ 1000)) = true) : ∀ x ∈ l, x.small := by
  intro x hx
  have := List.all_eq_true.1 h x hx
  simp only [Bool.and_eq_true, decide_eq_true_eq] at this
  unfold Lab.small maxLen
  omega
theorem smallM_lit {l : List Mat} (h : l.all (fun x => decide (x.name.size ≤ 1000) && decide (x.text.size ≤ 1000)) = true) : ∀ x ∈ l, x.small := by
  intro x hx
  have := List.all_eq_true.1 h x hx
  simp only [Bool.and_eq_true, decide_eq_true_eq] at this
  unfold Mat.small maxLen
  omega
theorem ofLives : (([lay, lbx] : List Lab) ++ [lc]).Perm [lbx, lay, lc] := List.Perm.swap _ _ _
theorem textL2 : textB L2 = ⟨#[123, 97, 61, 34, 121, 34, 44, 98, 61, 34, 120, 34, 125]⟩ := by decide +kernel
theorem cmp_lit : (([lay, lbx] : List Lab) ++ [lc]).Pairwise ltN := by
  unfold ltN
  simp only [List.cons_append, List.nil_append, List.pairwise_cons, List.mem_cons, List.not_mem_nil, or_false]
  refine ⟨?_, ?_, ?_, List.Pairwise.nil⟩
  · rintro y (rfl | rfl) <;> decide +kernel
  · rintro y rfl; decide +kernel
  · rintro y h; cases h
set_option maxRecDepth 100000 in
set_option maxHeartbeats 4000000 in
theorem lLives (w : World) : Calls Try.prog 7 #[] w fun e w' => e = .returned (.bool true) ∧ Below w.heap.size w w' := by
  have h0 := labs_lit w [lbx, lay, lc] (small_lit (by decide +kernel)) (by decide)
  have HO := Lib.hid (lOf [lbx, lay, lc] [lay, lbx] lc _ _ _ (by simp) h0 (by decide) ofLives cmp_lit (by decide +kernel) (by decide +kernel) (by decide +kernel)); clear h0
  have ck2 : checkL L2 = 0 := by decide +kernel
  have Ck2 := Lib.hid ck2; clear ck2
  have k1 : takesAll [⟨1, ⟨#[97]⟩, ⟨#[121]⟩⟩, ⟨2, ⟨#[99]⟩, ⟨#[122]⟩⟩] L2 = true := by decide +kernel
  have k2 : takesAll [⟨1, ⟨#[99]⟩, ⟨#[]⟩⟩] L2 = true := by decide +kernel
  have K1 := Lib.hid k1; have K2 := Lib.hid k2; clear k1 k2
  have HL2 := Lib.hid textL2
  go_enter Try.func7, Try.ntmps7; (try simp only [List.append_eq, List.cons_append, List.nil_append])
  go_wp2_with fail
  refine HO.out.mono ?_
  rintro e w1 ⟨v1, rfl, ho1, hb1⟩
  have HB1 := Lib.hid (((Below.refl w.heap.size w).alloc (Nat.le_refl _) (.cells (flat [lbx, lay, lc]).toArray 28)).trans (hb1.mono (by simp)))
  have HL1 := Lib.hid (OwnL.labs (m := w1.heap.size) ho1 (Nat.le_refl _) (small_lit (by decide +kernel)))
  clear ho1 hb1
  go_wp2_with fail
  refine (lText L2 v1 w1.heap.size w1 (Nat.le_refl _) HL1.out Ck2.out (by decide +kernel) (by decide +kernel)).mono ?_
  rintro e w2 ⟨rfl, hb2⟩
  rw [HL2.out]
  have HB2 := Lib.hid (HB1.out.trans (hb2.mono HB1.out.size))
  have HX2 := Lib.hid (HL1.out.mono hb2 hb2.size); clear hb2
  go_wp2_with fail
  have m1 := mats_lit w2 [⟨1, ⟨#[97]⟩, ⟨#[121]⟩⟩, ⟨2, ⟨#[99]⟩, ⟨#[122]⟩⟩] (smallM_lit (by decide +kernel)) (by decide)
  have b1 := (Below.refl w2.heap.size w2).alloc (Nat.le_refl _) (.cells (([⟨1, ⟨#[97]⟩, ⟨#[121]⟩⟩, ⟨2, ⟨#[99]⟩, ⟨#[122]⟩⟩] : List Mat).map Mat.cells).flatten.toArray 41)
  refine (lTakes [⟨1, ⟨#[97]⟩, ⟨#[121]⟩⟩, ⟨2, ⟨#[99]⟩, ⟨#[122]⟩⟩] L2 _ v1 (w2.heap.size + 1) _ (by simp) m1 (HX2.out.mono b1 (by omega))).mono ?_
  rintro e w3 ⟨rfl, hb3⟩
  rw [K1.out]
  have HB3 := Lib.hid (HB2.out.trans ((b1.trans (hb3.mono (by simp))).mono HB2.out.size))
  have HX3 := Lib.hid (HX2.out.mono (b1.trans (hb3.mono (by simp))) (b1.trans (hb3.mono (by simp))).size)
  clear m1 b1 hb3
  go_wp2_with fail
  have m1 := mats_lit w3 [⟨1, ⟨#[99]⟩, ⟨#[]⟩⟩] (smallM_lit (by decide +kernel)) (by decide)
  have b1 := (Below.refl w3.heap.size w3).alloc (Nat.le_refl _) (.cells (([⟨1, ⟨#[99]⟩, ⟨#[]⟩⟩] : List Mat).map Mat.cells).flatten.toArray 41)
  refine (lTakes [⟨1, ⟨#[99]⟩, ⟨#[]⟩⟩] L2 _ v1 (w3.heap.size + 1) _ (by simp) m1 (HX3.out.mono b1 (by omega))).mono ?_
  rintro e w4 ⟨rfl, hb4⟩
  rw [K2.out]
  have HB4 := Lib.hid (HB3.out.trans ((b1.trans (hb4.mono (by simp))).mono HB3.out.size))
  clear m1 b1 hb4
  go_wp2_with fail
  go_ret
  exact ⟨rfl, HB4.out⟩

/-- What the law says. -/
def LawTrue (w : World) (e : Ending) (w' : World) : Prop := e = .returned (.bool true) ∧ Below w.heap.size w w'
theorem set1 : setL ⟨#[121]⟩ ⟨#[120]⟩ = L2 := by decide +kernel
theorem set2 : setL ⟨#[121]⟩ ⟨#[]⟩ = [lay] := by decide +kernel
theorem set3 : setL ⟨#[]⟩ ⟨#[120]⟩ = [lbx] := by decide +kernel
theorem set4 : setL ⟨#[34, 92, 10]⟩ ⟨#[]⟩ = [⟨⟨#[97]⟩, ⟨#[34, 92, 10]⟩⟩] := by decide +kernel
theorem part1 : partL L2 [⟨#[97]⟩] true = [lay] := by decide +kernel
theorem part2 : partL L2 [⟨#[97]⟩] false = [lbx] := by decide +kernel
theorem text4 : textB [⟨⟨#[97]⟩, ⟨#[34, 92, 10]⟩⟩] = ⟨#[123, 97, 61, 34, 92, 34, 92, 92, 92, 120, 48, 97, 34, 125]⟩ := by decide +kernel
set_option maxRecDepth 100000 in
set_option maxHeartbeats 4000000 in
theorem wNames (w : World) : Calls Try.prog 3 #[] w (LawTrue w) := by
  have HLv := Lib.hid (fun X => lLives X)
  go_enter Try.func3, Try.ntmps3; (try simp only [List.append_eq, List.cons_append, List.nil_append])
  go_wp2_with fail
  refine (kSet _ _ _).mono ?_
  rintro e w1 ⟨v1, rfl, ho1, hb1⟩
  rw [set1] at ho1
  have HB1 := Lib.hid hb1
  have HL1 := Lib.hid (OwnL.labs (m := w1.heap.size) ho1 (Nat.le_refl _) (small_lit (by decide +kernel)))
  clear ho1 hb1
  go_wp2_with fail
  have x1 := labs_lit w1 [⟨⟨#[97]⟩, ⟨#[49]⟩⟩, ⟨⟨#[97]⟩, ⟨#[50]⟩⟩] (small_lit (by decide +kernel)) (by decide)
  have b1 := (Below.refl w1.heap.size w1).alloc (Nat.le_refl _) (.cells (flat [⟨⟨#[97]⟩, ⟨#[49]⟩⟩, ⟨⟨#[97]⟩, ⟨#[50]⟩⟩]).toArray 28)
  refine (lOfDup [⟨⟨#[97]⟩, ⟨#[49]⟩⟩, ⟨⟨#[97]⟩, ⟨#[50]⟩⟩] _ (w1.heap.size + 1) _ (by simp) x1 (by decide) (by decide) (by decide +kernel)).mono ?_
  rintro e w2 ⟨rfl, hb2⟩
  have HB2 := Lib.hid (HB1.out.trans ((b1.trans (hb2.mono (by simp))).mono HB1.out.size))
  have HL2 := Lib.hid (HL1.out.mono (b1.trans (hb2.mono (by simp))) (b1.trans (hb2.mono (by simp))).size)
  clear x1 b1 hb2
  go_wp2_with fail
  refine (HLv.out _).mono ?_
  rintro e w3 ⟨rfl, hb3⟩
  have HB3 := Lib.hid (HB2.out.trans (hb3.mono HB2.out.size))
  have HL3 := Lib.hid (HL2.out.mono hb3 hb3.size); clear hb3
  go_wp2_with fail
  have x1 := strs_lit w3 [⟨#[97]⟩] (by intro s hs; simp at hs; subst hs; decide) (by decide)
  have b1 := (Below.refl w3.heap.size w3).alloc (Nat.le_refl _) (.cells (([⟨#[97]⟩] : List ByteArray).map fun s => [Value.string s]).flatten.toArray 9)
  refine (lOnly L2 [⟨#[97]⟩] v1 _ (w3.heap.size + 1) _ (by simp) (HL3.out.mono b1 (by omega)) x1).mono ?_
  rintro e w4 ⟨v4, rfl, ho4, hb4⟩
  rw [part1] at ho4
  have HB4 := Lib.hid (HB3.out.trans ((b1.trans (hb4.mono (by simp))).mono HB3.out.size))
  have HL4 := Lib.hid (HL3.out.mono (b1.trans (hb4.mono (by simp))) (b1.trans (hb4.mono (by simp))).size)
  have HO4 := Lib.hid (OwnL.labs (m := w4.heap.size) ho4 (Nat.le_refl _) (small_lit (by decide +kernel)))
  clear x1 b1 hb4 ho4
  go_wp2_with fail
  refine (kSet _ _ _).mono ?_
  rintro e w5 ⟨v5, rfl, ho5, hb5⟩
  rw [set2] at ho5
  have HB5 := Lib.hid (HB4.out.trans (hb5.mono HB4.out.size))
  have HL5 := Lib.hid (HL4.out.mono hb5 hb5.size)
  have HO5 := Lib.hid (HO4.out.mono hb5 hb5.size)
  have HS5 := Lib.hid (OwnL.labs (m := w5.heap.size) ho5 (Nat.le_refl _) (small_lit (by decide +kernel)))
  clear ho5 hb5
  go_wp2_with fail
  refine (kLabels [lay] [lay] v4 v5 w5.heap.size w5 (Nat.le_refl _) HO5.out HS5.out).mono ?_
  rintro e w6 ⟨rfl, hb6⟩
  rw [decide_eq_true rfl]
  have HB6 := Lib.hid (HB5.out.trans (hb6.mono HB5.out.size))
  have HL6 := Lib.hid (HL5.out.mono hb6 hb6.size)
  clear hb6
  go_wp2_with fail
  have x1 := strs_lit w6 [⟨#[97]⟩] (by intro s hs; simp at hs; subst hs; decide) (by decide)
  have b1 := (Below.refl w6.heap.size w6).alloc (Nat.le_refl _) (.cells (([⟨#[97]⟩] : List ByteArray).map fun s => [Value.string s]).flatten.toArray 9)
  refine (lWithout L2 [⟨#[97]⟩] v1 _ (w6.heap.size + 1) _ (by simp) (HL6.out.mono b1 (by omega)) x1).mono ?_
  rintro e w7 ⟨v7, rfl, ho7, hb7⟩
  rw [part2] at ho7
  have HB7 := Lib.hid (HB6.out.trans ((b1.trans (hb7.mono (by simp))).mono HB6.out.size))
  have HO7 := Lib.hid (OwnL.labs (m := w7.heap.size) ho7 (Nat.le_refl _) (small_lit (by decide +kernel)))
  clear x1 b1 hb7 ho7
  go_wp2_with fail
  refine (kSet _ _ _).mono ?_
  rintro e w8 ⟨v8, rfl, ho8, hb8⟩
  rw [set3] at ho8
  have HB8 := Lib.hid (HB7.out.trans (hb8.mono HB7.out.size))
  have HO8 := Lib.hid (HO7.out.mono hb8 hb8.size)
  have HS8 := Lib.hid (OwnL.labs (m := w8.heap.size) ho8 (Nat.le_refl _) (small_lit (by decide +kernel)))
  clear ho8 hb8
  go_wp2_with fail
  refine (kLabels [lbx] [lbx] v7 v8 w8.heap.size w8 (Nat.le_refl _) HO8.out HS8.out).mono ?_
  rintro e w9 ⟨rfl, hb9⟩
  rw [decide_eq_true rfl]
  have HB9 := Lib.hid (HB8.out.trans (hb9.mono HB8.out.size))
  clear hb9
  go_wp2_with fail
  have x1 := labs_lit w9 [⟨⟨#[97]⟩, ⟨#[]⟩⟩] (small_lit (by decide +kernel)) (by decide)
  have b1 := (Below.refl w9.heap.size w9).alloc (Nat.le_refl _) (.cells (flat [⟨⟨#[97]⟩, ⟨#[]⟩⟩]).toArray 28)
  refine (lCheck [⟨⟨#[97]⟩, ⟨#[]⟩⟩] _ (w9.heap.size + 1) _ (by simp) x1).mono ?_
  rintro e wa ⟨rfl, hba⟩
  rw [show checkL [⟨⟨#[97]⟩, ⟨#[]⟩⟩] = 2 by decide +kernel]
  have HBa := Lib.hid (HB9.out.trans ((b1.trans (hba.mono (by simp))).mono HB9.out.size))
  clear x1 b1 hba
  go_wp2_with fail
  refine (lName _ _ (by decide)).mono ?_
  rintro e wb ⟨rfl, rfl⟩
  rw [show nameB ⟨#[97, 95, 49]⟩ = true by decide +kernel]
  go_wp2_with fail
  refine (lName _ _ (by decide)).mono ?_
  rintro e wc ⟨rfl, rfl⟩
  rw [show nameB ⟨#[49, 97]⟩ = false by decide +kernel]
  go_wp2_with fail
  refine (kSet _ _ _).mono ?_
  rintro e wd ⟨vd, rfl, hod, hbd⟩
  rw [set4] at hod
  have HBd := Lib.hid (HBa.out.trans (hbd.mono HBa.out.size))
  have HSd := Lib.hid (OwnL.labs (m := wd.heap.size) hod (Nat.le_refl _) (small_lit (by decide +kernel)))
  clear hod hbd
  go_wp2_with fail
  refine (lText [⟨⟨#[97]⟩, ⟨#[34, 92, 10]⟩⟩] vd wd.heap.size wd (Nat.le_refl _) HSd.out (by decide +kernel) (by decide +kernel) (by decide +kernel)).mono ?_
  rintro e we ⟨rfl, hbe⟩
  rw [text4]
  have HBe := Lib.hid (HBd.out.trans (hbe.mono HBd.out.size)); clear hbe
  go_wp2_with fail
  go_ret
  exact ⟨rfl, HBe.out⟩
end Go.Proofs.Ytbllkddpmmeloaa
