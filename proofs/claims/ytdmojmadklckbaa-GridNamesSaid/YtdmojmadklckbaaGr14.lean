/- GridNames: the walk. -/
import Derived.Test.YtdmojmadklckbaaGr13
namespace Go.Proofs.Ytdmojmadklckbaa
open Go.RowKit
set_option linter.unusedSimpArgs false
set_option linter.unusedVariables false

theorem bet5 : betL 5 0 12 = [5, 10] := by
  refine betL_stop (x := 15) ⟨3, by omega, by decide +kernel, by decide +kernel⟩ (by decide) (by decide) (.inl (by omega))
theorem nMT : nextV 5 1099511627776 = .tuple #[.int .i64 0, .bool false] := by
  have : nextT 5 1099511627776 = none := by decide +kernel
  unfold nextV; rw [this]
theorem k7 : keepTo 5 [(5, winEx 1 7)] = 3 := by
  have h : nextT 5 5 = some 10 := by decide +kernel
  have hk : kp 5 (5, winEx 1 7) = [3] := by
    unfold kp keepT
    simp only [w7_ok, h, w7_hor, if_true]
    decide
  show minTo (keeps 5 [(5, winEx 1 7)]) = 3
  unfold keeps
  rw [List.flatMap_cons, hk]; decide
theorem kNil : keepTo 5 [] = 5 := by decide
theorem one_q (w : World) : IsQs (w.heap.size + 1) (w.alloc (.cells #[.int .i64 5, .int .i64 1, .int .i64 1, .int .i64 0, .int .i64 0, .string ⟨#[99, 112, 117]⟩, .slice none 0 0, .int .i64 7, .slice none 0 0, .slice none 0 0] 28)) (.slice (some ⟨w.heap.size, 0, none⟩) 1 1) [(5, winEx 1 7)] := by
  refine ⟨[.int .i64 5 :: winC 1 7], ⟨_, 1, rfl, by simp, by unfold maxLen; omega, fun _ => ⟨w.heap.size, 0, rfl, by omega, fun k r hr j x hx => ?_⟩⟩, rfl, fun k r q hr hq => ?_⟩
  · have key := (Blk.new w (.int .i64 5 :: winC 1 7) 28).cell
    cases k with
    | zero =>
      simp at hr; subst hr
      have := key j x hx
      simpa [winC] using this
    | succ k => simp at hr
  · cases k with
    | zero => simp at hr hq; subst hr hq; exact ⟨_, rfl, win_is 1 7 _ _⟩
    | succ k => simp at hr
theorem timesYes (l : List Int) (va vb : Value) (n : Nat) (w : World) (hn : n ≤ w.heap.size) (ha : IsInts n w va l) (hb : IsInts n w vb l) :
    Calls Try.prog 18 #[va, vb] w fun e w' => e = .returned (.bool true) ∧ Below w.heap.size w w' := by
  have := kTimes l l va vb n w hn ha hb
  rwa [decide_eq_true rfl] at this
theorem inOf (s a t : Int) (b : Bool) (h : inW s a t = b) (hs : i64 s) (ha : i64 a) (ht : i64 t) (w : World) : Calls Try.prog 12 #[.int .i64 s, .int .i64 a, .int .i64 t] w fun e w' => e = .returned (.bool b) ∧ w = w' := by
  subst h; exact gIn s a t w hs ha ht
theorem keepOf (l : List (Int × Ex)) (v : Value) (k : Int) (n : Nat) (w : World) (hk : keepTo 5 l = k) (hn : n ≤ w.heap.size) (h : IsQs n w v l) (hsz : ∀ q ∈ l, q.2.size ≤ 1000000) (hlen : l.length ≤ 1000000) :
    Calls Try.prog 14 #[v, .int .i64 5] w fun e' w' => e' = .returned (.int .i64 k) ∧ Below w.heap.size w w' := by
  subst hk; exact gKeepM l 5 5 v n w hn h hsz hlen (by unfold i64; omega) (.inl ⟨by omega, rfl⟩)

set_option maxRecDepth 100000 in
set_option maxHeartbeats 2000000 in
theorem wNames (w : World) : Calls Try.prog 4 #[] w fun e' w' => e' = .returned (.bool true) ∧ Below w.heap.size w w' := by
  have HB := Lib.hid (Below.refl w.heap.size w)
  have HF := Lib.hid (fun wx => gFirstQ wx)
  have HL := Lib.hid (fun wx => lLives wx)
  have H1 := Lib.hid (fun wx => fNext 1099511627776 _ nMT (by unfold i64; omega) wx)
  have H2 := Lib.hid (fun wx => fFirst 9 2 (by decide +kernel) (by unfold i64; omega) wx)
  have H3 := Lib.hid (fun wx => fBetween 0 12 _ bet5 (by unfold i64; omega) wx)
  have H5 := Lib.hid (fun wx => inOf 3 10 8 true (by decide) (by unfold i64; omega) (by unfold i64; omega) (by unfold i64; omega) wx)
  have H6 := Lib.hid (fun wx => inOf 3 10 7 false (by decide) (by unfold i64; omega) (by unfold i64; omega) (by unfold i64; omega) wx)
  have HK0 : Hid (∀ wx : World, Calls Try.prog 14 #[.slice none 0 0, .int .i64 5] wx fun e' w' => e' = .returned (.int .i64 5) ∧ Below wx.heap.size wx w') := fun wx => keepOf [] _ 5 0 wx kNil (Nat.zero_le _) (IsQs.nil _ _) (by simp) (by simp)
  have HK1 := Lib.hid (fun wx => keepOf [(5, winEx 1 7)] _ 3 _ _ k7 (by simp) (one_q wx) (by intro q hq; simp at hq; subst hq; rw [w7_size]; omega) (by simp))
  go_enter Try.func4, Try.ntmps4; (try simp only [List.append_eq, List.cons_append, List.nil_append])
  go_wp2_with (first
    | (go_at_call 16; refine (HF.out _).mono ?_; rintro e' w1 ⟨rfl, hb⟩; have HB := Lib.hid (HB.out.trans (hb.mono HB.out.size)); clear hb)
    | (go_at_call 7; refine (HL.out _).mono ?_; rintro e' w1 ⟨rfl, hb⟩; have HB := Lib.hid (HB.out.trans (hb.mono HB.out.size)); clear hb)
    | (go_at_call 15; refine (H1.out _).mono ?_; rintro e' w1 ⟨rfl, hb⟩; have HB := Lib.hid (HB.out.trans (hb.mono HB.out.size)); clear hb)
    | (go_at_call 20; refine (H2.out _).mono ?_; rintro e' w1 ⟨rfl, hb⟩; have HB := Lib.hid (HB.out.trans (hb.mono HB.out.size)); clear hb)
    | (go_at_call 17; refine (fMark (-1) [] _ 0 2 0 _ (by decide +kernel) (by decide +kernel) (by unfold i64; omega) (Arr.nil _ _ _)).mono ?_; rintro e' w' ⟨rfl, rfl⟩)
    | (go_at_call 19; refine (H3.out _).mono ?_; rintro e' w2 ⟨v2, rfl, hown, hb⟩; have HO := Lib.hid (hown.ints (Nat.le_refl _)); clear hown; have HB := Lib.hid (HB.out.trans (hb.mono HB.out.size)); clear hb)
    | (go_at_call 18; refine (timesYes [5, 10] _ _ _ _ (by simp) (HO.out.mono ((Below.refl _ _).alloc (Nat.le_refl _) _) (Nat.le_succ _)) (arr2 _ 5 10)).mono ?_; rintro e' w3 ⟨rfl, hb⟩; have HB := Lib.hid ((HB.out.alloc HB.out.size (.cells #[.int .i64 5, .int .i64 10] 2)).trans (hb.mono (by have := HB.out.size; simp; omega))); clear hb)
    | (go_at_call 14; (with_reducible refine (HK0.out _).mono ?_); rintro e' w3 ⟨rfl, hb⟩; have HB := Lib.hid (HB.out.trans (hb.mono HB.out.size)); clear hb)
    | (go_at_call 14; refine (HK1.out _).mono ?_; rintro e' w3 ⟨rfl, hb⟩; have HB := Lib.hid ((HB.out.alloc HB.out.size (.cells #[.int .i64 5, .int .i64 1, .int .i64 1, .int .i64 0, .int .i64 0, .string ⟨#[99, 112, 117]⟩, .slice none 0 0, .int .i64 7, .slice none 0 0, .slice none 0 0] 28)).trans (hb.mono (by have := HB.out.size; simp; omega))); clear hb)
    | (go_at_call 12; (first | (with_reducible refine (H5.out _).mono ?_) | (with_reducible refine (H6.out _).mono ?_)); rintro e' w' ⟨rfl, rfl⟩))
  go_ret
  exact ⟨rfl, HB.out⟩

end Go.Proofs.Ytdmojmadklckbaa
