/- The chapter's query; lives. -/
import Derived.Test.YtdmojmadklckbaaGr12
namespace Go.Proofs.Ytdmojmadklckbaa
open Go.RowKit
set_option linter.unusedSimpArgs false
set_option linter.unusedVariables false

def winEx (fn span : Int) : Ex := .mk 1 fn 0 0 ⟨#[99, 112, 117]⟩ [] span [] []
def winC (fn span : Int) : List Value := [.int .i64 1, .int .i64 fn, .int .i64 0, .int .i64 0, .string ⟨#[99, 112, 117]⟩, .slice none 0 0, .int .i64 span, .slice none 0 0, .slice none 0 0]
theorem win_is (fn span : Int) (n : Nat) (w : World) : IsEx n w (winEx fn span) (winC fn span) :=
  .mk (rows := []) (by decide) ⟨Arr.nil _ _ _, by simp⟩ ⟨Arr.nil _ _ _, by simp⟩ (Arr.nil _ _ _) rfl (fun k r e hr _ => by simp at hr)

theorem kWin (fn span : Int) (w : World) : Calls Try.prog 40 #[.int .i64 fn, .int .i64 span] w fun e' w' =>
    e' = .returned (.agg #[.int .i64 1, .int .i64 fn, .int .i64 0, .int .i64 0, .string ⟨#[99, 112, 117]⟩, .slice none 0 0, .int .i64 span, .slice none 0 0, .slice none 0 0]) ∧ Below w.heap.size w w' := by
  go_enter Try.func40, Try.ntmps40; (try simp only [List.append_eq, List.cons_append, List.nil_append])
  go_wp2
  exact bodyPost_agg (g := w.heap.size) (fr := (0, 0)) rfl rfl (World.alloc_heap_new w _) Try.underlying26 rfl (by kernel_rfl) rfl ⟨rfl, (Below.refl _ _).alloc (Nat.le_refl _) _⟩

def q7 : Value := .agg #[.int .i64 5, .int .i64 1, .int .i64 1, .int .i64 0, .int .i64 0, .string ⟨#[99, 112, 117]⟩, .slice none 0 0, .int .i64 7, .slice none 0 0, .slice none 0 0]
theorem gFirstQ (w : World) : Calls Try.prog 16 #[] w fun e' w' => e' = .returned (.agg #[.int .i64 5, .int .i64 1, .int .i64 1, .int .i64 0, .int .i64 0, .string ⟨#[99, 112, 117]⟩, .slice none 0 0, .int .i64 7, .slice none 0 0, .slice none 0 0]) ∧ Below w.heap.size w w' := by
  go_enter Try.func16, Try.ntmps16; (try simp only [List.append_eq, List.cons_append, List.nil_append])
  go_wp2_with fail
  refine (kWin _ _ _).mono ?_
  rintro e' w2 ⟨rfl, hb2⟩
  have hz : Blk w2 w.heap.size 28 [.int .i64 0, .int .i64 0, .int .i64 0, .int .i64 0, .int .i64 0, .string ⟨#[]⟩, .slice none 0 0, .int .i64 0, .slice none 0 0, .slice none 0 0] := (Blk.new w _ _).keep hb2
  have HZ := Lib.hid hz; clear hz
  have HB := Lib.hid (((Below.refl w.heap.size w).alloc (Nat.le_refl _) _).trans (hb2.mono (by simp))); clear hb2
  go_wp2_with (refine wpList_store_row rfl 28 _ _ rfl w.heap.size #[.int .i64 5, .int .i64 1, .int .i64 1, .int .i64 0, .int .i64 0, .string ⟨#[99, 112, 117]⟩, .slice none 0 0, .int .i64 7, .slice none 0 0, .slice none 0 0] rfl rfl 28 _ HZ.out (by kernel_rfl) rfl (by kernel_rfl) ?_)
  exact bodyPost_agg (g := w.heap.size) (fr := (0, 0)) rfl rfl (setRow_at HZ.out _) Try.underlying28 rfl (by kernel_rfl) rfl ⟨rfl, below_setRow HB.out (Nat.le_refl _) _⟩

theorem w7_size : (winEx 1 7).size = 1 := by decide +kernel
theorem w7_hor : (winEx 1 7).hor = 7 := by
  have : (winEx 1 7).leaves = [winEx 1 7] := by simp [winEx, Ex.leaves, leavess]
  unfold Ex.hor
  rw [this]; rfl
theorem w7_ok : checkQuery 5 (winEx 1 7) = 0 := by decide +kernel
theorem fNext (mark : Int) (v : Value) (h : nextV 5 mark = v) (hm : i64 mark) (w : World) : Calls Try.prog 15 #[.agg #[.int .i64 5, .int .i64 1, .int .i64 1, .int .i64 0, .int .i64 0, .string ⟨#[99, 112, 117]⟩, .slice none 0 0, .int .i64 7, .slice none 0 0, .slice none 0 0], .int .i64 mark] w fun e' w' => e' = .returned v ∧ Below w.heap.size w w' := by
  subst h; exact gNext 5 mark (winEx 1 7) (winC 1 7) w (win_is 1 7 0 w).qc hm
theorem fLast (mark : Int) (v : Int) (h : lastT 5 mark = v) (hm : i64 mark) (w : World) : Calls Try.prog 23 #[.agg #[.int .i64 5, .int .i64 1, .int .i64 1, .int .i64 0, .int .i64 0, .string ⟨#[99, 112, 117]⟩, .slice none 0 0, .int .i64 7, .slice none 0 0, .slice none 0 0], .int .i64 mark] w fun e' w' => e' = .returned (.int .i64 v) ∧ Below w.heap.size w w' := by
  subst h; exact gLast 5 mark (winEx 1 7) (winC 1 7) w (win_is 1 7 0 w).qc hm
theorem fFirst (mark : Int) (v : Int) (h : firstT 5 mark = v) (hm : i64 mark) (w : World) : Calls Try.prog 20 #[.agg #[.int .i64 5, .int .i64 1, .int .i64 1, .int .i64 0, .int .i64 0, .string ⟨#[99, 112, 117]⟩, .slice none 0 0, .int .i64 7, .slice none 0 0, .slice none 0 0], .int .i64 mark] w fun e' w' => e' = .returned (.int .i64 v) ∧ Below w.heap.size w w' := by
  subst h; exact gFirst 5 mark (winEx 1 7) (winC 1 7) w (win_is 1 7 0 w).qc hm
theorem fBetween (frm til : Int) (l : List Int) (h : betL 5 frm til = l) (hm : i64 frm) (w : World) : Calls Try.prog 19 #[.agg #[.int .i64 5, .int .i64 1, .int .i64 1, .int .i64 0, .int .i64 0, .string ⟨#[99, 112, 117]⟩, .slice none 0 0, .int .i64 7, .slice none 0 0, .slice none 0 0], .int .i64 frm, .int .i64 til] w fun e' w' => ∃ v, e' = .returned v ∧ OwnI 2 w.heap.size w' v l ∧ Below w.heap.size w w' := by
  subst h; exact gBetween 5 frm til (winEx 1 7) (winC 1 7) w (win_is 1 7 0 w).qc hm
theorem fNeeded (mark time : Int) (b : Bool) (h : neededT 5 (winEx 1 7) mark time = b) (hm : i64 mark) (ht : i64 time) (w : World) : Calls Try.prog 13 #[.agg #[.int .i64 5, .int .i64 1, .int .i64 1, .int .i64 0, .int .i64 0, .string ⟨#[99, 112, 117]⟩, .slice none 0 0, .int .i64 7, .slice none 0 0, .slice none 0 0], .int .i64 mark, .int .i64 time] w fun e' w' => e' = .returned (.bool b) ∧ Below w.heap.size w w' := by
  subst h; exact gNeeded 5 mark time (winEx 1 7) (winC 1 7) 0 w (Nat.zero_le _) (win_is 1 7 0 w) (by rw [w7_size]; omega) hm ht
theorem fMark (late : Int) (l : List Int) (v : Value) (t e : Int) (n : Nat) (w : World) (h1 : markT late l = t) (h2 : markE late l = e) (hl : i64 late) (h : IsInts n w v l) : Calls Try.prog 17 #[.int .i64 late, v] w fun e' w' => e' = .returned (.tuple #[.int .i64 t, .int .i64 e]) ∧ w = w' := by
  subst h1 h2; exact gMark late l v n w hl h
theorem arr2 (w : World) (a b : Int) : IsInts (w.heap.size + 1) (w.alloc (.cells #[.int .i64 a, .int .i64 b] 2)) (.slice (some ⟨w.heap.size, 0, none⟩) 2 2) [a, b] := by
  refine ⟨_, 2, rfl, by simp, by unfold maxLen; omega, fun _ => ⟨w.heap.size, 0, rfl, by omega, fun k r hr j x hx => ?_⟩⟩
  have key := (Blk.new w [.int .i64 a, .int .i64 b] 2).cell
  match k, hr with
  | 0, hr => simp at hr; subst hr; match j, hx with
    | 0, hx => simp at hx; subst hx; exact key 0 _ rfl
    | j + 1, hx => simp at hx
  | 1, hr => simp at hr; subst hr; match j, hx with
    | 0, hx => simp at hx; subst hx; exact key 1 _ rfl
    | j + 1, hx => simp at hx
  | k + 2, hr => simp at hr

theorem n55 : nextV 5 5 = .tuple #[.int .i64 10, .bool true] := by
  have : nextT 5 5 = some 10 := by decide +kernel
  unfold nextV; rw [this]
theorem need53 : neededT 5 (winEx 1 7) 5 3 = false := by
  have h1 : nextT 5 (max 5 (wrap64 (3 - 1))) = some 10 := by decide +kernel
  unfold neededT; rw [h1, w7_hor, w7_ok]; decide +kernel
theorem need54 : neededT 5 (winEx 1 7) 5 4 = true := by
  have h1 : nextT 5 (max 5 (wrap64 (4 - 1))) = some 10 := by decide +kernel
  unfold neededT; rw [h1, w7_hor, w7_ok]; decide +kernel

set_option maxRecDepth 100000 in
set_option maxHeartbeats 2000000 in
theorem lLives (w : World) : Calls Try.prog 7 #[] w fun e' w' => e' = .returned (.bool true) ∧ Below w.heap.size w w' := by
  have HB := Lib.hid (Below.refl w.heap.size w)
  have HF := Lib.hid (fun wx => gFirstQ wx)
  have H1 := Lib.hid (fun wx => fNext 5 _ n55 (by unfold i64; omega) wx)
  have H2 := Lib.hid (fun wx => fLast 9 5 (by decide +kernel) (by unfold i64; omega) wx)
  have H3 := Lib.hid (fun wx => fNeeded 5 3 false need53 (by unfold i64; omega) (by unfold i64; omega) wx)
  have H4 := Lib.hid (fun wx => fNeeded 5 4 true need54 (by unfold i64; omega) (by unfold i64; omega) wx)
  go_enter Try.func7, Try.ntmps7; (try simp only [List.append_eq, List.cons_append, List.nil_append])
  go_wp2_with (first
    | (go_at_call 16; refine (HF.out _).mono ?_; rintro e' w1 ⟨rfl, hb⟩; have HB := Lib.hid (HB.out.trans (hb.mono HB.out.size)); clear hb)
    | (go_at_call 15; refine (H1.out _).mono ?_; rintro e' w1 ⟨rfl, hb⟩; have HB := Lib.hid (HB.out.trans (hb.mono HB.out.size)); clear hb)
    | (go_at_call 17; refine (fMark 3 [10, 4] _ 7 0 _ _ (by decide +kernel) (by decide +kernel) (by unfold i64; omega) (arr2 _ 10 4)).mono ?_; rintro e' w' ⟨rfl, rfl⟩; have HB := Lib.hid (HB.out.alloc HB.out.size (.cells #[.int .i64 10, .int .i64 4] 2)))
    | (go_at_call 23; refine (H2.out _).mono ?_; rintro e' w1 ⟨rfl, hb⟩; have HB := Lib.hid (HB.out.trans (hb.mono HB.out.size)); clear hb)
    | (go_at_call 13; (first | (with_reducible refine (H3.out _).mono ?_) | (with_reducible refine (H4.out _).mono ?_)); rintro e' w1 ⟨rfl, hb⟩; have HB := Lib.hid (HB.out.trans (hb.mono HB.out.size)); clear hb))
  go_ret
  exact ⟨rfl, HB.out⟩

end Go.Proofs.Ytdmojmadklckbaa
