/- show: write, Sign, Word, strength. -/
import Derived.Test.YtdjdikiimhhjpaaGreatDoorK23
import Derived.Test.YtdjdikiimhhjpaaGreatDoorK20
set_option maxRecDepth 100000
set_option maxHeartbeats 16000000
namespace Go.Proofs.YtdjdikiimhhjpaaGreatDoor
open Go.RowKit
set_option linter.unusedSimpArgs false
set_option linter.unusedVariables false
def catL (xs : List ByteArray) : List UInt8 := xs.flatMap (·.data.toList)
theorem catL_step (xs : List ByteArray) (k : Nat) (h : k < xs.length) : catL (xs.take (k + 1)) = catL (xs.take k) ++ xs[k].data.toList := by
  unfold catL; rw [List.take_succ_eq_append_getElem h, List.flatMap_append]; simp
theorem catL_le (xs : List ByteArray) (k : Nat) (h : k < xs.length) : (catL (xs.take k)).length + xs[k].size ≤ (catL xs).length := by
  have e : xs = xs.take k ++ xs[k] :: xs.drop (k + 1) := by rw [List.getElem_cons_drop, List.take_append_drop]
  have h2 : xs[k].data.toList.length = xs[k].size := by simp
  conv => rhs; rw [e]
  unfold catL
  rw [List.flatMap_append, List.flatMap_cons]
  simp only [List.length_append]; omega
theorem sWrite (xs : List ByteArray) (g B b : Nat) (l : List UInt8) (W : World) (h : Bld B b l W) (hg : Blk W g 9 (xs.map .string)) (hB : B ≤ W.heap.size) (hl : l.length + (catL xs).length ≤ 1000000000) (hx : xs.length ≤ 1000) :
    Calls Tryz.prog 66 #[.pointer (some ⟨b, 0, none⟩), .slice (some ⟨g, 0, none⟩) xs.length xs.length] W fun e w' => e = .returned (.tuple #[]) ∧ Bld B b (l ++ catL xs) w' ∧ Below B W w' ∧ Kp b W w' := by
  have hne : g ≠ b := h.ne hg (by decide)
  have H := Lib.hid h; clear h
  have HG := Lib.hid hg; clear hg
  go_enter Tryz.func66, Tryz.ntmps66; (try simp only [List.append_eq, List.cons_append, List.nil_append])
  go_upto_region 1 with fail
  go_loopw [8] (fun i wr => ∃ k : Nat, k ≤ xs.length ∧ i = .int .i64 k ∧ Bld B b (l ++ catL (xs.take k)) wr ∧ Below B W wr ∧ Kp b W wr) (fun i _ => xs.length - (intOf i).toNat)
  case atStart => exact ⟨0, Nat.zero_le _, rfl, by simpa [catL] using H.out, Below.refl _ _, Kp.refl _ _⟩
  case round =>
    obtain ⟨k, hk, rfl, hbd, hb, hkp⟩ := hrel; have HB := Lib.hid hbd; clear hbd; have HL := Lib.hid hb; clear hb; have HK := Lib.hid hkp; clear hkp
    by_cases hlt : k < xs.length
    · have hc : wr.cell? ⟨g, k, none⟩ = some (.string xs[k]) := (HG.out.kp HK.out hne (by decide)).cell k _ (by simp [hlt])
      have Hst := Lib.hid (catL_step xs k hlt); have hle := catL_le xs k hlt; have hlen : (l ++ catL (xs.take k)).length + xs[k].size ≤ 1000000000 := by rw [List.length_append]; omega
      have HLe := Lib.hid hlen; clear hlen hle; generalize xs[k] = x at *
      go_wp2_with (go_at_call 82; refine (bWS B b (l ++ catL (xs.take k)) x _ HB.out HLe.out (Nat.le_trans hB HL.out.size)).mono ?_; rintro e w1 ⟨rfl, hbd, hb, hkp⟩; have HB1 := Lib.hid hbd; have HL1 := Lib.hid (HL.out.trans hb); have HK1 := Lib.hid (HK.out.trans hkp); clear hbd hb hkp)
      exact ⟨⟨k + 1, by omega, by go_num, by rw [Hst.out, ← List.append_assoc]; exact HB1.out, HL1.out, HK1.out⟩, by simp [intOf]; omega⟩
    · have hk' : k = xs.length := by omega
      subst hk'; rw [List.take_of_length_le (Nat.le_refl _)] at HB; go_wp2; refine bodyPost_end (results_none rfl _ _ _) rfl ?_; exact ⟨rfl, HB.out, HL.out, HK.out⟩
end Go.Proofs.YtdjdikiimhhjpaaGreatDoor
namespace Go.Proofs.YtdjdikiimhhjpaaGreatDoor
open Go.RowKit
set_option linter.unusedSimpArgs false
set_option linter.unusedVariables false
theorem sSign (op : Int) (w : World) (hop : -9223372036854775808 ≤ op ∧ op ≤ 9223372036854775807) :
    Calls Tryz.prog 69 #[.int .i64 op] w fun e w' => e = .returned (.string ⟨(signL op).toArray⟩) ∧ Below w.heap.size w w' := by
  have hcase : op < 0 ∨ 10 ≤ op ∨ op = 0 ∨ op = 1 ∨ op = 2 ∨ op = 3 ∨ op = 4 ∨ op = 5 ∨ op = 6 ∨ op = 7 ∨ op = 8 ∨ op = 9 := by omega
  go_enter Tryz.func69, Tryz.ntmps69; (try simp only [List.append_eq, List.cons_append, List.nil_append])
  rcases hcase with h | h | rfl | rfl | rfl | rfl | rfl | rfl | rfl | rfl | rfl | rfl
  · have hs : Hid (signL op = []) := by show _ = _; unfold signL; repeat rw [if_neg (by omega)]
    go_wp2; go_ret; exact ⟨ret_string (by rw [hs.out]), (Below.refl _ _).alloc (Nat.le_refl _) _⟩
  · have hs : Hid (signL op = []) := by show _ = _; unfold signL; repeat rw [if_neg (by omega)]
    go_wp2; go_ret; exact ⟨ret_string (by rw [hs.out]), (Below.refl _ _).alloc (Nat.le_refl _) _⟩
  all_goals
    go_wp2; go_ret; exact ⟨ret_string rfl, (Below.refl _ _).alloc (Nat.le_refl _) _⟩
theorem sStrength (k op : Int) (w : World) :
    Calls Tryz.prog 64 #[.agg #[.int .i64 k, .int .i64 op]] w fun e w' => e = .returned (.int .i64 (strI k op)) ∧ Below w.heap.size w w' := by
  go_enter Tryz.func64, Tryz.ntmps64; (try simp only [List.append_eq, List.cons_append, List.nil_append])
  by_cases h3 : k = 3
  · subst h3
    by_cases ho : op = 3
    · subst ho
      go_wp2; go_ret; exact ⟨ret_int rfl, (Below.refl _ _).alloc (Nat.le_refl _) _⟩
    · have hs : Hid (strI 3 op = 1) := by show _ = _; unfold strI; rw [if_pos (by omega), if_neg ho]
      have hb : (op == 3) = false := by simpa using ho
      go_wp2; go_ret; exact ⟨ret_int (by rw [hs.out]), (Below.refl _ _).alloc (Nat.le_refl _) _⟩
  · have hb3 : (k == 3) = false := by simpa using h3
    by_cases h4 : k = 4
    · subst h4
      by_cases ho : op = 3
      · subst ho
        go_wp2; go_ret; exact ⟨ret_int rfl, (Below.refl _ _).alloc (Nat.le_refl _) _⟩
      · have hs : Hid (strI 4 op = 1) := by show _ = _; unfold strI; rw [if_pos (by omega), if_neg ho]
        have hb : (op == 3) = false := by simpa using ho
        go_wp2; go_ret; exact ⟨ret_int (by rw [hs.out]), (Below.refl _ _).alloc (Nat.le_refl _) _⟩
    · have hb4 : (k == 4) = false := by simpa using h4
      by_cases h5 : k = 5
      · subst h5
        go_wp2; go_ret; exact ⟨ret_int rfl, (Below.refl _ _).alloc (Nat.le_refl _) _⟩
      · have hb5 : (k == 5) = false := by simpa using h5
        have hs : Hid (strI k op = 3) := by show _ = _; unfold strI; rw [if_neg (by omega), if_neg h5]
        go_wp2; go_ret; exact ⟨ret_int (by rw [hs.out]), (Below.refl _ _).alloc (Nat.le_refl _) _⟩
theorem sWord (k f : Int) (w : World) :
    Calls Tryz.prog 67 #[.int .i64 k, .int .i64 f] w fun e w' => e = .returned (.string ⟨(wordL k f).toArray⟩) ∧ Below w.heap.size w w' := by
  go_enter Tryz.func67, Tryz.ntmps67; (try simp only [List.append_eq, List.cons_append, List.nil_append])
  by_cases h1 : k = 1
  · subst h1
    have hcase : f < 1 ∨ 6 < f ∨ f = 1 ∨ f = 2 ∨ f = 3 ∨ f = 4 ∨ f = 5 ∨ f = 6 := by omega
    rcases hcase with h | h | rfl | rfl | rfl | rfl | rfl | rfl
    · have hs : Hid (wordL 1 f = []) := by show _ = _; unfold wordL; rw [if_pos rfl]; repeat rw [if_neg (by omega)]
      go_wp2; go_ret; exact ⟨ret_string (by rw [hs.out]), (Below.refl _ _).alloc (Nat.le_refl _) _⟩
    · have hs : Hid (wordL 1 f = []) := by show _ = _; unfold wordL; rw [if_pos rfl]; repeat rw [if_neg (by omega)]
      have h0 : ¬ f < 1 := by omega
      go_wp2; go_ret; exact ⟨ret_string (by rw [hs.out]), (Below.refl _ _).alloc (Nat.le_refl _) _⟩
    all_goals
      go_wp2; go_ret; exact ⟨ret_string rfl, (Below.refl _ _).alloc (Nat.le_refl _) _⟩
  · have hb1 : (k == 1) = false := by simpa using h1
    by_cases h2 : k = 2
    · subst h2
      have hcase : f < 1 ∨ 4 < f ∨ f = 1 ∨ f = 2 ∨ f = 3 ∨ f = 4 := by omega
      rcases hcase with h | h | rfl | rfl | rfl | rfl
      · have hs : Hid (wordL 2 f = []) := by show _ = _; unfold wordL; rw [if_neg (by decide), if_pos rfl]; repeat rw [if_neg (by omega)]
        go_wp2; go_ret; exact ⟨ret_string (by rw [hs.out]), (Below.refl _ _).alloc (Nat.le_refl _) _⟩
      · have hs : Hid (wordL 2 f = []) := by show _ = _; unfold wordL; rw [if_neg (by decide), if_pos rfl]; repeat rw [if_neg (by omega)]
        have h0 : ¬ f < 1 := by omega
        go_wp2; go_ret; exact ⟨ret_string (by rw [hs.out]), (Below.refl _ _).alloc (Nat.le_refl _) _⟩
      all_goals
        go_wp2; go_ret; exact ⟨ret_string rfl, (Below.refl _ _).alloc (Nat.le_refl _) _⟩
    · have hb2 : (k == 2) = false := by simpa using h2
      have hs : Hid (wordL k f = []) := by show _ = _; unfold wordL; rw [if_neg h1, if_neg h2]
      by_cases h0 : f < 1
      · go_wp2
        go_ret; exact ⟨ret_string (by rw [hs.out]), Below.refl _ _⟩
      · have h0' : 0 < f := by omega
        go_wp2; go_ret; exact ⟨ret_string (by rw [hs.out]), Below.refl _ _⟩
end Go.Proofs.YtdjdikiimhhjpaaGreatDoor
