/- The reference's show: Sign, Word, by, strength, names. -/
import Derived.Test.YtobelmipjanibaaDoorSh0
import Derived.Deep.CutRange
import Derived.Deep.CutBlock
namespace Go.Proofs.YtobelmipjanibaaDoor
open Go.RowKit
set_option linter.unusedSimpArgs false
set_option linter.unusedVariables false

set_option maxRecDepth 100000 in
set_option maxHeartbeats 2000000 in
theorem rSign (op : Int) (w : World) (hop : -9223372036854775808 ≤ op ∧ op ≤ 9223372036854775807) :
    Calls Tryd.prog 18 #[.int .i64 op] w fun e w' => e = .returned (.string ⟨(signL op).toArray⟩) ∧ Below w.heap.size w w' := by
  have hcase : op < 1 ∨ 10 ≤ op ∨ op = 1 ∨ op = 2 ∨ op = 3 ∨ op = 4 ∨ op = 5 ∨ op = 6 ∨ op = 7 ∨ op = 8 ∨ op = 9 := by omega
  go_enter Tryd.func18, Tryd.ntmps18; (try simp only [List.append_eq, List.cons_append, List.nil_append])
  rcases hcase with h | h | rfl | rfl | rfl | rfl | rfl | rfl | rfl | rfl | rfl
  · have hs : Hid (signL op = []) := by show _ = _; unfold signL; repeat rw [if_neg (by omega)]
    go_wp2
    go_ret
    exact ⟨ret_string (by rw [hs.out]), (Below.refl _ _).alloc (Nat.le_refl _) _⟩
  · have hs : Hid (signL op = []) := by show _ = _; unfold signL; repeat rw [if_neg (by omega)]
    have h1 : ¬ op < 1 := by omega
    go_wp2
    go_ret
    exact ⟨ret_string (by rw [hs.out]), (Below.refl _ _).alloc (Nat.le_refl _) _⟩
  all_goals
    go_wp2
    go_ret
    exact ⟨ret_string rfl, (Below.refl _ _).alloc (Nat.le_refl _) _⟩

set_option maxRecDepth 100000 in
set_option maxHeartbeats 4000000 in
theorem rWord (k f : Int) (w : World) :
    Calls Tryd.prog 19 #[.int .i64 k, .int .i64 f] w fun e w' => e = .returned (.string ⟨(wordL k f).toArray⟩) ∧ Below w.heap.size w w' := by
  go_enter Tryd.func19, Tryd.ntmps19; (try simp only [List.append_eq, List.cons_append, List.nil_append])
  by_cases h1 : k = 1
  · subst h1
    have hcase : f < 1 ∨ 6 < f ∨ f = 1 ∨ f = 2 ∨ f = 3 ∨ f = 4 ∨ f = 5 ∨ f = 6 := by omega
    rcases hcase with h | h | rfl | rfl | rfl | rfl | rfl | rfl
    · have hs : Hid (wordL 1 f = []) := by show _ = _; unfold wordL; rw [if_pos rfl]; repeat rw [if_neg (by omega)]
      go_wp2
      go_ret
      exact ⟨ret_string (by rw [hs.out]), (Below.refl _ _).alloc (Nat.le_refl _) _⟩
    · have hs : Hid (wordL 1 f = []) := by show _ = _; unfold wordL; rw [if_pos rfl]; repeat rw [if_neg (by omega)]
      have h0 : ¬ f < 1 := by omega
      go_wp2
      go_ret
      exact ⟨ret_string (by rw [hs.out]), (Below.refl _ _).alloc (Nat.le_refl _) _⟩
    all_goals
      go_wp2
      go_ret
      exact ⟨ret_string rfl, (Below.refl _ _).alloc (Nat.le_refl _) _⟩
  · have hb1 : (k != 1) = true := by simpa using h1
    by_cases h2 : k = 2
    · subst h2
      have hcase : f < 1 ∨ 4 < f ∨ f = 1 ∨ f = 2 ∨ f = 3 ∨ f = 4 := by omega
      rcases hcase with h | h | rfl | rfl | rfl | rfl
      · have hs : Hid (wordL 2 f = []) := by show _ = _; unfold wordL; rw [if_neg (by decide), if_pos rfl]; repeat rw [if_neg (by omega)]
        go_wp2
        go_ret
        exact ⟨ret_string (by rw [hs.out]), ((Below.refl _ _).alloc (Nat.le_refl _) _).alloc (by simp) _⟩
      · have hs : Hid (wordL 2 f = []) := by show _ = _; unfold wordL; rw [if_neg (by decide), if_pos rfl]; repeat rw [if_neg (by omega)]
        have h0 : ¬ f < 1 := by omega
        go_wp2
        go_ret
        exact ⟨ret_string (by rw [hs.out]), ((Below.refl _ _).alloc (Nat.le_refl _) _).alloc (by simp) _⟩
      all_goals
        go_wp2
        go_ret
        exact ⟨ret_string rfl, ((Below.refl _ _).alloc (Nat.le_refl _) _).alloc (by simp) _⟩
    · have hb2 : (k == 2) = false := by simpa using h2
      have hb3 : (k != 2) = true := by simpa using h2
      have hs : Hid (wordL k f = []) := by show _ = _; unfold wordL; rw [if_neg h1, if_neg h2]
      go_wp2
      go_ret
      exact ⟨ret_string (by rw [hs.out]), (Below.refl _ _).alloc (Nat.le_refl _) _⟩

def byI (op : Int) : Int := if op = 3 then 2 else 1
theorem rBy (op : Int) (w : World) : Calls Tryd.prog 57 #[.int .i64 op] w fun e w' => e = .returned (.int .i64 (byI op)) ∧ w = w' := by
  go_enter Tryd.func57, Tryd.ntmps57; (try simp only [List.append_eq, List.cons_append, List.nil_append])
  by_cases h : op = 3
  · subst h
    go_wp2
    go_ret
    exact ⟨ret_int rfl, rfl⟩
  · have hb : (op == 3) = false := by simpa using h
    have hs : Hid (byI op = 1) := by show _ = _; unfold byI; rw [if_neg h]
    go_wp2
    go_ret
    exact ⟨ret_int (by rw [hs.out]), rfl⟩

set_option maxRecDepth 100000 in
set_option maxHeartbeats 2000000 in
theorem rStrength (e : Ex) (pm pn pk : Option Addr) (cm cn ck : Nat) (w : World) :
    Calls Tryd.prog 80 #[.agg #[.int .i64 e.kind, .int .i64 e.fn, .int .i64 e.op, .int .i64 e.num, .string e.metric, .slice pm e.mats.length cm, .int .i64 e.span, .slice pn e.names.length cn, .slice pk e.kids.length ck]] w fun e' w' => e' = .returned (.int .i64 (strI e.kind e.op)) ∧ Below w.heap.size w w' := by
  have hb : Below w.heap.size w (w.alloc (.cells #[.int .i64 e.kind, .int .i64 e.fn, .int .i64 e.op, .int .i64 e.num, .string e.metric, .slice pm e.mats.length cm, .int .i64 e.span, .slice pn e.names.length cn, .slice pk e.kids.length ck] 26)) := (Below.refl _ _).alloc (Nat.le_refl _) _
  have Hb := Lib.hid hb; clear hb
  go_enter Tryd.func80, Tryd.ntmps80; (try simp only [List.append_eq, List.cons_append, List.nil_append])
  by_cases h5 : e.kind = 5
  · have hs : Hid (strI e.kind e.op = 0) := by show _ = _; unfold strI; rw [if_neg (by omega), if_pos h5]
    have hb5 : (e.kind == 5) = true := by simpa using h5
    clear h5
    go_wp2
    go_ret
    exact ⟨ret_int (by rw [hs.out]), Hb.out⟩
  · have hb5 : (e.kind == 5) = false := by simpa using h5
    by_cases h34 : e.kind = 3 ∨ e.kind = 4
    · have hs : Hid (strI e.kind e.op = byI e.op) := by show _ = _; unfold strI byI; rw [if_pos h34]
      rcases h34 with h | h
      · have hb3 : (e.kind == 3) = true := by simpa using h
        clear h h5
        go_wp2_with (go_at_call 57; refine (rBy _ _).mono ?_; rintro e' w' ⟨rfl, rfl⟩)
        go_ret
        exact ⟨ret_int (by rw [hs.out]), Hb.out⟩
      · have hb3 : (e.kind == 3) = false := by simp; omega
        have hb4 : (e.kind == 4) = true := by simpa using h
        clear h h5
        go_wp2_with (go_at_call 57; refine (rBy _ _).mono ?_; rintro e' w' ⟨rfl, rfl⟩)
        go_ret
        exact ⟨ret_int (by rw [hs.out]), Hb.out⟩
    · have hs : Hid (strI e.kind e.op = 3) := by show _ = _; unfold strI; rw [if_neg h34, if_neg h5]
      have hb3 : (e.kind == 3) = false := by simp; omega
      have hb4 : (e.kind == 4) = false := by simp; omega
      clear h34 h5
      go_wp2
      go_ret
      exact ⟨ret_int (by rw [hs.out]), Hb.out⟩

/-- Texts joined, one more. -/
theorem join_take (sep : List UInt8) (l : List (List UInt8)) (k : Nat) (h : k < l.length) : Lib.join (l.take (k + 1)) sep = Lib.join (l.take k) sep ++ (if 0 < k then sep else []) ++ l[k] := by
  cases l with
  | nil => simp at h
  | cons x r =>
    cases k with
    | zero => simp [Lib.join_one, Lib.join_nil]
    | succ k =>
      have hk : k < r.length := by simpa using h
      simp only [List.take_succ_cons, List.getElem_cons_succ, Lib.join_cons, Nat.zero_lt_succ, if_true]
      rw [Lib.joinTail_take_succ _ _ _ _ (List.getElem?_eq_getElem hk)]
      simp
theorem namesL_take (l : List ByteArray) (k : Nat) (h : k < l.length) : namesL (l.take (k + 1)) = namesL (l.take k) ++ (if 0 < k then [44, 32] else []) ++ l[k].data.toList := by
  unfold namesL
  rw [List.map_take, List.map_take, join_take _ _ _ (by simpa using h)]
  simp
theorem namesL_le (l : List ByteArray) (k : Nat) (h : k < l.length) : (namesL (l.take (k + 1))).length ≤ (namesL l).length := by
  unfold namesL
  rw [List.map_take]
  cases l with
  | nil => simp at h
  | cons x r =>
    simp only [List.map_cons, List.take_succ_cons, Lib.join_cons, List.length_append]
    have := Lib.joinTail_take_le [44, 32] (r.map (fun s : ByteArray => s.data.toList)) k
    omega

set_option maxRecDepth 100000 in
set_option maxHeartbeats 2000000 in
theorem rNames8 (l : List ByteArray) (v : Value) (n : Nat) (w : World) (hv : IsStrs n w v l) (hl : (namesL l).length ≤ 1000000) :
    Calls Tryd.prog 55 #[v] w fun e w' => e = .returned (.string ⟨(40 :: namesL l ++ [41]).toArray⟩) ∧ w = w' := by
  obtain ⟨p, cap, rfl, _, _, hlm⟩ := hv.open
  unfold maxLen at hlm
  go_enter Tryd.func55, Tryd.ntmps55; (try simp only [List.append_eq, List.cons_append, List.nil_append])
  go_wp2
  go_loop [3, 4] (fun v i => ∃ (k : Nat) (S : ByteArray), k ≤ l.length ∧ i = .int .i64 k ∧ v = .string S ∧ S.data.toList = 40 :: namesL (l.take k)) (fun _ i => l.length - (intOf i).toNat)
  case atStart => exact ⟨0, ⟨#[40]⟩, Nat.zero_le _, rfl, rfl, by simp [namesL, Lib.join_nil]⟩
  case round =>
    obtain ⟨k, S, hk, rfl, rfl, hS⟩ := hrel
    have hsz : S.data.toList.length = S.size := by simp
    rw [hS] at hsz
    by_cases hlt : k < l.length
    · obtain ⟨b, off, rfl, hbn, h1, hs1⟩ := hv.get hlt
      have h3 := namesL_le l k hlt
      have h4 := namesL_take l k hlt
      have h5 : l[k].data.toList.length = l[k].size := by simp
      rw [h4] at h3
      simp only [List.length_append, List.length_cons] at h3 hsz
      have H4 := Lib.hid h4; clear h4
      have HS := Lib.hid hS; clear hS
      have Hv := Lib.hid hv; clear hv
      generalize l[k] = x at *
      by_cases h0 : 0 < k
      · rw [if_pos h0] at h3 H4
        simp only [List.length_cons, List.length_nil] at h3
        have b1 : ¬ 9223372036854775807 < S.size + 2 := by omega
        have b2 : ¬ 9223372036854775807 < S.size + 2 + x.size := by omega
        clear hsz h3 h5
        go_wp2
        exact ⟨⟨k + 1, _, by omega, by go_num, rfl, by rw [H4.out]; simp [ByteArray.data_append, HS.out]⟩, by simp [intOf]; omega⟩
      · obtain rfl : k = 0 := by omega
        rw [if_neg h0] at h3 H4
        simp only [List.length_nil] at h3
        have b2 : ¬ 9223372036854775807 < S.size + x.size := by omega
        have h1' : w.cell? ⟨b, off, none⟩ = some (.string x) := h1
        clear hsz h3 h5
        go_wp2
        exact ⟨⟨0 + 1, _, by omega, by go_num, rfl, by rw [H4.out]; simp [ByteArray.data_append, HS.out]⟩, by simp [intOf]; omega⟩
    · have hk' : k = l.length := by omega
      subst hk'
      rw [List.take_of_length_le (Nat.le_refl _)] at hS hsz
      simp only [List.length_cons] at hsz
      have HS := Lib.hid hS; clear hS
      have b1 : ¬ 9223372036854775807 < S.size + 1 := by omega
      clear hsz
      go_wp2
      go_ret
      exact ⟨ret_string (by apply ByteArray.ext; apply Array.toList_inj.1; simp [ByteArray.data_append, HS.out]), rfl⟩
end Go.Proofs.YtobelmipjanibaaDoor
