/- The reference's lexer: Join. -/
import Derived.Test.YtgjeomcflapmpaaDoorLj0
import Derived.Test.YtgjeomcflapmpaaDoorRq0
import Derived.Test.YtgjeomcflapmpaaDoorRq1
namespace Go.Proofs.YtgjeomcflapmpaaDoor
open Go.RowKit
set_option linter.unusedSimpArgs false
set_option linter.unusedVariables false
theorem join_snoc (l : List (List UInt8)) (sep : List UInt8) (k : Nat) (hk : k < l.length) : Lib.join (l.take (k + 1)) sep = Lib.join (l.take k) sep ++ (if 0 < k then sep else []) ++ l[k] := by
  cases l with
  | nil => simp at hk
  | cons x r =>
    cases k with
    | zero => simp [Lib.join_nil, Lib.join_one]
    | succ k =>
      simp only [List.length_cons, Nat.add_lt_add_iff_right] at hk
      rw [List.take_succ_cons, List.take_succ_cons, Lib.join_cons, Lib.join_cons, Lib.joinTail_take_succ _ _ _ _ (List.getElem?_eq_getElem hk)]
      simp
theorem joinToks_snoc (l : List Tok) (k : Nat) (hk : k < l.length) : joinToks (l.take (k + 1)) = joinToks (l.take k) ++ (if 0 < k then [32] else []) ++ tokText l[k] := by
  unfold joinToks
  rw [List.map_take, List.map_take, join_snoc _ _ _ (by simpa using hk)]
  simp

set_option maxRecDepth 100000 in
set_option maxHeartbeats 4000000 in
theorem rJoin (l : List Tok) (v : Value) (n : Nat) (w : World) (hn : n ≤ w.heap.size) (hv : IsToks n w v l) (hok : ∀ t ∈ l, TokOk t) (hl : l.length ≤ 1000000) :
    Calls Tryd.prog 16 #[v] w fun e w' => e = .returned (.string ⟨(joinToks l).toArray⟩) ∧ Below w.heap.size w w' := by
  obtain ⟨p, cap, rfl, _, _, hlm⟩ := hv.open
  unfold maxLen at hlm
  have Hok := Lib.hid hok; clear hok
  go_enter Tryd.func16, Tryd.ntmps16; (try simp only [List.append_eq, List.cons_append, List.nil_append])
  go_wp2_with fail
  go_loopw [3, 4] (fun v i wr => ∃ (k : Nat) (S : ByteArray), k ≤ l.length ∧ i = .int .i64 k ∧ v = .string S ∧ S.data.toList = joinToks (l.take k) ∧ Below w.heap.size w wr) (fun _ i _ => l.length - (intOf i).toNat)
  case atStart => exact ⟨0, ⟨#[]⟩, Nat.zero_le _, rfl, rfl, by simp [joinToks, Lib.join_nil], Below.refl _ _⟩
  case round =>
    obtain ⟨k, S, hk, rfl, rfl, hS, hb⟩ := hrel
    have Hb := Lib.hid hb; clear hb
    have hsz : S.data.toList.length = S.size := by simp
    have hSl := joinToks_len (l := l.take k) (fun t ht => Hok.out t (List.mem_of_mem_take ht))
    rw [← hS, hsz, List.length_take, Nat.min_eq_left hk] at hSl
    have hSz : S.size ≤ 80003000000 := by omega
    clear hsz hSl
    by_cases hlt : k < l.length
    · obtain ⟨b, off, rfl, hbn, g0, g1, g2, g3⟩ := (hv.mono (Hb.out.mono hn) (Nat.le_refl n)).get hlt
      have hst := joinToks_snoc l k hlt
      rw [← hS] at hst
      have hOk := Hok.out _ (List.getElem_mem hlt)
      have Hst := Lib.hid hst
      have Hv := Lib.hid hv; clear hv
      clear hst hS
      generalize l[k] = t at *
      obtain ⟨x, hx⟩ : ∃ x : ByteArray, (⟨(tokText t).toArray⟩ : ByteArray) = x := ⟨_, rfl⟩
      have hxt : tokText t = x.data.toList := by rw [← hx]
      have hxl := tokText_len hOk
      rw [hxt] at hxl
      have hxs : x.size ≤ 80002 := by have : x.data.toList.length = x.size := by simp
                                      omega
      rw [hxt] at Hst
      have hlti : (k : Int) < (l.length : Int) := by omega
      have hkind : (t.kind == 3) = true ∨ ((t.kind == 3) = false ∧ (t.kind == 2) = true) ∨ ((t.kind == 3) = false ∧ (t.kind == 2) = false) := by
        cases (t.kind == 3) <;> cases (t.kind == 2) <;> simp
      have HQ : (t.kind == 3) = true → Hid (∀ X, Calls Tryd.prog 15 #[.string ⟨t.text.toArray⟩] X fun e w' => e = .returned (.string x) ∧ Below X.heap.size X w') := fun h X => by
        have h3 : t.kind = 3 := by simpa using h
        have := rQuote ⟨t.text.toArray⟩ X (by show t.text.length ≤ _; have := hOk.1; omega)
        rw [← hx]; unfold tokText; rw [if_pos h3]; exact this
      have HD : (t.kind == 3) = false → (t.kind == 2) = true → Hid (∀ X, Calls Tryd.prog 35 #[.int .i64 t.num] X fun e w' => e = .returned (.string x) ∧ Below X.heap.size X w') := fun h h' X => by
        have h3 : ¬ t.kind = 3 := by simpa using h
        have h2 : t.kind = 2 := by simpa using h'
        have := rDigits t.num X hOk.2
        rw [← hx]; unfold tokText; rw [if_neg h3, if_pos h2]; exact this
      have HT : (t.kind == 3) = false → (t.kind == 2) = false → (⟨t.text.toArray⟩ : ByteArray) = x := fun h h' => by
        have h3 : ¬ t.kind = 3 := by simpa using h
        have h2 : ¬ t.kind = 2 := by simpa using h'
        rw [← hx]; unfold tokText; rw [if_neg h3, if_neg h2]
      clear hx hxt hxl hOk
      have b1 : ¬ 9223372036854775807 < S.size + 1 := by omega
      have b2 : ¬ 9223372036854775807 < S.size + 1 + x.size := by omega
      have b3 : ¬ 9223372036854775807 < S.size + x.size := by omega
      by_cases h0 : 0 < k
      · rw [if_pos h0] at Hst
        have h0i : (0 : Int) < (k : Int) := by omega
        rcases hkind with h3 | ⟨h3, h2⟩ | ⟨h3, h2⟩
        · have HQ := HQ h3
          clear HD HT
          go_wp2_with (go_at_call 15; refine (HQ.out _).mono ?_; rintro e w2 ⟨rfl, hb2⟩; have HB2 := Lib.hid hb2; clear hb2)
          exact ⟨⟨k + 1, _, by omega, by go_num, rfl, by rw [Hst.out]; simp [ByteArray.data_append], Hb.out.trans (HB2.out.mono Hb.out.size)⟩, by simp [intOf]; omega⟩
        · have HD := HD h3 h2
          clear HQ HT
          go_wp2_with (go_at_call 35; refine (HD.out _).mono ?_; rintro e w2 ⟨rfl, hb2⟩; have HB2 := Lib.hid hb2; clear hb2)
          exact ⟨⟨k + 1, _, by omega, by go_num, rfl, by rw [Hst.out]; simp [ByteArray.data_append], Hb.out.trans (HB2.out.mono Hb.out.size)⟩, by simp [intOf]; omega⟩
        · rw [HT h3 h2] at g1
          clear HQ HD HT
          go_wp2_with fail
          exact ⟨⟨k + 1, _, by omega, by go_num, rfl, by rw [Hst.out]; simp [ByteArray.data_append], Hb.out⟩, by simp [intOf]; omega⟩
      · obtain rfl : k = 0 := by omega
        rw [if_neg h0] at Hst
        have g0' : wr.cell? ⟨b, off, none⟩ = some (.int .i64 t.kind) := by simpa using g0
        rcases hkind with h3 | ⟨h3, h2⟩ | ⟨h3, h2⟩
        · have HQ := HQ h3
          clear HD HT
          go_wp2_with (go_at_call 15; refine (HQ.out _).mono ?_; rintro e w2 ⟨rfl, hb2⟩; have HB2 := Lib.hid hb2; clear hb2)
          exact ⟨⟨0 + 1, _, by omega, by go_num, rfl, by rw [Hst.out]; simp [ByteArray.data_append], Hb.out.trans (HB2.out.mono Hb.out.size)⟩, by simp [intOf]; omega⟩
        · have HD := HD h3 h2
          clear HQ HT
          go_wp2_with (go_at_call 35; refine (HD.out _).mono ?_; rintro e w2 ⟨rfl, hb2⟩; have HB2 := Lib.hid hb2; clear hb2)
          exact ⟨⟨0 + 1, _, by omega, by go_num, rfl, by rw [Hst.out]; simp [ByteArray.data_append], Hb.out.trans (HB2.out.mono Hb.out.size)⟩, by simp [intOf]; omega⟩
        · rw [HT h3 h2] at g1
          clear HQ HD HT
          go_wp2_with fail
          exact ⟨⟨0 + 1, _, by omega, by go_num, rfl, by rw [Hst.out]; simp [ByteArray.data_append], Hb.out⟩, by simp [intOf]; omega⟩
    · have hk' : k = l.length := by omega
      subst hk'
      rw [List.take_of_length_le (Nat.le_refl _)] at hS
      have HS := Lib.hid hS; clear hS
      go_wp2_with fail
      go_ret
      exact ⟨ret_string (by apply ByteArray.ext; apply Array.toList_inj.1; simp [HS.out]), Hb.out⟩
end Go.Proofs.YtgjeomcflapmpaaDoor
