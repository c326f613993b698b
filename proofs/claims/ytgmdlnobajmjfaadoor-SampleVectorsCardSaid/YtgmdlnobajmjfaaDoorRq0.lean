/- The reference's Quote and Digits. -/
import Derived.Test.YtgmdlnobajmjfaaDoorBts
import Derived.Test.YtgmdlnobajmjfaaDoorQt0
import Derived.Lib.ItoaNum
import Derived.Lib.ItoaLen
import Derived.Deep.CutRange
import Derived.Deep.CutBlock
import Derived.IntWalk
namespace Go.Proofs.YtgmdlnobajmjfaaDoor

open Go.RowKit
set_option linter.unusedSimpArgs false
set_option linter.unusedVariables false

theorem hexAt_lo : ∀ n : Fin 16, ((hexAt n.val).toNat : Int) = if n.val < 10 then 48 + (n.val : Int) else 97 + (n.val : Int) - 10 := by decide +kernel
theorem rHex (n : Nat) (hn : n < 16) (w : World) : Calls Tryd.prog 79 #[.int .u8 n] w fun e w' => e = .returned (.int .u8 ((hexAt n).toNat : Int)) ∧ w = w' := by
  have h := hexAt_lo ⟨n, hn⟩
  simp only at h
  have H := Lib.hid h; clear h
  go_enter Tryd.func79, Tryd.ntmps79; (try simp only [List.append_eq, List.cons_append, List.nil_append])
  by_cases h10 : n < 10
  · go_wp2
    go_ret
    exact ⟨ret_int (by rw [H.out, if_pos h10]), rfl⟩
  · go_wp2
    go_ret
    exact ⟨ret_int (by rw [H.out, if_neg h10]), rfl⟩

theorem cells_new (w : World) (xs : List Value) (t : Nat) : ∀ j u, xs[j]? = some u → (w.alloc (.cells xs.toArray t)).cell? ((⟨w.heap.size, 0, none⟩ : Addr).add j) = some u := by
  intro j u hu
  have e : (⟨w.heap.size, 0, none⟩ : Addr).add j = ⟨w.heap.size, j, none⟩ := by unfold Addr.add; by_cases hz : j = 0 <;> simp [hz]
  rw [e, World.cell?_alloc_new]; simpa using hu
theorem ownB_new (w : World) (l : List UInt8) (xs : Array Value) (n : Nat) (hx : xs = (bc l).toArray) (hn : n = l.length) (hm : l.length ≤ maxLen) : OwnB w.heap.size (w.alloc (.cells xs 5)) (.slice (some ⟨w.heap.size, 0, none⟩) n n) l := by
  subst hx hn
  exact ⟨by simp [bc], .inr ⟨w.heap.size, l.length, (bc l).toArray, rfl, Nat.le_refl _, World.alloc_heap_new w _, Nat.le_refl _, hm, by simp [bc], by rw [List.take_of_length_le (by simp [bc])]⟩⟩
theorem ownB_add {base : Nat} {w : World} {v : Value} {q d : List UInt8} {m : Nat} (hm : d.length = m) (h : w.ownsRow base 5 1 v (q.length + m) (bc q ++ bc d)) : OwnB base w v (q ++ d) := by
  subst hm
  unfold OwnB
  rw [List.length_append, show bc (q ++ d) = bc q ++ bc d by simp [bc]]; exact h
theorem quoteL_eq (l : List UInt8) : quoteL l = (34 :: qs l) ++ [34] := rfl

set_option maxRecDepth 100000 in
set_option maxHeartbeats 4000000 in
theorem rQuote3 (s : ByteArray) (w : World) (hs : s.size ≤ 2000000) :
    Calls Tryd.prog 59 #[.string s] w fun e w' => e = .returned (.string ⟨(quoteL s.data.toList).toArray⟩) ∧ Below w.heap.size w w' := by
  obtain ⟨i0, hi, hz0, hz1, hz2⟩ := info_parts infoB
  go_enter Tryd.func59, Tryd.ntmps59; (try simp only [List.append_eq, List.cons_append, List.nil_append])
  go_wp2
  go_loopw [3, 4] (fun v i wr => ∃ k : Nat, k ≤ s.size ∧ i = .int .i64 k ∧ OwnB w.heap.size wr v (34 :: qs (s.data.toList.take k)) ∧ Below w.heap.size w wr) (fun _ i _ => s.size - (intOf i).toNat)
  case atStart => exact ⟨0, Nat.zero_le _, rfl, ownB_new w _ _ 1 rfl (by simp [qs]) (by simp [qs, maxLen]), (Below.refl _ _).alloc (Nat.le_refl _) _⟩
  case round =>
    obtain ⟨k, hk, rfl, hown, hb⟩ := hrel
    have Hb := Lib.hid hb; clear hb
    have hql := qs_length (s.data.toList.take k)
    have hql2 : (s.data.toList.take k).length ≤ k := List.length_take_le _ _
    by_cases hlt : k < s.size
    · have hsn : qs (s.data.toList.take (k + 1)) = qs (s.data.toList.take k) ++ qc s[k] := by rw [take_snoc' s k hlt, qs_snoc]
      have Hsn := Lib.hid hsn; clear hsn
      obtain ⟨q, hq⟩ : ∃ q, 34 :: qs (s.data.toList.take k) = q := ⟨_, rfl⟩
      have hqn : q.length ≤ 8000010 := by rw [← hq, List.length_cons]; omega
      have HQ : Hid (34 :: qs (s.data.toList.take (k + 1)) = q ++ qc s[k]) := by show _ = _; rw [Hsn.out, ← hq]; rfl
      rw [hq] at hown
      obtain ⟨A, cap, rfl⟩ := ownB_slice hown
      have Hown := Lib.hid hown; clear hown
      have HL : ∀ m : Nat, m ≤ 4 → q.length + m ≤ maxLen ∧ (q.length + m) * 1 ≤ 140737488355328 := fun m hm => by unfold maxLen; omega
      clear hq hql hql2 Hsn
      have hb255 : (s[k].toNat : Int) ≤ 255 := by have := s[k].toNat_lt; omega
      by_cases h1 : s[k].toNat = 92 ∨ s[k].toNat = 34
      · rw [qc_two h1] at HQ
        rcases h1 with h1 | h1
        · have a1 : ((s[k].toNat : Int) == 34) = false := by simp; omega
          have a2 : ((s[k].toNat : Int) == 92) = true := by simp; omega
          clear h1
          go_wp2_with (at_builtin; refine wpList_append_own_at _ rfl _ _ 58 rfl w.heap.size 5 i0 _ 1 1 Tryd.underlying58 hi hz0 hz1 hz2 rfl (by decide) _ q.length (bc q) rfl (Hown.out.alloc _) ⟨wr.heap.size, 0, none⟩ 2 2 [.int .u8 92, .int .u8 (s[k].toNat : Int)] rfl rfl (cells_new _ _ _) (by simp [Value.oneCell']) (HL 2 (by omega)).1 (HL 2 (by omega)).2 (Nat.le_trans Hb.out.size (by simp)) ?_; intro v1 w1 hown1 hgr1 _ _)
          refine ⟨⟨k + 1, by omega, by go_num, by rw [HQ.out]; exact ownB_add (m := 2) rfl hown1, below_app (Hb.out.alloc Hb.out.size _) (Hown.out.alloc _) hgr1 (Nat.le_refl _) (Nat.le_trans Hb.out.size (by simp))⟩, by simp [intOf]; omega⟩
        · have a1 : ((s[k].toNat : Int) == 34) = true := by simp; omega
          clear h1
          go_wp2_with (at_builtin; refine wpList_append_own_at _ rfl _ _ 58 rfl w.heap.size 5 i0 _ 1 1 Tryd.underlying58 hi hz0 hz1 hz2 rfl (by decide) _ q.length (bc q) rfl (Hown.out.alloc _) ⟨wr.heap.size, 0, none⟩ 2 2 [.int .u8 92, .int .u8 (s[k].toNat : Int)] rfl rfl (cells_new _ _ _) (by simp [Value.oneCell']) (HL 2 (by omega)).1 (HL 2 (by omega)).2 (Nat.le_trans Hb.out.size (by simp)) ?_; intro v1 w1 hown1 hgr1 _ _)
          refine ⟨⟨k + 1, by omega, by go_num, by rw [HQ.out]; exact ownB_add (m := 2) rfl hown1, below_app (Hb.out.alloc Hb.out.size _) (Hown.out.alloc _) hgr1 (Nat.le_refl _) (Nat.le_trans Hb.out.size (by simp))⟩, by simp [intOf]; omega⟩
      · have b1 : ((s[k].toNat : Int) == 92) = false := by simp; omega
        have b2 : ((s[k].toNat : Int) == 34) = false := by simp; omega
        by_cases h2 : s[k].toNat < 32 ∨ 126 < s[k].toNat
        · rw [qc_four h1 h2] at HQ
          clear h1
          have hlo : s[k].toNat % 16 < 16 := by omega
          have hhi : s[k].toNat / 16 < 16 := by omega
          have e1 : (s[k].toNat : Int) / 16 = ((s[k].toNat / 16 : Nat) : Int) := by omega
          have e2 : (s[k].toNat : Int) % 16 = ((s[k].toNat % 16 : Nat) : Int) := by omega
          have H1 := Lib.hid (rHex (s[k].toNat / 16) hhi)
          have H2 := Lib.hid (rHex (s[k].toNat % 16) hlo)
          have E1 := Lib.hid e1
          have E2 := Lib.hid e2
          have h3 : (s[k].toNat : Int) < 32 ∨ (¬ (s[k].toNat : Int) < 32 ∧ 126 < (s[k].toNat : Int)) := by omega
          clear h2 e1 e2
          rcases h3 with h3 | ⟨h3, h4⟩
          all_goals
            have tk1 : True := trivial
            go_wp2_with (first
              | (go_at_call 79; have _t := tk1; clear tk1; (rw [E1.out]); refine (H1.out _).mono ?_; rintro e w' ⟨rfl, rfl⟩; have tk2 : True := trivial)
              | (go_at_call 79; have _t := tk2; clear tk2; (rw [E2.out]); refine (H2.out _).mono ?_; rintro e w' ⟨rfl, rfl⟩)
              | (at_builtin; refine wpList_append_own_at _ rfl _ _ 58 rfl w.heap.size 5 i0 _ 1 1 Tryd.underlying58 hi hz0 hz1 hz2 rfl (by decide) _ q.length (bc q) rfl (Hown.out.alloc _) ⟨wr.heap.size, 0, none⟩ 4 4 [.int .u8 92, .int .u8 120, .int .u8 ((hexAt (s[k].toNat / 16)).toNat : Int), .int .u8 ((hexAt (s[k].toNat % 16)).toNat : Int)] rfl rfl (cells_new _ _ _) (by simp [Value.oneCell']) (HL 4 (by omega)).1 (HL 4 (by omega)).2 (Nat.le_trans Hb.out.size (by simp)) ?_; intro v1 w1 hown1 hgr1 _ _))
            refine ⟨⟨k + 1, by omega, by go_num, by rw [HQ.out]; exact ownB_add (m := 4) rfl hown1, below_app (Hb.out.alloc Hb.out.size _) (Hown.out.alloc _) hgr1 (Nat.le_refl _) (Nat.le_trans Hb.out.size (by simp))⟩, by simp [intOf]; omega⟩
        · rw [qc_one h1 h2] at HQ
          have h3 : ¬ (s[k].toNat : Int) < 32 := by omega
          have h4 : ¬ 126 < (s[k].toNat : Int) := by omega
          clear h1 h2
          go_wp2_with (at_builtin; refine wpList_append_own_at _ rfl _ _ 58 rfl w.heap.size 5 i0 _ 1 1 Tryd.underlying58 hi hz0 hz1 hz2 rfl (by decide) _ q.length (bc q) rfl (Hown.out.alloc _) ⟨wr.heap.size, 0, none⟩ 1 1 [.int .u8 (s[k].toNat : Int)] rfl rfl (cells_new _ _ _) (by simp [Value.oneCell']) (HL 1 (by omega)).1 (HL 1 (by omega)).2 (Nat.le_trans Hb.out.size (by simp)) ?_; intro v1 w1 hown1 hgr1 _ _)
          refine ⟨⟨k + 1, by omega, by go_num, by rw [HQ.out]; exact ownB_add (m := 1) rfl hown1, below_app (Hb.out.alloc Hb.out.size _) (Hown.out.alloc _) hgr1 (Nat.le_refl _) (Nat.le_trans Hb.out.size (by simp))⟩, by simp [intOf]; omega⟩
    · have hk' : k = s.size := by omega
      subst hk'
      rw [List.take_of_length_le (by simp)] at hown hql
      obtain ⟨q, hq⟩ : ∃ q, 34 :: qs s.data.toList = q := ⟨_, rfl⟩
      have hqn : q.length ≤ 8000010 := by rw [← hq, List.length_cons]; have : s.data.toList.length = s.size := by simp
                                          omega
      have HF : Hid (quoteL s.data.toList = q ++ [34]) := by show _ = _; rw [← hq]; rfl
      rw [hq] at hown
      obtain ⟨A, cap, rfl⟩ := ownB_slice hown
      have Hown := Lib.hid hown; clear hown
      have HL : ∀ m : Nat, m ≤ 4 → q.length + m ≤ maxLen ∧ (q.length + m) * 1 ≤ 140737488355328 := fun m hm => by unfold maxLen; omega
      clear hq hql hql2
      go_wp2_with (at_builtin; refine wpList_append_own_at _ rfl _ _ 58 rfl w.heap.size 5 i0 _ 1 1 Tryd.underlying58 hi hz0 hz1 hz2 rfl (by decide) _ q.length (bc q) rfl (Hown.out.alloc _) ⟨wr.heap.size, 0, none⟩ 1 1 [.int .u8 34] rfl rfl (cells_new _ _ _) (by simp [Value.oneCell']) (HL 1 (by omega)).1 (HL 1 (by omega)).2 (Nat.le_trans Hb.out.size (by simp)) ?_; intro v1 w1 hown1 hgr1 _ _; have hcv := ownB_convert (ownB_add (m := 1) (d := [34]) rfl hown1))
      go_ret
      exact ⟨ret_string (by rw [HF.out]), below_app (Hb.out.alloc Hb.out.size _) (Hown.out.alloc _) hgr1 (Nat.le_refl _) (Nat.le_trans Hb.out.size (by simp))⟩
end Go.Proofs.YtgmdlnobajmjfaaDoor
