/- ref03.Text. Printed by wip/gen_smr6.py out of wip/smr6.tmpl. -/
import Derived.Test.YtgmdlnobajmjfaaDoorSmR5
import Derived.Test.YtgmdlnobajmjfaaDoorSmR4
import Derived.Test.YtgmdlnobajmjfaaDoorRq1
namespace Go.Proofs.YtgmdlnobajmjfaaDoor
open Go.RowKit
set_option linter.unusedSimpArgs false
set_option linter.unusedVariables false

def TT (l : List Lab) (k : Nat) : ByteArray := ⟨(123 :: Lib.join ((l.take k).map fun x => (partT x).data.toList) [44]).toArray⟩
theorem join_app (sep x : List UInt8) : ∀ (l : List (List UInt8)), l ≠ [] → Lib.join (l ++ [x]) sep = Lib.join l sep ++ sep ++ x
  | [], h => absurd rfl h
  | a :: r, _ => by
    rw [List.cons_append, Lib.join_cons, Lib.join_cons]
    simp [Lib.joinTail]
theorem TT_zero (l : List Lab) : TT l 0 = ⟨#[123]⟩ := rfl
theorem partT_list (x : Lab) : (partT x).data.toList = x.name.data.toList ++ [61] ++ quoteL x.text.data.toList := by
  unfold partT
  simp [ByteArray.data_append]
theorem TT_one {l : List Lab} {x : Lab} (h : l[0]? = some x) : TT l 1 = TT l 0 ++ x.name ++ ⟨#[61]⟩ ++ ⟨(quoteL x.text.data.toList).toArray⟩ := by
  unfold TT
  have e : l.take 1 = [x] := by rw [List.take_add_one, h]; simp
  rw [e]
  apply ByteArray.ext
  simp only [List.map_cons, List.map_nil, Lib.join_one, partT_list, List.take_zero, Lib.join_nil, ByteArray.data_append]
  simp
theorem TT_step {l : List Lab} {k : Nat} {x : Lab} (h : l[k]? = some x) (hk : 0 < k) : TT l (k + 1) = TT l k ++ ⟨#[44]⟩ ++ x.name ++ ⟨#[61]⟩ ++ ⟨(quoteL x.text.data.toList).toArray⟩ := by
  unfold TT
  have e : l.take (k + 1) = l.take k ++ [x] := by rw [List.take_add_one, h]; simp
  have hl := (List.getElem?_eq_some_iff.1 h).1
  rw [e, List.map_append, List.map_cons, List.map_nil, join_app _ _ _ (by
    intro h0
    have := congrArg List.length h0
    rw [List.length_map, List.length_take, List.length_nil] at this
    omega), partT_list]
  apply ByteArray.ext
  simp only [ByteArray.data_append]
  simp
theorem TT_end (l : List Lab) : TT l l.length ++ ⟨#[125]⟩ = textB l := by
  unfold TT textB
  rw [List.take_length]
  apply ByteArray.ext
  simp [ByteArray.data_append]
theorem TT_len {l : List Lab} (h : checkL l = 0) (k : Nat) : (TT l k).size ≤ 2300 := by
  obtain ⟨h8, hm⟩ := checkL_mem h
  have := join_len2 [44] 283 ((l.take k).map fun x => (partT x).data.toList) (fun y hy => by
    obtain ⟨x, hx, rfl⟩ := List.mem_map.1 hy
    have h1 := hm x (List.mem_of_mem_take hx)
    exact part_len (nameB_size h1.1).2 h1.2.2)
  rw [List.length_map] at this
  have h9 : (l.take k).length ≤ 8 := by rw [List.length_take]; omega
  have h2 : (l.take k).length * (283 + [44].length) ≤ 8 * 284 := Nat.mul_le_mul h9 (by simp)
  unfold TT
  rw [mk_size, List.length_cons]
  omega
set_option maxRecDepth 100000 in
set_option maxHeartbeats 8000000 in
theorem rText {l : List Lab} {v : Value} {n : Nat} {W : World} (hn : n ≤ W.heap.size) (h : IsLabs n W v l) :
    Calls Tryd.prog 43 #[v] W fun e w' => e = .returned (.string (textA l)) ∧ Below W.heap.size W w' := by
  obtain ⟨p, cap, rfl, _, _, hll⟩ := h.open
  unfold maxLen at hll
  have HC := Lib.hid (rCheck3 hn h)
  have H := Lib.hid h; have HN := Lib.hid hn
  clear h hn
  by_cases hck : checkL l = 0
  · have HE := Lib.hid (show textA l = textB l from if_pos hck)
    have HCK := Lib.hid hck
    rw [hck] at HC
    clear hck
    obtain ⟨N, hN⟩ : ∃ z, l.length = z := ⟨_, rfl⟩
    rw [hN] at H HC hll ⊢
    have HNL := Lib.hid hN
    clear hN
    have hN2 : (N : Int) ≤ 9223372036854775807 := by omega
    go_enter Tryd.func43, Tryd.ntmps43; (try simp only [List.append_eq, List.cons_append, List.nil_append])
    go_wp2_with (refine HC.out.mono ?_; rintro e w1 hq; obtain ⟨rfl, hb⟩ := hq.below; have HB1 := Lib.hid hb; clear hb hq)
    go_loopw [3, 4] (fun s i wr => ∃ k : Nat, k ≤ N ∧ i = .int .i64 k ∧ s = .string (TT l k) ∧ Below W.heap.size W wr) (fun _ i _ => N - (intOf i).toNat)
    case atStart => exact ⟨0, Nat.zero_le _, rfl, rfl, HB1.out⟩
    case round =>
      obtain ⟨k, hk, rfl, rfl, hb⟩ := hrel
      have HBW := Lib.hid hb
      have hT := TT_len HCK.out k
      clear hb
      obtain ⟨T, hTT⟩ : ∃ z, TT l k = z := ⟨_, rfl⟩
      have HT := Lib.hid hTT
      rw [hTT] at hT ⊢
      clear hTT
      have e1 : (⟨#[44]⟩ : ByteArray).size = 1 := rfl
      have e2 : (⟨#[61]⟩ : ByteArray).size = 1 := rfl
      have e3 : (⟨#[125]⟩ : ByteArray).size = 1 := rfl
      by_cases hlt : k < N
      · have hki : (k : Int) < (N : Int) := by omega
        obtain ⟨X, hX⟩ : ∃ z, z = wr := ⟨_, rfl⟩
        subst hX
        obtain ⟨b1, o1, rfl, hb1, d0, d1, -, -⟩ := (H.out.mono (HBW.out.mono HN.out) (Nat.le_trans HN.out HBW.out.size)).get (k := k) (by have := HNL.out; omega)
        have hxm := (checkL_mem HCK.out).2 _ (List.getElem_mem (show k < l.length from by have := HNL.out; omega))
        have hx1 := (nameB_size hxm.1).2
        have hx2 := hxm.2.2
        have HR := Lib.hid (List.getElem?_eq_getElem (show k < l.length from by have := HNL.out; omega))
        generalize l[k]'(by have := HNL.out; omega) = x at *
        clear hxm
        obtain ⟨Q, hQ⟩ : ∃ z : ByteArray, ⟨(quoteL x.text.data.toList).toArray⟩ = z := ⟨_, rfl⟩
        have hql : Q.size ≤ 300 := by
          rw [← hQ, mk_size]
          have h1 := quoteL_length x.text.data.toList
          have h2 : x.text.data.toList.length = x.text.size := by simp
          omega
        have HQ := Lib.hid hQ
        clear hQ
        rcases Nat.eq_zero_or_pos k with hk0 | hk0
        · have HST := Lib.hid (show TT l (k + 1) = T ++ x.name ++ ⟨#[61]⟩ ++ Q from by have h := HR.out; have h2 := HT.out; subst hk0; rw [TT_one h, h2, HQ.out])
          have hp : ¬ ((0 : Int) < (k : Int)) := by omega
          clear hk0
          go_upto_region 9 with fail
          refine wp_region_held_drew (S := fun w => Below X.heap.size X w) (by kernel_rfl) (Below.drew (Below.refl _ _)) (fun hHeld => ?_)
          have HS := Lib.hid (Below.drew (Below.refl X.heap.size X))
          try clear hHeld
          have hSS := HS.out
          obtain ⟨X2, hX2⟩ : ∃ z, X.drew = z := ⟨_, rfl⟩
          rw [hX2] at HS hSS ⊢
          clear hX2
          (refine held_take 0 18 ?_ rfl (by kernel_rfl) (by kernel_rfl) (by kernel_rfl) (by kernel_rfl) (fun _ _ _ h => h) (by kernel_rfl) ?_ (by assumption) ?_; rotate_left; (intro w hSw; clear hSw; go_simp); (try with_reducible rfl); simp only [List.set_cons_zero, List.set_cons_succ])
          (refine held_take 1 19 ?_ rfl (by kernel_rfl) (by kernel_rfl) (by kernel_rfl) (by kernel_rfl) (fun _ _ _ h => h) (by kernel_rfl) ?_ (by assumption) ?_; rotate_left; (intro w hSw; clear hSw; go_simp); (try with_reducible rfl); simp only [List.set_cons_zero, List.set_cons_succ])
          (refine held_take 2 20 ?_ rfl (by kernel_rfl) (by kernel_rfl) (by kernel_rfl) (by kernel_rfl) (fun _ _ _ h => h) (by kernel_rfl) ?_ (by assumption) ?_; rotate_left; (intro w hSw; clear hSw; go_simp); (try with_reducible rfl); simp only [List.set_cons_zero, List.set_cons_succ])
          (refine held_take 3 21 (.pointer (some ⟨b1, o1 + k * 2, none⟩)) rfl rfl (by kernel_rfl) (by kernel_rfl) (by kernel_rfl) (fun _ _ _ h => h) (by kernel_rfl) ?_ (by assumption) ?_; (intro w hSw; clear hSw; go_simp); simp only [List.set_cons_zero, List.set_cons_succ])
          (refine held_take 4 22 (.pointer (some ⟨b1, o1 + k * 2, none⟩)) rfl rfl (by kernel_rfl) (by kernel_rfl) (by kernel_rfl) (fun _ _ _ h => h) (by kernel_rfl) ?_ (by assumption) ?_; (intro w hSw; clear hSw; first | rfl | go_simp); simp only [List.set_cons_zero, List.set_cons_succ])
          (refine held_take 5 23 (.string x.name) rfl rfl (by kernel_rfl) (by kernel_rfl) (by kernel_rfl) (fun _ _ _ h => h) (by kernel_rfl) ?_ (by assumption) ?_; (intro w hSw; have f_d0 := (hSw.cell (p := ⟨b1, o1 + k * 2, none⟩) hb1).trans d0; clear hSw; go_simp); simp only [List.set_cons_zero, List.set_cons_succ])
          (refine held_take 6 24 (.string (T ++ x.name)) rfl rfl (by kernel_rfl) (by kernel_rfl) (by kernel_rfl) (fun _ _ _ h => h) (by kernel_rfl) ?_ (by assumption) ?_; (intro w hSw; clear hSw; go_simp; omega); simp only [List.set_cons_zero, List.set_cons_succ])
          (refine held_take 7 25 (.string (T ++ x.name ++ ⟨#[61]⟩)) rfl rfl (by kernel_rfl) (by kernel_rfl) (by kernel_rfl) (fun _ _ _ h => h) (by kernel_rfl) ?_ (by assumption) ?_; (intro w hSw; clear hSw; go_simp; omega); simp only [List.set_cons_zero, List.set_cons_succ])
          (refine held_take 8 26 ?_ rfl (by kernel_rfl) (by kernel_rfl) (by kernel_rfl) (by kernel_rfl) (fun _ _ _ h => h) (by kernel_rfl) ?_ (by assumption) ?_; rotate_left; (intro w hSw; clear hSw; go_simp); (try with_reducible rfl); simp only [List.set_cons_zero, List.set_cons_succ])
          (refine held_take 9 27 ?_ rfl (by kernel_rfl) (by kernel_rfl) (by kernel_rfl) (by kernel_rfl) (fun _ _ _ h => h) (by kernel_rfl) ?_ (by assumption) ?_; rotate_left; (intro w hSw; clear hSw; go_simp); (try with_reducible rfl); simp only [List.set_cons_zero, List.set_cons_succ])
          (refine held_take 10 28 (.pointer (some ⟨b1, o1 + k * 2, none⟩)) rfl rfl (by kernel_rfl) (by kernel_rfl) (by kernel_rfl) (fun _ _ _ h => h) (by kernel_rfl) ?_ (by assumption) ?_; (intro w hSw; clear hSw; go_simp); simp only [List.set_cons_zero, List.set_cons_succ])
          (refine held_take 11 29 (.pointer (some ⟨b1, o1 + k * 2 + 1, none⟩)) rfl rfl (by kernel_rfl) (by kernel_rfl) (by kernel_rfl) (fun _ _ _ h => h) (by kernel_rfl) ?_ (by assumption) ?_; (intro w hSw; clear hSw; first | rfl | go_simp); simp only [List.set_cons_zero, List.set_cons_succ])
          (refine held_take 12 30 (.string x.text) rfl rfl (by kernel_rfl) (by kernel_rfl) (by kernel_rfl) (fun _ _ _ h => h) (by kernel_rfl) ?_ (by assumption) ?_; (intro w hSw; have f_d1 := (hSw.cell (p := ⟨b1, o1 + k * 2 + 1, none⟩) hb1).trans d1; clear hSw; go_simp); simp only [List.set_cons_zero, List.set_cons_succ])
          refine wpAnyH_ready (rs := [13]) (by kernel_rfl) (by simp) (.cons rfl (fun K hK => ?_) .nil)
          rw [if_pos (by kernel_rfl)]
          go_simp
          refine (rQuote3 x.text _ (by omega)).mono ?_
          rintro e w9 ⟨rfl, hb9⟩
          rw [HQ.out]
          have HS := Lib.hid (HS.out.trans (hb9.mono HS.out.size))
          clear hb9
          have hSS := HS.out
          refine hK.out _ _ HS.out (fun hHeld => ?_)
          clear hK K
          (try simp only [Act.put, List.setIfInBounds_toArray, List.set_cons_zero, List.set_cons_succ])
          (refine held_take 14 32 (.string (T ++ x.name ++ ⟨#[61]⟩ ++ Q)) rfl rfl (by kernel_rfl) (by kernel_rfl) (by kernel_rfl) (fun _ _ _ h => h) (by kernel_rfl) ?_ (by assumption) ?_; (intro w hSw; clear hSw; go_simp; omega); simp only [List.set_cons_zero, List.set_cons_succ])
          (refine held_take 15 3 ?_ rfl (by kernel_rfl) (by kernel_rfl) (by kernel_rfl) (by kernel_rfl) (fun _ _ _ h => h) (by kernel_rfl) ?_ (by assumption) ?_; rotate_left; (intro w hSw; clear hSw; go_simp); (try with_reducible rfl); simp only [List.set_cons_zero, List.set_cons_succ])
          refine wpAnyH_done (by kernel_rfl) ?_ _
          go_wp2
          exact ⟨⟨k + 1, by omega, by go_num, by rw [HST.out], HBW.out.trans (HS.out.mono HBW.out.size)⟩, by simp [intOf]; omega⟩
        · have hp : (0 : Int) < (k : Int) := by omega
          have HST := Lib.hid (show TT l (k + 1) = T ++ ⟨#[44]⟩ ++ x.name ++ ⟨#[61]⟩ ++ Q from by rw [TT_step HR.out hk0, HT.out, HQ.out])
          have r1 : ∀ w, (binOp BinOp.add 9 (.string T) (.string ⟨#[44]⟩)).run Tryd.prog w = .ok (.string (T ++ ⟨#[44]⟩)) w := fun w => concat_run _ _ w (by rw [e1]; omega)
          go_upto_region 9 with fail
          clear r1
          have hT : (T ++ ⟨#[44]⟩).size ≤ 2400 := by rw [ByteArray.size_append]; omega
          obtain ⟨U, hU⟩ : ∃ z, T ++ ⟨#[44]⟩ = z := ⟨_, rfl⟩
          rw [hU] at HST hT ⊢
          clear hU HT
          refine wp_region_held_drew (S := fun w => Below X.heap.size X w) (by kernel_rfl) (Below.drew (Below.refl _ _)) (fun hHeld => ?_)
          have HS := Lib.hid (Below.drew (Below.refl X.heap.size X))
          try clear hHeld
          have hSS := HS.out
          obtain ⟨X2, hX2⟩ : ∃ z, X.drew = z := ⟨_, rfl⟩
          rw [hX2] at HS hSS ⊢
          clear hX2
          (refine held_take 0 18 ?_ rfl (by kernel_rfl) (by kernel_rfl) (by kernel_rfl) (by kernel_rfl) (fun _ _ _ h => h) (by kernel_rfl) ?_ (by assumption) ?_; rotate_left; (intro w hSw; clear hSw; go_simp); (try with_reducible rfl); simp only [List.set_cons_zero, List.set_cons_succ])
          (refine held_take 1 19 ?_ rfl (by kernel_rfl) (by kernel_rfl) (by kernel_rfl) (by kernel_rfl) (fun _ _ _ h => h) (by kernel_rfl) ?_ (by assumption) ?_; rotate_left; (intro w hSw; clear hSw; go_simp); (try with_reducible rfl); simp only [List.set_cons_zero, List.set_cons_succ])
          (refine held_take 2 20 ?_ rfl (by kernel_rfl) (by kernel_rfl) (by kernel_rfl) (by kernel_rfl) (fun _ _ _ h => h) (by kernel_rfl) ?_ (by assumption) ?_; rotate_left; (intro w hSw; clear hSw; go_simp); (try with_reducible rfl); simp only [List.set_cons_zero, List.set_cons_succ])
          (refine held_take 3 21 (.pointer (some ⟨b1, o1 + k * 2, none⟩)) rfl rfl (by kernel_rfl) (by kernel_rfl) (by kernel_rfl) (fun _ _ _ h => h) (by kernel_rfl) ?_ (by assumption) ?_; (intro w hSw; clear hSw; go_simp); simp only [List.set_cons_zero, List.set_cons_succ])
          (refine held_take 4 22 (.pointer (some ⟨b1, o1 + k * 2, none⟩)) rfl rfl (by kernel_rfl) (by kernel_rfl) (by kernel_rfl) (fun _ _ _ h => h) (by kernel_rfl) ?_ (by assumption) ?_; (intro w hSw; clear hSw; first | rfl | go_simp); simp only [List.set_cons_zero, List.set_cons_succ])
          (refine held_take 5 23 (.string x.name) rfl rfl (by kernel_rfl) (by kernel_rfl) (by kernel_rfl) (fun _ _ _ h => h) (by kernel_rfl) ?_ (by assumption) ?_; (intro w hSw; have f_d0 := (hSw.cell (p := ⟨b1, o1 + k * 2, none⟩) hb1).trans d0; clear hSw; go_simp); simp only [List.set_cons_zero, List.set_cons_succ])
          (refine held_take 6 24 (.string (U ++ x.name)) rfl rfl (by kernel_rfl) (by kernel_rfl) (by kernel_rfl) (fun _ _ _ h => h) (by kernel_rfl) ?_ (by assumption) ?_; (intro w hSw; clear hSw; go_simp; omega); simp only [List.set_cons_zero, List.set_cons_succ])
          (refine held_take 7 25 (.string (U ++ x.name ++ ⟨#[61]⟩)) rfl rfl (by kernel_rfl) (by kernel_rfl) (by kernel_rfl) (fun _ _ _ h => h) (by kernel_rfl) ?_ (by assumption) ?_; (intro w hSw; clear hSw; go_simp; omega); simp only [List.set_cons_zero, List.set_cons_succ])
          (refine held_take 8 26 ?_ rfl (by kernel_rfl) (by kernel_rfl) (by kernel_rfl) (by kernel_rfl) (fun _ _ _ h => h) (by kernel_rfl) ?_ (by assumption) ?_; rotate_left; (intro w hSw; clear hSw; go_simp); (try with_reducible rfl); simp only [List.set_cons_zero, List.set_cons_succ])
          (refine held_take 9 27 ?_ rfl (by kernel_rfl) (by kernel_rfl) (by kernel_rfl) (by kernel_rfl) (fun _ _ _ h => h) (by kernel_rfl) ?_ (by assumption) ?_; rotate_left; (intro w hSw; clear hSw; go_simp); (try with_reducible rfl); simp only [List.set_cons_zero, List.set_cons_succ])
          (refine held_take 10 28 (.pointer (some ⟨b1, o1 + k * 2, none⟩)) rfl rfl (by kernel_rfl) (by kernel_rfl) (by kernel_rfl) (fun _ _ _ h => h) (by kernel_rfl) ?_ (by assumption) ?_; (intro w hSw; clear hSw; go_simp); simp only [List.set_cons_zero, List.set_cons_succ])
          (refine held_take 11 29 (.pointer (some ⟨b1, o1 + k * 2 + 1, none⟩)) rfl rfl (by kernel_rfl) (by kernel_rfl) (by kernel_rfl) (fun _ _ _ h => h) (by kernel_rfl) ?_ (by assumption) ?_; (intro w hSw; clear hSw; first | rfl | go_simp); simp only [List.set_cons_zero, List.set_cons_succ])
          (refine held_take 12 30 (.string x.text) rfl rfl (by kernel_rfl) (by kernel_rfl) (by kernel_rfl) (fun _ _ _ h => h) (by kernel_rfl) ?_ (by assumption) ?_; (intro w hSw; have f_d1 := (hSw.cell (p := ⟨b1, o1 + k * 2 + 1, none⟩) hb1).trans d1; clear hSw; go_simp); simp only [List.set_cons_zero, List.set_cons_succ])
          refine wpAnyH_ready (rs := [13]) (by kernel_rfl) (by simp) (.cons rfl (fun K hK => ?_) .nil)
          rw [if_pos (by kernel_rfl)]
          go_simp
          refine (rQuote3 x.text _ (by omega)).mono ?_
          rintro e w9 ⟨rfl, hb9⟩
          rw [HQ.out]
          have HS := Lib.hid (HS.out.trans (hb9.mono HS.out.size))
          clear hb9
          have hSS := HS.out
          refine hK.out _ _ HS.out (fun hHeld => ?_)
          clear hK K
          (try simp only [Act.put, List.setIfInBounds_toArray, List.set_cons_zero, List.set_cons_succ])
          (refine held_take 14 32 (.string (U ++ x.name ++ ⟨#[61]⟩ ++ Q)) rfl rfl (by kernel_rfl) (by kernel_rfl) (by kernel_rfl) (fun _ _ _ h => h) (by kernel_rfl) ?_ (by assumption) ?_; (intro w hSw; clear hSw; go_simp; omega); simp only [List.set_cons_zero, List.set_cons_succ])
          (refine held_take 15 3 ?_ rfl (by kernel_rfl) (by kernel_rfl) (by kernel_rfl) (by kernel_rfl) (fun _ _ _ h => h) (by kernel_rfl) ?_ (by assumption) ?_; rotate_left; (intro w hSw; clear hSw; go_simp); (try with_reducible rfl); simp only [List.set_cons_zero, List.set_cons_succ])
          refine wpAnyH_done (by kernel_rfl) ?_ _
          go_wp2
          exact ⟨⟨k + 1, by omega, by go_num, by rw [HST.out], HBW.out.trans (HS.out.mono HBW.out.size)⟩, by simp [intOf]; omega⟩
      · have hkN : k = N := by omega
        subst hkN
        have hki : ¬ ((k : Int) < (k : Int)) := by omega
        have HF := Lib.hid (show T ++ ⟨#[125]⟩ = textA l from by rw [HE.out, ← TT_end, HNL.out, HT.out])
        have r1 : ∀ w, (binOp BinOp.add 9 (.string T) (.string ⟨#[125]⟩)).run Tryd.prog w = .ok (.string (T ++ ⟨#[125]⟩)) w := fun w => concat_run _ _ w (by rw [e3]; omega)
        go_wp2
        go_ret
        exact ⟨by rw [HF.out]; rfl, HBW.out⟩
  · have HE := Lib.hid (show textA l = ⟨#[]⟩ from if_neg hck)
    obtain ⟨c, hc⟩ : ∃ z, checkL l = z := ⟨_, rfl⟩
    rw [hc] at HC hck
    have hx : (c != 0) = true := by simp [hck]
    clear hc hck
    go_enter Tryd.func43, Tryd.ntmps43; (try simp only [List.append_eq, List.cons_append, List.nil_append])
    go_wp2_with (refine HC.out.mono ?_; rintro e w1 hq; obtain ⟨rfl, hb⟩ := hq.below; have HB1 := Lib.hid hb; clear hb hq)
    go_ret
    exact ⟨by rw [HE.out]; rfl, HB1.out⟩
end Go.Proofs.YtgmdlnobajmjfaaDoor
