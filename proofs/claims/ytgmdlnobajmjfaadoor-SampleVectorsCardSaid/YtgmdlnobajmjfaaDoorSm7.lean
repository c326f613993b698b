/- slices.Clone, slices.ContainsFunc, slices.SortFunc at results; sample.Sort. -/
import Derived.Test.YtgmdlnobajmjfaaDoorSmW
import Derived.Test.YtgmdlnobajmjfaaDoorSm3
import Derived.Test.YtgmdlnobajmjfaaDoorApp
import Derived.Test.YtgmdlnobajmjfaaDoorSf
import Derived.Shelf.SlSortCmp.NoneTotal
namespace Go.Proofs.YtgmdlnobajmjfaaDoor
open Go.RowKit
set_option linter.unusedSimpArgs false
set_option linter.unusedVariables false

theorem infoRes : (Tryd.prog.info? 39).map (fun i => (i.zero, i.size, i.bytes)) = some (some (.agg #[.slice none 0 0, .int .i64 0, .bool false]), 3, 40) := by kernel_rfl
theorem rows_flat {rows : List (List Value)} (h : ∀ r ∈ rows, r.length = 3) : rows.flatten.length = rows.length * 3 := by
  induction rows with
  | nil => rfl
  | cons r rows ih => rw [List.flatten_cons, List.length_append, ih (fun x hx => h x (by simp [hx])), h r (by simp), List.length_cons]; omega
theorem row_len {n : Nat} {w : World} {r : Rs} {cs : List Value} (h : RsRow n w r cs) : cs.length = 3 := by
  obtain ⟨p, c, rfl, -, -⟩ := h
  rfl
theorem row_one {n : Nat} {w : World} {r : Rs} {cs : List Value} (h : RsRow n w r cs) : ∀ u ∈ cs, u.oneCell' = true := by
  obtain ⟨p, c, rfl, -, -⟩ := h
  intro u hu
  simp at hu
  rcases hu with rfl | rfl | rfl <;> rfl
/-- Rows of results in a block of the call's own; what they hang on lies below n. -/
def OwnRs (n : Nat) (w0 : World) (base : Nat) (w : World) (v : Value) (l : List Rs) : Prop :=
  ∃ rows : List (List Value), rows.length = l.length ∧ (∀ (k : Nat) (row : List Value) (r : Rs), rows[k]? = some row → l[k]? = some r → RsRow n w0 r row) ∧ w.ownsRow base 39 3 v l.length rows.flatten
set_option maxRecDepth 100000 in
set_option maxHeartbeats 1000000 in
theorem cloneR {l : List Rs} {v : Value} {n : Nat} {w : World} (hn : n ≤ w.heap.size) (ha : IsRes n w v l) (hl : l.length ≤ 1000000) :
    Calls Tryd.prog 24 #[v] w fun e' w' => ∃ v', e' = .returned v' ∧ OwnRs n w w.heap.size w' v' l ∧ Below w.heap.size w w' := by
  obtain ⟨i0, hi, hz0, hz1, hz2⟩ := info_parts infoRes
  obtain ⟨rows, hA, hlr, hrow⟩ := ha
  have hmem : ∀ r ∈ rows, ∃ x, RsRow n w x r := fun r hr => by
    obtain ⟨k, hk, rfl⟩ := List.getElem_of_mem hr
    exact ⟨l[k]'(by omega), hrow k _ _ (by simp) (by simp)⟩
  have h3 : ∀ r ∈ rows, r.length = 3 := fun r hr => row_len (hmem r hr).choose_spec
  have h1 : ∀ u ∈ rows.flatten, u.oneCell' = true := fun u hu => by
    obtain ⟨r, hr, hu⟩ := List.mem_flatten.1 hu
    exact row_one (hmem r hr).choose_spec u hu
  obtain ⟨p, cap, hv, hc1, hc2, hc3⟩ := id hA
  subst hv
  have HR := Lib.hid hrow; have HA := Lib.hid hA; have H1 := Lib.hid h1
  clear hrow hmem h1
  cases p with
  | none =>
    have hz : rows = [] := by
      cases rows with
      | nil => rfl
      | cons r rows =>
        obtain ⟨b, off, hp, _⟩ := hc3 (by simp)
        cases hp
    subst hz
    have hl0 : l = [] := List.eq_nil_of_length_eq_zero (by rw [← hlr]; rfl)
    subst hl0
    clear hc3 h3 hA HA
    have hnil : ∀ w, (binOp .eql 22 (.slice none 0 cap) (.slice none 0 0)).run Tryd.prog w = .ok (.bool true) w := fun w => Lib.run_eql_slice_nil (P := Tryd.prog) w 22 _ none 0 cap 0 0 Tryd.underlying22
    simp only [List.length_nil]
    go_enter Tryd.func24, Tryd.ntmps24; (try simp only [List.append_eq, List.cons_append, List.nil_append])
    go_wp2
    go_ret
    exact ⟨_, rfl, ⟨[], rfl, HR.out, World.ownsRow_nil _ _ _ _⟩, Below.refl _ _⟩
  | some ad =>
    obtain ⟨N, hN⟩ : ∃ z, rows.length = z := ⟨_, rfl⟩
    have hN9 : N ≤ 1000000 := by omega
    have hs0 := Src.of_arr (rows := rows) (c := cap) (p := some ad) (n := w.heap.size + 1) (w := w.alloc (.cells #[] 39)) (Arr.mono hA ((Below.refl _ _).alloc hn _) (by omega)) h3 (by decide) (by simp)
    rw [hN] at hs0 ⊢
    have HS := Lib.hid hs0
    have HNL := Lib.hid (show l.length = N by omega)
    have hnil : ∀ w, (binOp .eql 22 (.slice (some ad) N cap) (.slice none 0 0)).run Tryd.prog w = .ok (.bool false) w := fun w => Lib.run_eql_slice_nil (P := Tryd.prog) w 22 _ (some ad) N cap 0 0 Tryd.underlying22
    have HLR := Lib.hid hlr
    clear hs0 hc3 h3 hA HA hN hlr hc1 hl
    go_enter Tryd.func24, Tryd.ntmps24; (try simp only [List.append_eq, List.cons_append, List.nil_append])
    go_wp2_with (at_builtin; refine wpList_append_src _ rfl _ _ _ rfl w.heap.size 39 i0 _ 3 40 Tryd.underlying22 hi hz0 hz1 hz2 rfl (by decide) (.slice (some ⟨w.heap.size, 0, none⟩) 0 0) 0 [] rfl ⟨rfl, .inr ⟨_, 0, #[], rfl, Nat.le_refl _, World.alloc_heap_new w _, Nat.le_refl _, Nat.zero_le _, rfl, rfl⟩⟩ _ N rows.flatten rfl HS.out H1.out (by unfold maxLen; omega) (by omega) (by simp) ?_; intro v3 w3 hown3 hgr3 _)
    go_ret
    refine ⟨_, rfl, ⟨rows, HLR.out, HR.out, ?_⟩, ((Below.refl _ _).alloc (Nat.le_refl _) _).grown hgr3 (by simp) (by simp [Value.ownBlock])⟩
    rw [HNL.out]
    simpa using hown3
set_option maxHeartbeats 1000000 in
theorem notRight {r : Rs} {p : Option Addr} {c n : Nat} {W : World} (hn : n ≤ W.heap.size) (h1 : IsLabs n W (.slice p r.labs.length c) r.labs) :
    Calls Tryd.prog 22 #[.agg #[.slice p r.labs.length c, .int .i64 r.n, .bool r.over]] W fun e w' => e = .returned (.bool (!rightR r)) ∧ Below W.heap.size W w' := by
  have HN := Lib.hid hn
  have HC := Lib.hid (fun (X : World) (hx : Below W.heap.size W X) => sRight (r := r) (p := p) (c := c) (n := n) (W := X) (Nat.le_trans hn hx.size) (h1.mono (hx.mono hn) (Nat.le_refl _)))
  clear h1 hn
  obtain ⟨rb, hrb⟩ : ∃ z, rightR r = z := ⟨_, rfl⟩
  rw [hrb] at HC ⊢
  clear hrb
  obtain ⟨l1, x1, y1⟩ := r
  simp only at HC ⊢
  obtain ⟨m1, hm1⟩ : ∃ z, l1.length = z := ⟨_, rfl⟩
  rw [hm1] at HC ⊢
  clear hm1
  go_enter Tryd.func22, Tryd.ntmps22; (try simp only [List.append_eq, List.cons_append, List.nil_append])
  go_upto_region 1 with fail
  have hb0 := (Below.refl W.heap.size W).alloc (Nat.le_refl _) (.cells #[.slice p m1 c, .int .i64 x1, .bool y1] 39)
  have hk := Blk.new W [.slice p m1 c, .int .i64 x1, .bool y1] 39
  have HCX := Lib.hid (HC.out _ hb0)
  obtain ⟨g, hg⟩ : ∃ z, W.heap.size = z := ⟨_, rfl⟩
  obtain ⟨X, hX⟩ : ∃ z, W.alloc (.cells #[.slice p m1 c, .int .i64 x1, .bool y1] 39) = z := ⟨_, rfl⟩
  rw [show W.alloc (.cells ([.slice p m1 c, .int .i64 x1, .bool y1] : List Value).toArray 39) = X from hX] at hk
  rw [hX] at hb0 HCX ⊢
  have HB0 := Lib.hid hb0
  rw [hg] at hk ⊢
  clear hX hb0 HC
  have HG := Lib.hid hg
  clear hg
  have e0 := hk.cell 0 _ rfl; have e1 := hk.cell 1 _ rfl; have e2 := hk.cell 2 _ rfl
  have hgx := hk.lt
  clear hk
  go_wp2_with fail
  refine HCX.out.mono ?_
  rintro e w1 ⟨rfl, hb1⟩
  have HB1 := Lib.hid (HB0.out.trans (hb1.mono HB0.out.size))
  clear hb1 e0 e1 e2 hgx HCX
  go_wp2
  go_ret
  exact ⟨rfl, HB1.out⟩
def anyBad (l : List Rs) : Bool := l.any fun r => !rightR r
def IdxR (l : List Rs) (W : World) (e : Ending) (w' : World) : Prop := ∃ i : Int, e = .returned (.int .i64 i) ∧ (0 ≤ i ↔ anyBad l = true) ∧ Below W.heap.size W w'
set_option maxRecDepth 100000 in
set_option maxHeartbeats 4000000 in
theorem idxBad {l : List Rs} {v : Value} {n : Nat} {W : World} (hn : n ≤ W.heap.size) (ha : IsRes n W v l) :
    Calls Tryd.prog 46 #[v, .func (.func 22) #[] #[]] W (IdxR l W) := by
  obtain ⟨p, cap, rfl, hc1, hc2⟩ := ha.open
  unfold maxLen at hc2
  have HA := Lib.hid ha; have HN := Lib.hid hn
  clear ha hn
  obtain ⟨N, hN⟩ : ∃ z, l.length = z := ⟨_, rfl⟩
  rw [hN] at HA hc1 ⊢
  have HNL := Lib.hid hN
  have hN2 : (N : Int) ≤ 9223372036854775807 := by omega
  clear hN
  go_enter Tryd.func46, Tryd.ntmps46; (try simp only [List.append_eq, List.cons_append, List.nil_append])
  go_wp2
  go_loopw [8] (fun j wr => ∃ k : Nat, k ≤ N ∧ j = .int .i64 k ∧ (∀ i r, l[i]? = some r → i < k → rightR r = true) ∧ Below W.heap.size W wr) (fun j _ => N - (intOf j).toNat)
  case atStart => exact ⟨0, Nat.zero_le _, rfl, fun i r _ h => by omega, Below.refl _ _⟩
  case round =>
    obtain ⟨k, hk, rfl, hall, hb⟩ := hrel
    have HALL := Lib.hid hall; have HB := Lib.hid hb
    have hsz := hb.size
    clear hall hb
    by_cases hlt : k < N
    · have hki : (k : Int) < (N : Int) := by omega
      obtain ⟨r, hr⟩ : ∃ r, l[k]? = some r := ⟨_, List.getElem?_eq_getElem (by have := HNL.out; omega)⟩
      obtain ⟨b1, o1, q1, c1, rfl, hb1, d0, d1, d2, hl1, -⟩ := (HA.out.mono (HB.out.mono HN.out) (Nat.le_refl _)).get hr
      have HR := Lib.hid hr
      have HC := Lib.hid (notRight (r := r) (p := q1) (c := c1) (n := n) (W := wr) (Nat.le_trans HN.out hsz) hl1)
      clear hr hl1
      obtain ⟨rb, hrb⟩ : ∃ z, rightR r = z := ⟨_, rfl⟩
      have HRB := Lib.hid hrb
      rw [hrb] at HC
      clear hrb
      obtain ⟨l1, x1, y1⟩ := r
      simp only at d0 d1 d2 HC
      have hb1w : b1 < wr.heap.size := by have := HN.out; omega
      go_wp2_with fail
      refine HC.out.mono ?_
      rintro e w1 ⟨rfl, hb2⟩
      have HB2 := Lib.hid (HB.out.trans (hb2.mono hsz))
      clear hb2 d0 d1 d2 hb1w HC
      cases rb with
      | false =>
        go_wp2
        go_ret
        exact ⟨_, rfl, ⟨fun _ => List.any_eq_true.2 ⟨_, List.mem_of_getElem? HR.out, by rw [HRB.out]; rfl⟩, fun _ => by omega⟩, HB2.out⟩
      | true =>
        go_wp2
        refine ⟨⟨k + 1, by omega, by go_num, fun i s hs hi => ?_, HB2.out⟩, by simp [intOf]; omega⟩
        rcases Nat.lt_or_ge i k with h | h
        · exact HALL.out i s hs h
        · have : i = k := by omega
          subst this
          rw [HR.out] at hs; cases hs
          exact HRB.out
    · have hki : ¬ ((k : Int) < (N : Int)) := by omega
      have HE := Lib.hid (show anyBad l = false from by
        unfold anyBad
        rw [List.any_eq_false]
        intro x hx
        obtain ⟨i, hi, rfl⟩ := List.getElem_of_mem hx
        rw [HALL.out i l[i] (List.getElem?_eq_getElem hi) (by have := HNL.out; omega)]
        simp)
      go_wp2
      go_ret
      exact ⟨_, rfl, ⟨fun h => by omega, fun h => by rw [HE.out] at h; cases h⟩, HB.out⟩
theorem hasBad {l : List Rs} {v : Value} {n : Nat} {W : World} (hn : n ≤ W.heap.size) (ha : IsRes n W v l) :
    Calls Tryd.prog 21 #[v, .func (.func 22) #[] #[]] W fun e w' => e = .returned (.bool (anyBad l)) ∧ Below W.heap.size W w' := by
  have HC := Lib.hid (idxBad hn ha)
  clear hn ha
  go_enter Tryd.func21, Tryd.ntmps21; (try simp only [List.append_eq, List.cons_append, List.nil_append])
  go_wp2_with fail
  refine HC.out.mono ?_
  rintro e w1 ⟨i, rfl, hi, hb⟩
  have HB := Lib.hid hb
  by_cases h0 : 0 ≤ i
  · have HE := Lib.hid (hi.1 h0)
    clear hi hb
    go_wp2
    go_ret
    exact ⟨by rw [HE.out]; rfl, HB.out⟩
  · have HE := Lib.hid (show anyBad l = false from by
      cases h : anyBad l with
      | false => rfl
      | true => exact absurd (hi.2 h) h0)
    clear hi hb
    go_wp2
    go_ret
    exact ⟨by rw [HE.out, ← decide_eq_false (show ¬ 0 ≤ i by omega)]; rfl, HB.out⟩
end Go.Proofs.YtgmdlnobajmjfaaDoor
