/- Where what is kept above a time begins: slices.BinarySearchFunc, subs.above, of whatever was told. -/
import Derived.Test.YtfmolimnnheaoaaGreatK7
import Derived.Test.YtfmolimnnheaoaaGreatK12
import Derived.Test.YtfmolimnnheaoaaGreatK11
import Derived.Test.YtfmolimnnheaoaaGreatK1
namespace Go.Proofs.YtfmolimnnheaoaaGreat
open Go.RowKit
set_option linter.unusedSimpArgs false
set_option linter.unusedVariables false

theorem gAboveC (x t : Int) (rv : Value) (W : World) : Calls Tryz.prog 69 #[.agg #[.int .i64 x, rv], .int .i64 t] W fun e w' => e = .returned (.int .i64 (cmpI x t)) ∧ Below W.heap.size W w' := by
  go_enter Tryz.func69, Tryz.ntmps69; (try simp only [List.append_eq, List.cons_append, List.nil_append])
  go_wp2_with fail
  refine (bCmp x t _).mono ?_
  rintro e w1 ⟨rfl, rfl⟩
  go_wp2
  go_ret
  exact ⟨rfl, (Below.refl _ W).alloc (Nat.le_refl _) _⟩
def RiseV (l : List TV) : Prop := RiseT (l.map Prod.fst)
theorem risev_get {l : List TV} (h : RiseV l) {i j : Nat} (hij : i < j) (hj : j < l.length) : (l[i]).1.time < (l[j]).1.time := by
  have := List.pairwise_iff_getElem.1 h i j (by rw [List.length_map]; omega) (by rw [List.length_map]; exact hj) hij
  simpa using this
theorem risev_at {l : List TV} (h : RiseV l) {i j : Nat} {x y : TV} (hx : l[i]? = some x) (hy : l[j]? = some y) (hij : i < j) : x.1.time < y.1.time := by
  obtain ⟨hi1, rfl⟩ := List.getElem?_eq_some_iff.1 hx
  obtain ⟨hj1, rfl⟩ := List.getElem?_eq_some_iff.1 hy
  exact risev_get h hij hj1
set_option maxRecDepth 100000 in
set_option maxHeartbeats 4000000 in
theorem gSearch {n base : Nat} {v : Value} {l : List TV} {W : World} (hl : IsTd n base W v l) (hn : n ≤ W.heap.size) (hr : RiseV l) (hlen : l.length ≤ 1000000) (t : Int) :
    Calls Tryz.prog 68 #[v, .int .i64 t, .func (.func 69) #[] #[]] W fun e w' => ∃ k : Nat, k ≤ l.length ∧ e = .returned (.tuple #[.int .i64 k, .bool (decide ((l[k]?.map fun x => x.1.time) = some t))]) ∧ (∀ j x, l[j]? = some x → (x.1.time < t ↔ j < k)) ∧ Below W.heap.size W w' := by
  obtain ⟨p, cap, rfl, hcap1, hcap2⟩ := hl.open
  have Hl := Lib.hid hl; have Hr := Lib.hid hr
  clear hl hr
  go_enter Tryz.func68, Tryz.ntmps68; (try simp only [List.append_eq, List.cons_append, List.nil_append])
  go_wp2
  go_loopw [9, 10] (fun v9 v10 wr => ∃ lo hi : Nat, v9 = .int .i64 lo ∧ v10 = .int .i64 hi ∧ lo ≤ hi ∧ hi ≤ l.length ∧ (∀ j x, l[j]? = some x → j < lo → x.1.time < t) ∧ (∀ j x, l[j]? = some x → hi ≤ j → t ≤ x.1.time) ∧ Below W.heap.size W wr) (fun v9 v10 _ => (intOf v10).toNat - (intOf v9).toNat)
  case atStart => exact ⟨0, l.length, rfl, rfl, Nat.zero_le _, Nat.le_refl _, fun j x _ h => by omega, fun j x h1 h2 => by have := (List.getElem?_eq_some_iff.1 h1).1; omega, Below.refl _ _⟩
  case round =>
    obtain ⟨lo, hi, rfl, rfl, hlh, hin, hlo, hhi, hb⟩ := hrel
    have Hlo := Lib.hid hlo; have Hhi := Lib.hid hhi; have HB := Lib.hid hb
    clear hlo hhi hb
    by_cases hlt : lo < hi
    · obtain ⟨x, hx⟩ : ∃ x, l[(lo + hi) / 2]? = some x := ⟨_, List.getElem?_eq_getElem (by omega)⟩
      have HX := Lib.hid hx
      obtain ⟨bb, off, rfl, hbb, d0, d1, -⟩ := (Hl.out.keep HB.out hn).get hx
      have hsz := HB.out.size
      have hbw : bb < wr.heap.size := by omega
      clear hx
      have E0 := Lib.hid (show ((lo : Int) + (hi : Int)) / 2 = (((lo + hi) / 2 : Nat) : Int) by omega)
      obtain ⟨⟨x, rs⟩, rv⟩ := x
      simp only at d0 d1
      by_cases hxt : x < t
      · have hc : cmpI x t < 0 := by unfold cmpI; rw [if_pos hxt]; decide
        go_wp2_with fail
        refine (gAboveC x t rv _).mono ?_
        rintro e w1 ⟨rfl, hb1⟩
        have HB1 := Lib.hid (HB.out.trans (hb1.mono HB.out.size))
        clear hb1
        generalize cmpI x t = c at *
        go_wp2
        refine ⟨⟨(lo + hi) / 2 + 1, hi, by rw [E0.out]; go_num, rfl, by omega, hin, fun j y hy hj => ?_, Hhi.out, HB1.out⟩, by rw [E0.out]; simp only [intOf]; omega⟩
        rcases Nat.lt_or_ge j ((lo + hi) / 2) with h1 | h1
        · have h3 := risev_at Hr.out hy HX.out h1
          simp only at h3; omega
        · have : j = (lo + hi) / 2 := by omega
          subst this
          rw [HX.out] at hy; cases hy; exact hxt
      · have hc : ¬ cmpI x t < 0 := by unfold cmpI; rw [if_neg hxt]; split <;> decide
        go_wp2_with fail
        refine (gAboveC x t rv _).mono ?_
        rintro e w1 ⟨rfl, hb1⟩
        have HB1 := Lib.hid (HB.out.trans (hb1.mono HB.out.size))
        clear hb1
        generalize cmpI x t = c at *
        go_wp2
        refine ⟨⟨lo, (lo + hi) / 2, rfl, by rw [E0.out], by omega, by omega, Hlo.out, fun j y hy hj => ?_, HB1.out⟩, by rw [E0.out]; simp only [intOf]; omega⟩
        rcases Nat.lt_or_ge ((lo + hi) / 2) j with h1 | h1
        · have h3 := risev_at Hr.out HX.out hy h1
          simp only at h3; omega
        · have : j = (lo + hi) / 2 := by omega
          subst this
          rw [HX.out] at hy; cases hy; omega
    · obtain rfl : hi = lo := by omega
      by_cases hl2 : hi < l.length
      · obtain ⟨x, hx⟩ : ∃ x, l[hi]? = some x := ⟨_, List.getElem?_eq_getElem (by omega)⟩
        have HX := Lib.hid hx
        obtain ⟨bb, off, rfl, hbb, d0, d1, -⟩ := (Hl.out.keep HB.out hn).get hx
        have hsz := HB.out.size
        have hbw : bb < wr.heap.size := by omega
        clear hx
        obtain ⟨⟨x, rs⟩, rv⟩ := x
        simp only at d0 d1
        go_wp2_with fail
        refine (gAboveC x t rv _).mono ?_
        rintro e w1 ⟨rfl, hb1⟩
        have HB1 := Lib.hid (HB.out.trans (hb1.mono HB.out.size))
        clear hb1
        have HC := Lib.hid (show (cmpI x t == 0) = decide ((l[hi]?.map fun x => x.1.time) = some t) from by
          rw [HX.out]
          unfold cmpI
          by_cases h1 : x < t
          · rw [if_pos h1]; simp; omega
          · rw [if_neg h1]
            by_cases h2 : t < x
            · rw [if_pos h2]; simp; omega
            · rw [if_neg h2]; simp; omega)
        generalize cmpI x t = c at *
        go_wp2
        go_ret2
        refine ⟨hi, by omega, by rw [← HC.out]; rfl, fun j y hy => ⟨fun h => ?_, fun h => Hlo.out j y hy h⟩, HB1.out⟩
        rcases Nat.lt_or_ge j hi with h1 | h1
        · exact h1
        · have := Hhi.out j y hy h1; omega
      · go_wp2
        go_ret2
        refine ⟨hi, by omega, by rw [List.getElem?_eq_none (by omega)]; rfl, fun j y hy => ⟨fun h => ?_, fun h => Hlo.out j y hy h⟩, HB.out⟩
        have := (List.getElem?_eq_some_iff.1 hy).1
        omega
set_option maxRecDepth 100000 in
theorem gAbove {n base : Nat} {v : Value} {l : List TV} {W : World} (hl : IsTd n base W v l) (hn : n ≤ W.heap.size) (hr : RiseV l) (hlen : l.length ≤ 1000000) (t : Int) :
    Calls Tryz.prog 42 #[v, .int .i64 t] W fun e w' => e = .returned (.int .i64 (aboveT (l.map Prod.fst) t)) ∧ Below W.heap.size W w' := by
  have hs := gSearch hl hn hr hlen t
  have Hr := Lib.hid hr
  clear hl hr
  go_enter Tryz.func42, Tryz.ntmps42; (try simp only [List.append_eq, List.cons_append, List.nil_append])
  go_wp2_with fail
  refine hs.mono ?_
  rintro e w1 ⟨k, hk, rfl, hall, hb1⟩
  have E := Lib.hid (above_atT (l := l.map Prod.fst) (t := t) (k := k) (by rw [List.length_map]; exact hk) (fun j x hx => by rw [List.getElem?_map] at hx; cases hy : l[j]? with | none => rw [hy] at hx; cases hx | some y => rw [hy] at hx; cases hx; exact hall j y hy) Hr.out)
  rw [List.getElem?_map, Option.map_map, show (Tl.time ∘ Prod.fst : TV → Int) = fun x => x.1.time from rfl] at E
  have HB := Lib.hid hb1
  clear hall hb1
  by_cases ht : (l[k]?.map fun x => x.1.time) = some t
  · rw [if_pos ht] at E
    simp only [ht, decide_true]
    go_wp2
    go_ret
    exact ⟨by rw [← E.out]; go_num, HB.out⟩
  · rw [if_neg ht] at E
    simp only [ht, decide_false]
    go_wp2
    go_ret
    exact ⟨by rw [← E.out]; rfl, HB.out⟩
end Go.Proofs.YtfmolimnnheaoaaGreat

/- (*Board).of, settled: of a board of many queries. -/
namespace Go.Proofs.YtfmolimnnheaoaaGreat
open Go.RowKit
set_option linter.unusedSimpArgs false
set_option linter.unusedVariables false
open Go.Maps

def ofE (S : List SE) (id : Int) : List SE := S.filter fun e => e.s.query == id
section
variable {base : Nat} {W W' : World} {g i hq hs nq ns : Nat} {b : GB} {Q : List QE} {S : List SE} {F : Nat → Prop}
theorem StI.ofG (h : StI base g i W b hq hs nq ns Q S) (id : Int) : ofG b id = (ofE S id).map SE.s := by
  unfold Go.Proofs.YtfmolimnnheaoaaGreat.ofG ofE
  rw [h.s, List.filter_map]
  rfl
theorem StI.few (h : StI base g i W b hq hs nq ns Q S) : S.length ≤ 256 := by
  have := h.inv.few
  rw [h.s, List.length_map] at this
  exact this
theorem StI.riseS (h : StI base g i W b hq hs nq ns Q S) : RiseK (S.map sPair) := by
  unfold RiseK
  rw [List.map_map]
  exact h.sIds
theorem ofE_step {k : Nat} {e : SE} (h : S[k]? = some e) (id : Int) : ofE (S.take (k + 1)) id = ofE (S.take k) id ++ if e.s.query = id then [e] else [] := by
  unfold ofE
  rw [List.take_add_one, h, List.filter_append]
  congr 1
  simp only [Option.toList_some, List.filter_cons, List.filter_nil, beq_iff_eq]
theorem ofE_len (k : Nat) (id : Int) : (ofE (S.take k) id).length ≤ S.length := Nat.le_trans (List.length_filter_le _ _) (by rw [List.length_take]; omega)
set_option maxRecDepth 100000 in
set_option maxHeartbeats 4000000 in
theorem gOf {id : Int} (h : StI base g i W b hq hs nq ns Q S) :
    Calls Tryz.prog 35 #[.pointer (some ⟨g, 0, none⟩), .int .i64 id] W fun e w' => ∃ v, e = .returned v ∧ OwnP W.heap.size w' v ((ofE S id).map SE.blk) ∧ Below W.heap.size W w' := by
  have H := Lib.hid h
  have hg := h.m.blk.lt
  have c2 : W.cell? ⟨g, 2, none⟩ = some (.map (some hs)) := h.m.blk.cell 2 _ rfl
  have Hfew := Lib.hid h.few
  clear h
  go_enter Tryz.func35, Tryz.ntmps35; (try simp only [List.append_eq, List.cons_append, List.nil_append])
  go_wp2_with fail
  refine (sKeys _ _).mono ?_
  rintro e w1 ⟨rfl, rfl⟩
  have hb1 := (Below.refl W.heap.size W).alloc (Nat.le_refl _) (.cells #[.map (some hs)] 53)
  go_wp2_with fail
  refine (sSorted (H.out.m.ms.keep (hb1.block _ H.out.m.ms.lt)) H.out.riseS (by rw [List.length_map]; have := Hfew.out; omega) (Blk.new W [.map (some hs)] 53)).mono ?_
  rintro e w1 ⟨v1, rfl, hown, hb2⟩
  have HB := Lib.hid (hb1.trans (hb2.mono (by simp)))
  have hll : ((S.map sPair).map Prod.fst).length = S.length := by rw [List.length_map, List.length_map]
  obtain ⟨K, hK⟩ : ∃ z, (S.map sPair).map Prod.fst = z := ⟨_, rfl⟩
  rw [hK] at hown hll
  obtain ⟨pk, ck, rfl⟩ := ownsRow_slice hown
  have Hown := Lib.hid hown
  have hsz1 := HB.out.size
  have HK := Lib.hid hK
  rw [hll]
  have Hll := Lib.hid hll
  clear hown hb1 hb2 hll hK
  go_wp2_with fail
  go_loopw [5, 15] (fun v j wr => ∃ k : Nat, k ≤ S.length ∧ j = .int .i64 k ∧ OwnP w1.heap.size wr v ((ofE (S.take k) id).map SE.blk) ∧ Below w1.heap.size w1 wr) (fun _ j _ => S.length - (intOf j).toNat)
  case atStart => exact ⟨0, Nat.zero_le _, rfl, by rw [List.take_zero]; exact World.ownsRow_nil _ _ _ _, Below.refl _ _⟩
  case round =>
    obtain ⟨k, hk, rfl, hown, hb⟩ := hrel
    have Hown2 := Lib.hid hown; have Hb := Lib.hid hb
    clear hown hb
    by_cases hlt : k < S.length
    · have hki : (k : Int) < (S.length : Int) := by omega
      obtain ⟨s, hs1⟩ : ∃ s, S[k]? = some s := ⟨_, List.getElem?_eq_getElem hlt⟩
      have hW := HB.out.trans (Hb.out.mono hsz1)
      have h' := H.out.keep hW
      have hlook := h'.lookS hs1
      have hsb := (h'.m.s.mem s (List.mem_of_getElem? hs1)).1
      have d1 : wr.cell? ⟨s.blk, 1, none⟩ = some (.int .i64 s.s.query) := hsb.cell 1 _ rfl
      have e2 : wr.cell? ⟨g, 2, none⟩ = some (.map (some hs)) := h'.m.blk.cell 2 _ rfl
      have hgw := h'.m.blk.lt
      have hxw := hsb.lt
      have hkK : k < K.length := by rw [Hll.out]; exact hlt
      obtain ⟨bk, ok, hpk, hbk, hkey⟩ := ((Hown.out.keep Hb.out).ints (Nat.le_refl _)).get (k := k) hkK
      have hKk : K[k] = s.s.id := by
        have h1 : K[k]? = some s.s.id := by rw [← HK.out, List.getElem?_map, List.getElem?_map, hs1]; rfl
        rw [List.getElem?_eq_getElem hkK] at h1
        exact Option.some.inj h1
      rw [hKk] at hkey
      subst hpk
      have Hst := Lib.hid (ofE_step hs1 id)
      have htl : ((ofE (S.take k) id).map SE.blk).length ≤ 1000000 := by rw [List.length_map]; have := ofE_len (S := S) k id; have := Hfew.out; omega
      have hS9 : (S.length : Int) ≤ 256 := by have := Hfew.out; omega
      clear h' hsb hW hKk hkK hs1
      by_cases hid : s.s.query = id
      · have Hid2 := Lib.hid hid
        have hbq : (s.s.query == id) = true := by simp [hid]
        rw [if_pos hid] at Hst
        go_wp2_with (at_builtin; refine app_ptr rfl _ _ rfl w1.heap.size _ ((ofE (S.take k) id).map SE.blk) s.blk wr.heap.size rfl rfl (ownsRow_keep Hown2.out ((Below.refl _ _).alloc (Nat.le_refl _) _)) (by unfold ptrB; go_simp) htl (by have := Hb.out.size; simp; omega) ?_)
        intro v' w4 hown4 hg4 _
        have hb4 := OwnP.app Hb.out Hown2.out hg4 (Nat.le_refl _) Hb.out.size
        have Hown4 := Lib.hid hown4; have Hb4 := Lib.hid hb4
        clear hown4 hg4 hb4 hid
        go_wp2
        exact ⟨⟨k + 1, by omega, by go_num, by rw [Hst.out, List.map_append]; exact Hown4.out, Hb4.out⟩, by simp [intOf]; omega⟩
      · have hbq : (s.s.query == id) = false := by simp [hid]
        rw [if_neg hid, List.append_nil] at Hst
        have Hid2 := Lib.hid hid
        clear hid
        go_wp2
        exact ⟨⟨k + 1, by omega, by go_num, by rw [Hst.out]; exact Hown2.out, Hb.out⟩, by simp [intOf]; omega⟩
    · have hk' : k = S.length := by omega
      subst hk'
      have hki : ¬ ((S.length : Int) < (S.length : Int)) := by omega
      rw [List.take_length] at Hown2
      go_wp2
      go_ret
      exact ⟨_, rfl, ownsRow_base Hown2.out hsz1, HB.out.trans (Hb.out.mono hsz1)⟩
theorem settleE (h : StI base g i W b hq hs nq ns Q S) {e : QE} : settleAt b e.qy = (ofE S e.id).foldl (fun m s => min m s.s.acked) e.last := by
  unfold settleAt
  rw [h.ofG, List.foldl_map]
  rfl
theorem foldE_take {l : List SE} {k : Nat} {s : SE} (h : l[k]? = some s) (a : Int) : (l.take (k + 1)).foldl (fun m s => min m s.s.acked) a = min ((l.take k).foldl (fun m s => min m s.s.acked) a) s.s.acked := by
  rw [List.take_add_one, h, List.foldl_append]
  rfl
set_option maxRecDepth 100000 in
set_option maxHeartbeats 4000000 in
theorem gSettled {k : Nat} {e : QE} (h : StI base g i W b hq hs nq ns Q S) (hk : Q[k]? = some e) :
    Calls Tryz.prog 66 #[.pointer (some ⟨g, 0, none⟩), .int .i64 e.id] W fun r w' => r = .returned (.int .i64 (settleAt b e.qy)) ∧ Below W.heap.size W w' := by
  rw [settleE h]
  have H := Lib.hid h
  have hg := h.m.blk.lt
  have hqb := (h.m.q.mem e (List.mem_of_getElem? hk)).1.1
  have hxq := hqb.lt
  have c1 : W.cell? ⟨g, 1, none⟩ = some (.map (some hq)) := h.m.blk.cell 1 _ rfl
  have c2 : W.cell? ⟨e.blk, 1, none⟩ = some (.int .i64 e.last) := hqb.cell 1 _ rfl
  have hlook := h.lookQ hk
  have Hfew := Lib.hid h.few
  have Hml := Lib.hid (show ∀ s ∈ ofE S e.id, s ∈ S from fun s hs => (List.mem_filter.1 hs).1)
  have Hll := Lib.hid (show (ofE S e.id).length ≤ S.length from List.length_filter_le _ _)
  have HO := Lib.hid (gOf (id := e.id) h)
  clear h hqb
  obtain ⟨id, L, lst, fl, xq, kv⟩ := e
  simp only at hxq c2 hlook Hml Hll HO ⊢
  obtain ⟨O, hO⟩ : ∃ z, ofE S id = z := ⟨_, rfl⟩
  rw [hO] at Hml Hll HO ⊢
  clear hO
  go_enter Tryz.func66, Tryz.ntmps66; (try simp only [List.append_eq, List.cons_append, List.nil_append])
  go_wp2_with fail
  refine HO.out.mono ?_
  rintro r w1 ⟨v1, rfl, hown, hb1⟩
  obtain ⟨pk, ck, rfl⟩ := ownsRow_slice hown
  have Hown := Lib.hid hown; have HB := Lib.hid hb1
  have hsz1 := hb1.size
  have hll : (O.map SE.blk).length = O.length := List.length_map _
  clear hown hb1
  rw [hll]
  have Hl2 := Lib.hid hll
  clear hll hlook c1 c2 HO
  go_wp2_with fail
  go_loopw [5, 21] (fun v j wr => ∃ k : Nat, k ≤ O.length ∧ j = .int .i64 k ∧ v = .int .i64 ((O.take k).foldl (fun m s => min m s.s.acked) lst) ∧ wr = w1) (fun _ j _ => O.length - (intOf j).toNat)
  case atStart => exact ⟨0, Nat.zero_le _, rfl, rfl, rfl⟩
  case round =>
    obtain ⟨k, hk, rfl, rfl, rfl⟩ := hrel
    by_cases hlt : k < O.length
    · have hki : (k : Int) < (O.length : Int) := by omega
      obtain ⟨s, hs1⟩ : ∃ s, O[k]? = some s := ⟨_, List.getElem?_eq_getElem hlt⟩
      have h' := H.out.keep HB.out
      have hsb := (h'.m.s.mem s (Hml.out s (List.mem_of_getElem? hs1))).1
      have d1 : wr.cell? ⟨s.blk, 3, none⟩ = some (.int .i64 s.s.acked) := hsb.cell 3 _ rfl
      have hxw := hsb.lt
      obtain ⟨bk, hpk, hbk, hkey⟩ := Hown.out.get rfl (k := k) (x := s.blk) (by rw [List.getElem?_map, hs1]; rfl)
      unfold ptrB at hkey
      subst hpk
      have Htk := Lib.hid (foldE_take hs1 lst)
      obtain ⟨m0, hm0⟩ : ∃ m0, (O.take k).foldl (fun m s => min m s.s.acked) lst = m0 := ⟨_, rfl⟩
      rw [hm0] at Htk ⊢
      clear h' hsb hm0
      have hf := Hfew.out
      have hl9 := Hll.out
      have hkb : (k : Int) ≤ 100000 := by omega
      go_wp2
      exact ⟨⟨k + 1, by omega, by go_num, by rw [Htk.out], trivial⟩, by simp [intOf]; omega⟩
    · have hk' : k = O.length := by omega
      subst hk'
      have hki : ¬ ((O.length : Int) < (O.length : Int)) := by omega
      rw [List.take_length]
      go_wp2
      go_ret
      exact ⟨rfl, HB.out⟩
end
end Go.Proofs.YtfmolimnnheaoaaGreat

/- (*Board).letGo, of a board of many queries. -/
namespace Go.Proofs.YtfmolimnnheaoaaGreat
open Go.RowKit
set_option linter.unusedSimpArgs false
set_option linter.unusedVariables false
open Go.Maps

theorem cloneTv {n base : Nat} {v : Value} {L : List TV} {w : World} (hn : n ≤ w.heap.size) (h : IsTd n base w v L) (hl : L.length ≤ 1000000) :
    Calls Tryz.prog 67 #[v] w fun e' w' => ∃ v', e' = .returned v' ∧ OwnTd w.heap.size base w' v' L ∧ Below w.heap.size w w' := by
  refine (cloneTd hn h.1 (tRow_len L) (tRow_one h.2) (by rw [List.length_map]; exact hl)).mono ?_
  rintro e w' ⟨v', rfl, ho, hb⟩
  rw [List.length_map] at ho
  exact ⟨v', rfl, ⟨ho, h.2.keep hb⟩, hb⟩
theorem aboveL (L : List TV) (t : Int) : aboveT (L.map Prod.fst) t ≤ L.length := by
  have := aboveT_le (L.map Prod.fst) t
  rwa [List.length_map] at this
/-- What a method leaves: the board that the document says, nothing else turned. -/
def PostA (base g i : Nat) (F : Nat → Prop) (W : World) (b : GB) (w' : World) : Prop := ∃ F', StA base g i F' w' b ∧ Turn F W F' w'
theorem PostA.trans {base g i : Nat} {F F1 : Nat → Prop} {W W1 w' : World} {b : GB} (h : Turn F W F1 W1) (k : PostA base g i F1 W1 b w') : PostA base g i F W b w' := by
  obtain ⟨F', h1, h2⟩ := k
  exact ⟨F', h1, h.trans h2⟩
section
variable {base : Nat} {W W' : World} {g i hq hs nq ns : Nat} {b : GB} {Q : List QE} {S : List SE} {F : Nat → Prop}
theorem StI.qIn (h : StI base g i W b hq hs nq ns Q S) {k : Nat} {e : QE} (hk : Q[k]? = some e) : e.qy ∈ b.q := by
  rw [h.q]; exact List.mem_map.2 ⟨e, List.mem_of_getElem? hk, rfl⟩
theorem StI.qOk (h : StI base g i W b hq hs nq ns Q S) {k : Nat} {e : QE} (hk : Q[k]? = some e) : QOk b.room e.qy := h.inv.qok _ (h.qIn hk)
theorem StI.sIn (h : StI base g i W b hq hs nq ns Q S) {k : Nat} {e : SE} (hk : S[k]? = some e) : e.s ∈ b.s := by
  rw [h.s]; exact List.mem_map.2 ⟨e, List.mem_of_getElem? hk, rfl⟩
theorem StI.find_at (h : StI base g i W b hq hs nq ns Q S) {k : Nat} {e : QE} (hk : Q[k]? = some e) : Go.Proofs.YtfmolimnnheaoaaGreat.findQ b e.id = some e.qy := by
  rw [h.findQ, find_uniq h.qIds hk]; rfl
theorem StI.findU_at (h : StI base g i W b hq hs nq ns Q S) {k : Nat} {e : SE} (hk : S[k]? = some e) : Go.Proofs.YtfmolimnnheaoaaGreat.findU b e.s.id = some e.s := by
  rw [h.findU, find_uniq (key := fun x : SE => x.s.id) h.sIds hk]; rfl
theorem StI.keptN (h : StI base g i W b hq hs nq ns Q S) {k : Nat} {e : QE} (hk : Q[k]? = some e) : e.L.length ≤ 4096 := by
  have h1 := (h.qOk hk).room
  have h2 := h.inv.room
  have : e.qy.l.length = e.L.length := List.length_map _
  omega
theorem letG_at (h : StI base g i W b hq hs nq ns Q S) {k : Nat} {e : QE} (hk : Q[k]? = some e) : letG b e.id = { b with q := turnQ e.id (letQ (settleAt b e.qy)) b.q } := by
  unfold letG
  rw [h.find_at hk]
set_option maxRecDepth 100000 in
set_option maxHeartbeats 4000000 in
theorem gLetGo {k : Nat} {e : QE} (h : StI base g i W b hq hs nq ns Q S) (hk : Q[k]? = some e) :
    Calls Tryz.prog 39 #[.pointer (some ⟨g, 0, none⟩), .int .i64 e.id] W fun r w' => r = .returned (.tuple #[]) ∧ PostA base g i (FootA g hq hs Q S) W (letG b e.id) w' := by
  have HLG := Lib.hid (letG_at h hk)
  have HIn := Lib.hid (h.inv.letG e.id)
  rw [HLG.out] at HIn ⊢
  have H := Lib.hid h; have Hk := Lib.hid hk
  have HS := Lib.hid (gSettled h hk)
  have hg := h.m.blk.lt
  have hmem := h.m.q.mem e (List.mem_of_getElem? hk)
  have hxq := hmem.1.1.lt
  have c1 : W.cell? ⟨g, 1, none⟩ = some (.map (some hq)) := h.m.blk.cell 1 _ rfl
  have hlook := h.lookQ hk
  have HQo := Lib.hid (h.qOk hk)
  have HLn := Lib.hid (h.keptN hk)
  clear h hk
  obtain ⟨id, L, lst, fl, xq, kv⟩ := e
  simp only at hxq hlook HLn HLG HIn HS ⊢
  have Hr := Lib.hid (show RiseV L from HQo.out.rise)
  have HLn := Lib.hid (show L.length ≤ 4096 from HLn.out)
  have HM0 := Lib.hid hmem
  clear hmem
  obtain ⟨n, hn0⟩ : ∃ z, settleAt b (QE.qy ⟨id, L, lst, fl, xq, kv⟩) = z := ⟨_, rfl⟩
  rw [hn0] at HS HLG HIn ⊢
  have HLQ := Lib.hid (letQ_drop HQo.out n)
  clear hn0 HLG
  go_enter Tryz.func39, Tryz.ntmps39; (try simp only [List.append_eq, List.cons_append, List.nil_append])
  go_wp2_with fail
  refine HS.out.mono ?_
  rintro r w1 ⟨rfl, hb1⟩
  have hsz1 := hb1.size
  have H1 := Lib.hid (H.out.keep hb1)
  have HB1 := Lib.hid hb1
  have HM1 := Lib.hid ((qStays base).off _ _ _ _ HM0.out (OffM.of (M := fun _ => False) hb1) (Quiet.none _ _) (fun _ _ h => h))
  have hxq1 : xq < w1.heap.size := by omega
  have d0 : w1.cell? ⟨xq, 0, none⟩ = some kv := HM1.out.1.1.cell 0 _ rfl
  have d2 : w1.cell? ⟨xq, 2, none⟩ = some (.int .i64 fl) := HM1.out.1.1.cell 2 _ rfl
  have f2 := HM1.out.1.1.free 2
  have f0 := HM1.out.1.1.free 0
  clear hb1 c1 hlook HS
  by_cases hn : fl < n
  · rw [if_pos (show (QE.qy ⟨id, L, lst, fl, xq, kv⟩).floor < n from hn)] at HLQ
    go_wp2_with fail
    have HY := Lib.hid (show Blk (w1.setCell ⟨xq, 2, none⟩ (.int .i64 n)) xq 64 [kv, .int .i64 lst, .int .i64 n] from HM1.out.1.1.set_ 2 (.int .i64 n))
    have HoY := Lib.hid (OffM.cell1 w1 xq 2 (.int .i64 n))
    have hqx : Quiet base w1 (fun k => k = xq) := Quiet.of_ty fun k hk => by subst hk; exact ⟨HM1.out.1.2, .inl ⟨_, HM1.out.1.1.ty, by decide, by decide⟩⟩
    have hkn : ∀ gk, kv.ownBlock = some gk → ¬ gk = xq := fun gk h1 h2 => by subst h2; exact (own_ty HM1.out.2.1.1 h1).ne HM1.out.1.1.ty (by decide) rfl
    have HK := Lib.hid (HM1.out.2.1.off HoY.out hqx hkn)
    obtain ⟨Y, hY⟩ : ∃ z, w1.setCell ⟨xq, 2, none⟩ (.int .i64 n) = z := ⟨_, rfl⟩
    rw [hY] at HY HoY HK ⊢
    clear hY hkn hqx
    have HT := Lib.hid (show IsTd Y.heap.size base Y kv L from OwnTd.isTd HK.out (Nat.le_refl _))
    -- REGION 4
    refine wp_region_late [15] (fun X => Blk X xq 64 [kv, .int .i64 lst, .int .i64 n]) (by kernel_rfl) ?_
    have hSd := HY.out.drew
    have HZ := Lib.hid (Below.drew (Below.refl Y.heap.size Y))
    obtain ⟨Z, hZ⟩ : ∃ z, Y.drew = z := ⟨_, rfl⟩
    rw [hZ] at hSd HZ ⊢
    clear hZ
    (refine late_take 0 25 (.pointer (some ⟨xq, 0, none⟩)) rfl rfl (by kernel_rfl) (by kernel_rfl) (by kernel_rfl) rfl (by kernel_rfl) (fun _ _ _ h => h) (by kernel_rfl) ?_ hSd ?_; (intro w' hSw; clear hSw; go_simp); simp only [lsz, lss])
    (refine late_take 1 26 (.pointer (some ⟨xq, 0, none⟩)) rfl rfl (by kernel_rfl) (by kernel_rfl) (by kernel_rfl) rfl (by kernel_rfl) (fun _ _ _ h => h) (by kernel_rfl) ?_ hSd ?_; (intro w' hSw; clear hSw; go_simp); simp only [lsz, lss])
    (refine late_take 2 27 (.pointer (some ⟨xq, 0, none⟩)) rfl rfl (by kernel_rfl) (by kernel_rfl) (by kernel_rfl) rfl (by kernel_rfl) (fun _ _ _ h => h) (by kernel_rfl) ?_ hSd ?_; (intro w' hSw; clear hSw; go_simp); simp only [lsz, lss])
    (refine late_take 3 28 (.pointer (some ⟨xq, 0, none⟩)) rfl rfl (by kernel_rfl) (by kernel_rfl) (by kernel_rfl) rfl (by kernel_rfl) (fun _ _ _ h => h) (by kernel_rfl) ?_ hSd ?_; (intro w' hSw; clear hSw; go_simp); simp only [lsz, lss])
    (refine late_take 4 29 (kv) rfl rfl (by kernel_rfl) (by kernel_rfl) (by kernel_rfl) rfl (by kernel_rfl) (fun _ _ _ h => h) (by kernel_rfl) ?_ hSd ?_; (intro w' hSw; have c := hSw.cell 0 _ rfl; clear hSw; go_simp); simp only [lsz, lss])
    (refine late_take 5 30 (.pointer (some ⟨xq, 0, none⟩)) rfl rfl (by kernel_rfl) (by kernel_rfl) (by kernel_rfl) rfl (by kernel_rfl) (fun _ _ _ h => h) (by kernel_rfl) ?_ hSd ?_; (intro w' hSw; clear hSw; go_simp); simp only [lsz, lss])
    (refine late_take 6 31 (.pointer (some ⟨xq, 0, none⟩)) rfl rfl (by kernel_rfl) (by kernel_rfl) (by kernel_rfl) rfl (by kernel_rfl) (fun _ _ _ h => h) (by kernel_rfl) ?_ hSd ?_; (intro w' hSw; clear hSw; go_simp); simp only [lsz, lss])
    (refine late_take 7 32 (.pointer (some ⟨xq, 0, none⟩)) rfl rfl (by kernel_rfl) (by kernel_rfl) (by kernel_rfl) rfl (by kernel_rfl) (fun _ _ _ h => h) (by kernel_rfl) ?_ hSd ?_; (intro w' hSw; clear hSw; go_simp); simp only [lsz, lss])
    (refine late_take 8 33 (kv) rfl rfl (by kernel_rfl) (by kernel_rfl) (by kernel_rfl) rfl (by kernel_rfl) (fun _ _ _ h => h) (by kernel_rfl) ?_ hSd ?_; (intro w' hSw; have c := hSw.cell 0 _ rfl; clear hSw; go_simp); simp only [lsz, lss])
    (refine late_take 9 34 (.int .i64 n) rfl rfl (by kernel_rfl) (by kernel_rfl) (by kernel_rfl) rfl (by kernel_rfl) (fun _ _ _ h => h) (by kernel_rfl) ?_ hSd ?_; (intro w' hSw; clear hSw; go_simp); simp only [lsz, lss])
    refine late_ready (rs := [10]) (by kernel_rfl) (by simp) (.cons rfl true rfl (fun K hK => ?_) .nil)
    rw [if_pos (by kernel_rfl)]
    go_simp
    refine (gAbove (HT.out.keep HZ.out (Nat.le_refl _)) HZ.out.size Hr.out (by have := HLn.out; omega) n).mono ?_
    rintro e w2 ⟨rfl, hb2⟩
    have HZ2 := Lib.hid (HZ.out.trans (hb2.mono HZ.out.size)); clear hb2
    have hSd := HY.out.keep HZ2.out
    obtain ⟨sv, hsv, hst, -⟩ := cutTd HT.out (aboveL L n)
    refine hK.out _ _ (fun _ => hSd) ?_
    clear hK K
    (try simp only [Act.put, lsa, lsz, lss])
    (refine late_take 11 36 (sv) rfl rfl (by kernel_rfl) (by kernel_rfl) (by kernel_rfl) rfl (by kernel_rfl) (fun _ _ _ h => h) (by kernel_rfl) ?_ hSd ?_; (intro w' hSw; clear hSw; go_simp); simp only [lsz, lss])
    refine late_ready (rs := [12]) (by kernel_rfl) (by simp) (.cons rfl true rfl (fun K hK => ?_) .nil)
    rw [if_pos (by kernel_rfl)]
    go_simp
    refine (cloneTv HZ2.out.size (hst.keep HZ2.out (Nat.le_refl _)) (by rw [List.length_drop]; have := HLn.out; omega)).mono ?_
    rintro e w3 ⟨v3, rfl, hown, hb3⟩
    obtain ⟨a3, cap3, rfl⟩ := hown.slice
    have HZ3 := Lib.hid (HZ2.out.trans (hb3.mono HZ2.out.size))
    have Hown := Lib.hid (hown.low HZ2.out.size); clear hb3 hown
    have hSd := HY.out.keep HZ3.out
    refine hK.out _ _ (fun _ => hSd) ?_
    clear hK K
    (try simp only [Act.put, lsa, lsz, lss])
    refine late_ready (rs := [13]) (by kernel_rfl) (by simp) (.cons rfl true rfl (fun K hK => ?_) .nil)
    rw [if_pos (by kernel_rfl)]
    go_simp
    refine hK.out _ _ (fun _ => hSd) ?_
    clear hK K
    (try simp only [Act.put, lsa, lsz, lss])
    refine late_ready (rs := [14]) (by kernel_rfl) (by simp) (.cons rfl true rfl (fun K hK => ?_) .nil)
    rw [if_pos (by kernel_rfl)]
    go_simp
    refine hK.out _ _ (fun _ => hSd) ?_
    clear hK K
    (try simp only [Act.put, lsa, lsz, lss])
    have fr0 := hSd.free 0
    have k0 := hSd.cell 0 _ rfl
    refine late_ready (rs := [15]) (by kernel_rfl) (by simp) (.cons rfl false rfl (fun K hK => ?_) .nil)
    rw [if_pos (by kernel_rfl)]
    go_simp
    refine hK.out _ _ (fun h => by cases h) ?_
    clear hK K
    (try simp only [Act.put, lsa, lsz, lss])
    refine late_done (by kernel_rfl) ?_ _
    go_wp2
    go_end0
    have hkl : aboveT (L.map Prod.fst) n ≤ L.length := aboveL L n
    have hk3 : ∀ gk, (Value.slice a3 (L.drop (aboveT (L.map Prod.fst) n)).length cap3).ownBlock = some gk → Y.heap.size ≤ gk ∧ ¬ gk = xq := fun gk h1 => by have h3 := (Hown.out.foot_lt h1).1; have h4 := HY.out.lt; exact ⟨h3, by omega⟩
    have hxw3 := hSd.ty
    have hqx : Quiet base w3 (fun k => k = xq) := Quiet.of_ty fun k hk => by subst hk; exact ⟨HM1.out.1.2, .inl ⟨_, hxw3, by decide, by decide⟩⟩
    have ho5 : OffM (fun k => k = xq) w1 (w3.setCell ⟨xq, 0, none⟩ (.slice a3 (L.drop (aboveT (L.map Prod.fst) n)).length cap3)) := (HoY.out.trans (OffM.of HZ3.out) (fun _ _ h => h)).trans (OffM.cell1 _ _ _ _) (fun _ _ h => h)
    have hown5 := Hown.out.off (OffM.cell1 w3 xq 0 (.slice a3 (L.drop (aboveT (L.map Prod.fst) n)).length cap3)) hqx (fun k hk hk2 => (hk3 k hk).2 hk2)
    obtain ⟨h5, h6⟩ := H1.out.setQ (e' := ⟨id, L.drop (aboveT (L.map Prod.fst) n), lst, n, xq, .slice a3 (L.drop (aboveT (L.map Prod.fst) n)).length cap3⟩) Hk.out rfl ho5 (fun k _ hk => .inl hk) ⟨⟨hSd.set_ 0 _, HM1.out.1.2⟩, hown5.low (by have := HoY.out.size; have := H1.out.lo; omega), fun x hx => HM1.out.2.2 x (List.mem_of_mem_drop hx)⟩ (fun k hk => by
      rcases hk with hk | hk
      · exact .inl (.inl hk)
      · exact .inr (by have := (hk3 k hk).1; have := HoY.out.size; omega)) (letQ n) (by rw [HLQ.out]; unfold QE.qy; simp only [List.map_drop]) HIn.out
    simp only [List.length_drop] at h5 h6
    exact ⟨rfl, _, h5.st, (Turn.of HB1.out).trans h6⟩
  · rw [if_neg (show ¬ (QE.qy ⟨id, L, lst, fl, xq, kv⟩).floor < n from hn)] at HLQ
    go_wp2
    go_end0
    obtain ⟨h5, h6⟩ := H1.out.setQ (W' := w1) (M := fun _ => False) (e' := ⟨id, L, lst, fl, xq, kv⟩) Hk.out rfl (OffM.refl _ _) (fun _ _ h => h.elim) HM1.out (fun k hk => .inl hk) (letQ n) HLQ.out.symm HIn.out
    exact ⟨rfl, _, h5.st, (Turn.of HB1.out).trans h6⟩
end
end Go.Proofs.YtfmolimnnheaoaaGreat

/- A board's maps change: a query or a subscriber is put in, or taken out. (For SubsScript.) No walk here. -/
namespace Go.Proofs.YtfmolimnnheaoaaGreat
open Go.RowKit
set_option linter.unusedSimpArgs false
set_option linter.unusedVariables false
open Go.Maps

/-! ### plain -/
section
variable {R : Type}
theorem GInv.subS {b : Brd R} (h : GInv b) (p : Su → Bool) : GInv { b with s := b.s.filter p } :=
  ⟨h.room, h.qs, List.Pairwise.sublist (List.Sublist.map _ List.filter_sublist) h.ss, h.qok, fun s hs => by
    obtain ⟨h1, h2, h3⟩ := h.uok s (List.mem_filter.1 hs).1
    exact ⟨h1, h2, h3⟩, Nat.le_trans (List.length_filter_le _ _) h.few, h.id0⟩
/-- The subscribers without the first k of a query. -/
def lessG (b : Brd R) (id : Int) (k : Nat) : Brd R := { b with s := b.s.filter fun s => !((ofG b id).take k).any fun t => t.id == s.id }
theorem lessG_zero (b : Brd R) (id : Int) : lessG b id 0 = b := by
  unfold lessG
  have : (b.s.filter fun s => !((ofG b id).take 0).any fun t => t.id == s.id) = b.s := List.filter_eq_self.2 fun s _ => by simp
  rw [this]
theorem lessG_step {b : Brd R} {id : Int} {k : Nat} {s : Su} (h : (ofG b id)[k]? = some s) : lessG b id (k + 1) = { lessG b id k with s := (lessG b id k).s.filter fun t => t.id != s.id } := by
  unfold lessG
  congr 1
  rw [List.filter_filter]
  refine List.filter_congr fun t _ => ?_
  rw [List.take_add_one, h, List.any_append]
  simp only [Option.toList_some, List.any_cons, List.any_nil, Bool.or_false, Bool.not_or]
  rw [Bool.and_comm]
  congr 1
  by_cases e : s.id = t.id
  · simp [e]
  · have : t.id ≠ s.id := fun e2 => e e2.symm
    have e1 : (s.id == t.id) = false := by simpa using e
    have e2 : (t.id != s.id) = true := by simpa using this
    rw [e1, e2]; rfl
theorem su_uniq {b : Brd R} (h : GInv b) {s t : Su} (hs : s ∈ b.s) (ht : t ∈ b.s) (e : s.id = t.id) : s = t := by
  obtain ⟨i, hi, rfl⟩ := List.getElem_of_mem hs
  obtain ⟨j, hj, rfl⟩ := List.getElem_of_mem ht
  have := at_one h.ss (List.getElem?_eq_getElem hi) (List.getElem?_eq_getElem hj) e
  subst this; rfl
theorem lessG_end {b : Brd R} (h : GInv b) (id : Int) : lessG b id (ofG b id).length = { b with s := b.s.filter fun s => s.query != id } := by
  unfold lessG
  congr 1
  refine List.filter_congr fun s hs => ?_
  rw [List.take_length]
  by_cases e : s.query = id
  · have h1 : (ofG b id).any (fun t => t.id == s.id) = true := List.any_eq_true.2 ⟨s, List.mem_filter.2 ⟨hs, by simp [e]⟩, by simp⟩
    rw [h1]; simp [e]
  · have h1 : (ofG b id).any (fun t => t.id == s.id) = false := by
      rw [List.any_eq_false]
      intro t ht
      obtain ⟨h2, h3⟩ := List.mem_filter.1 ht
      simp only [beq_iff_eq] at h3 ⊢
      intro e2
      rw [su_uniq h h2 hs e2] at h3
      exact e h3
    rw [h1]; simp [e]
theorem lessG_inv {b : Brd R} (h : GInv b) (id : Int) (k : Nat) : GInv (lessG b id k) := h.subS _
end
section
variable {α : Type} {key : α → Int}
theorem takeWhile_place (n : Int) (l : List α) : (l.takeWhile fun x => decide (key x < n)) = l.take (placeN key n l) := by
  unfold placeN
  induction l with
  | nil => rfl
  | cons x l ih =>
    by_cases h : key x < n
    · rw [List.takeWhile_cons, if_pos (by simpa using h), List.length_cons, List.take_succ_cons, ← ih]
    · rw [List.takeWhile_cons, if_neg (by simpa using h)]; rfl
theorem dropWhile_place (n : Int) (l : List α) : (l.dropWhile fun x => decide (key x < n)) = l.drop (placeN key n l) := by
  unfold placeN
  induction l with
  | nil => rfl
  | cons x l ih =>
    by_cases h : key x < n
    · rw [List.takeWhile_cons, if_pos (by simpa using h), List.length_cons, List.drop_succ_cons, List.dropWhile_cons, if_pos (by simpa using h), ih]
    · rw [List.takeWhile_cons, if_neg (by simpa using h), List.dropWhile_cons, if_neg (by simpa using h)]; rfl
theorem place_map {β : Type} (f : β → α) (n : Int) (l : List β) : placeN key n (l.map f) = placeN (fun x => key (f x)) n l := by
  unfold placeN
  induction l with
  | nil => rfl
  | cons x l ih =>
    rw [List.map_cons, List.takeWhile_cons, List.takeWhile_cons]
    by_cases h : key (f x) < n
    · rw [if_pos (by simpa using h), if_pos (by simpa using h), List.length_cons, List.length_cons, ih]
    · rw [if_neg (by simpa using h), if_neg (by simpa using h)]; rfl
end
/-! ### memory -/
theorem OffM.mapGrown {W W' : World} {o : Obj} {h : Nat} (hg : (W.alloc o).grownBy W' (some h)) : OffM (fun k => k = h) W W' :=
  (OffM.of (M := fun k => k = h) ((Below.refl _ W).alloc (Nat.le_refl _) o)).trans (OffM.grown hg) (fun i hi e => (Option.some.inj e).symm)
theorem OffM.grown1 {W W' : World} {h : Nat} (hg : W.grownBy W' (some h)) : OffM (fun k => k = h) W W' := (OffM.grown hg).more fun k _ e => (Option.some.inj e).symm
section
variable {base : Nat} {W W' : World} {g i hq hs nq ns : Nat} {b : GB} {Q : List QE} {S : List SE} {F : Nat → Prop}
theorem StI.hqQuiet (h : StI base g i W b hq hs nq ns Q S) : Quiet base W (fun k => k = hq) := fun k hk hl => by subst hk; exact h.m.quiet _ (.inr (.inl rfl)) hl
theorem StI.hsQuiet (h : StI base g i W b hq hs nq ns Q S) : Quiet base W (fun k => k = hs) := fun k hk hl => by subst hk; exact h.m.quiet _ (.inr (.inr (.inl rfl))) hl
theorem StI.gNe (h : StI base g i W b hq hs nq ns Q S) : g ≠ hq ∧ g ≠ hs := ⟨h.m.blk.ty.neM h.m.mq.mp, h.m.blk.ty.neM h.m.ms.mp⟩
/-- A query is opened. -/
theorem StI.insQ (h : StI base g i W b hq hs nq ns Q S) {id mark : Int} {b' : GB} (hop : openG b id mark = (b', 0)) (hid : i64 id) (hi : i + 1 ≤ 10000)
    (hm : MapB W' hq (nq + 1) ((Q.map qPair).take (placeN Prod.fst id (Q.map qPair)) ++ (id, W.heap.size) :: (Q.map qPair).drop (placeN Prod.fst id (Q.map qPair))))
    (hg : (W.alloc (.cells ([.slice none 0 0, .int .i64 mark, .int .i64 mark] : List Value).toArray 64)).grownBy W' (some hq)) : PostA base g (i + 1) (FootA g hq hs Q S) W b' W' := by
  have ho := OffM.mapGrown hg
  have hinv := inv_open h.inv id mark
  rw [hop] at hinv
  have e0 : b' = { b with q := (b.q.takeWhile fun x => decide (x.id < id)) ++ ⟨id, [], mark, mark⟩ :: b.q.dropWhile fun x => decide (x.id < id) } := by
    unfold openG at hop
    split at hop
    · simp at hop
    · split at hop
      · simp at hop
      · simpa using hop.symm
  have hlt : W.heap.size < (W.alloc (.cells ([.slice none 0 0, .int .i64 mark, .int .i64 mark] : List Value).toArray 64)).heap.size := by rw [World.size_alloc]; omega
  have hhq := h.m.mq.lt
  have hnew : Blk W' W.heap.size 64 [.slice none 0 0, .int .i64 mark, .int .i64 mark] := (hg.block _ hlt (fun e => by have := Option.some.inj e; omega)).trans (Blk.new W _ _)
  have hmem : QMem base W' ⟨id, [], mark, mark, W.heap.size, .slice none 0 0⟩ := ⟨⟨hnew, h.lo⟩, OwnTd.nil, fun x hx => by cases hx⟩
  have epl : placeN Prod.fst id (Q.map qPair) = placeN QE.id id Q := place_map (key := Prod.fst) qPair id Q
  rw [epl] at hm
  have hbq : b'.q = (Q.take (placeN QE.id id Q) ++ (⟨id, [], mark, mark, W.heap.size, .slice none 0 0⟩ : QE) :: Q.drop (placeN QE.id id Q)).map QE.qy := by
    rw [e0, takeWhile_place (key := Qy.id), dropWhile_place (key := Qy.id), h.q, place_map (key := Qy.id) QE.qy id Q, List.map_append, List.map_cons, List.map_take, List.map_drop]
    rfl
  refine ⟨_, ⟨hq, hs, nq + 1, ns, Q.take (placeN QE.id id Q) ++ ⟨id, [], mark, mark, W.heap.size, .slice none 0 0⟩ :: Q.drop (placeN QE.id id Q), S, ⟨⟨?_, ?_, h.m.ms.keep (ho.block _ h.m.ms.lt (fun e => h.m.low.2.2.2 e.symm)), h.m.q.ins (qStays base) _ ho h.hqQuiet (fun e2 h2 k hk e => (h.m.qne h2 hk).2.1 e) hmem (fun k hk => ?_),
    h.m.s.off (sStays base) ho h.hqQuiet (fun e2 h2 k hk e => (h.m.sne h2 hk).2.1 e), h.m.low⟩, hbq, ?_, hinv, ?_, ?_, Nat.le_trans h.lo ho.size⟩, rfl⟩, ho.more fun k _ e => .inr (.inl e), fun k hk => ?_⟩
  · rw [e0]
    exact (ho.block _ h.m.blk.lt (fun e => h.gNe.1 e)).trans h.m.blk
  · rw [List.map_append, List.map_cons, List.map_take, List.map_drop]
    exact hm
  · rcases hk with hk | hk
    · exact Nat.le_of_eq hk.symm
    · cases hk
  · rw [e0]; exact h.s
  · have h9 := h.num
    have e1 : b'.id = b.id := by rw [e0]
    exact ⟨by omega, by omega, by omega, hi⟩
  · intro x hx
    rw [hbq] at hx
    obtain ⟨y, hy, rfl⟩ := List.mem_map.1 hx
    have old : ∀ y ∈ Q, i64 y.qy.id := fun y hy => h.ids _ (by rw [h.q]; exact List.mem_map.2 ⟨y, hy, rfl⟩)
    rcases List.mem_append.1 hy with hy | hy
    · exact old y (List.mem_of_mem_take hy)
    · rcases List.mem_cons.1 hy with rfl | hy
      · exact hid
      · exact old y (List.mem_of_mem_drop hy)
  · rcases hk with hk | hk | hk | ⟨e2, he2, hk⟩ | hk
    · exact .inl (.inl hk)
    · exact .inl (.inr (.inl hk))
    · exact .inl (.inr (.inr (.inl hk)))
    · rcases List.mem_append.1 he2 with h2 | h2
      · exact .inl (.inr (.inr (.inr (.inl ⟨e2, List.mem_of_mem_take h2, hk⟩))))
      · rcases List.mem_cons.1 h2 with rfl | h2
        · rcases hk with hk | hk
          · exact .inr (Nat.le_of_eq hk.symm)
          · cases hk
        · exact .inl (.inr (.inr (.inr (.inl ⟨e2, List.mem_of_mem_drop h2, hk⟩))))
    · exact .inl (.inr (.inr (.inr (.inr hk))))
/-- A query is closed. -/
theorem StI.goneQ (h : StI base g i W b hq hs nq ns Q S) {n : Int} (hm : MapB W' hq nq ((Q.map qPair).filter fun x => x.1 != n)) (hg : W.grownBy W' (some hq)) (hinv : GInv { b with q := b.q.filter fun x => x.id != n }) :
    PostA base g i (FootA g hq hs Q S) W { b with q := b.q.filter fun x => x.id != n } W' := by
  have ho := OffM.grown1 hg
  have hbq : (b.q.filter fun x => x.id != n) = (Q.filter fun e => e.id != n).map QE.qy := by rw [h.q, List.filter_map]; rfl
  refine ⟨_, ⟨hq, hs, nq, ns, Q.filter fun e => e.id != n, S, ⟨⟨(ho.block _ h.m.blk.lt (fun e => h.gNe.1 e)).trans h.m.blk, ?_, h.m.ms.keep (ho.block _ h.m.ms.lt (fun e => h.m.low.2.2.2 e.symm)), (h.m.q.off (qStays base) ho h.hqQuiet (fun e2 h2 k hk e => (h.m.qne h2 hk).2.1 e)).sub List.filter_sublist,
    h.m.s.off (sStays base) ho h.hqQuiet (fun e2 h2 k hk e => (h.m.sne h2 hk).2.1 e), h.m.low⟩, hbq, h.s, hinv, h.num, fun x hx => h.ids x (List.mem_filter.1 hx).1, Nat.le_trans h.lo ho.size⟩, rfl⟩, ho.more fun k _ e => .inr (.inl e), fun k hk => ?_⟩
  · rw [List.filter_map] at hm
    exact hm
  · rcases hk with hk | hk | hk | ⟨e2, he2, hk⟩ | hk
    · exact .inl (.inl hk)
    · exact .inl (.inr (.inl hk))
    · exact .inl (.inr (.inr (.inl hk)))
    · exact .inl (.inr (.inr (.inr (.inl ⟨e2, (List.mem_filter.1 he2).1, hk⟩))))
    · exact .inl (.inr (.inr (.inr (.inr hk))))
/-- A subscriber goes. -/
theorem StI.goneS (h : StI base g i W b hq hs nq ns Q S) {n : Int} (hm : MapB W' hs ns ((S.map sPair).filter fun x => x.1 != n)) (hg : W.grownBy W' (some hs)) :
    StI base g i W' { b with s := b.s.filter fun s => s.id != n } hq hs nq ns Q (S.filter fun e => e.s.id != n) ∧ Turn (FootA g hq hs Q S) W (FootA g hq hs Q (S.filter fun e => e.s.id != n)) W' := by
  have ho := OffM.grown1 hg
  have hbs : (b.s.filter fun s => s.id != n) = (S.filter fun e => e.s.id != n).map SE.s := by rw [h.s, List.filter_map]; rfl
  refine ⟨⟨⟨(ho.block _ h.m.blk.lt (fun e => h.gNe.2 e)).trans h.m.blk, h.m.mq.keep (ho.block _ h.m.mq.lt (fun e => h.m.low.2.2.2 e)), ?_, h.m.q.off (qStays base) ho h.hsQuiet (fun e2 h2 k hk e => (h.m.qne h2 hk).2.2.1 e),
    (h.m.s.off (sStays base) ho h.hsQuiet (fun e2 h2 k hk e => (h.m.sne h2 hk).2.2.1 e)).sub List.filter_sublist, h.m.low⟩, h.q, hbs, h.inv.subS _, h.num, h.ids, Nat.le_trans h.lo ho.size⟩, ho.more fun k _ e => .inr (.inr (.inl e)), fun k hk => ?_⟩
  · rw [List.filter_map] at hm
    exact hm
  · rcases hk with hk | hk | hk | hk | ⟨e2, he2, hk⟩
    · exact .inl (.inl hk)
    · exact .inl (.inr (.inl hk))
    · exact .inl (.inr (.inr (.inl hk)))
    · exact .inl (.inr (.inr (.inr (.inl hk))))
    · exact .inl (.inr (.inr (.inr (.inr ⟨e2, (List.mem_filter.1 he2).1, hk⟩))))
/-- A subscriber comes. -/
theorem StI.insS (h : StI base g i W b hq hs nq ns Q S) {id frm : Int} (hf : 0 ≤ frm ∧ frm ≤ maxG) (hq' : ∃ x ∈ b.q, x.id = id) (hl : ¬ 256 ≤ b.s.length) (hi : i + 1 ≤ 10000)
    (hm : MapB W' hs (ns + 1) (S.map sPair ++ [(b.id + 1, W.heap.size)]))
    (hg : (W.alloc (.cells ([.int .i64 (b.id + 1), .int .i64 id, .int .i64 frm, .int .i64 frm] : List Value).toArray 73)).grownBy W' (some hs)) :
    PostA base g (i + 1) (FootA g hq hs Q S) W (addG b id frm).1 (W'.setCell ⟨g, 3, none⟩ (.int .i64 (b.id + 1 + 1))) := by
  have ho := OffM.mapGrown hg
  have hinv := h.inv.add hf hq'
  have e0 : (addG b id frm).1 = { b with s := b.s ++ [⟨b.id + 1, id, frm, frm⟩], id := b.id + 1 } := by unfold addG; rw [if_neg hl]
  rw [e0] at hinv ⊢
  have hlt : W.heap.size < (W.alloc (.cells ([.int .i64 (b.id + 1), .int .i64 id, .int .i64 frm, .int .i64 frm] : List Value).toArray 73)).heap.size := by rw [World.size_alloc]; omega
  have hhs := h.m.ms.lt
  have hgl := h.m.blk.lt
  have hnew : Blk W' W.heap.size 73 [.int .i64 (b.id + 1), .int .i64 id, .int .i64 frm, .int .i64 frm] := (hg.block _ hlt (fun e => by have := Option.some.inj e; omega)).trans (Blk.new W _ _)
  have hgb : Blk W' g 55 [.int .i64 b.room, .map (some hq), .map (some hs), .int .i64 (b.id + 1)] := (ho.block _ hgl (fun e => h.gNe.2 e)).trans h.m.blk
  have ho2 : OffM (fun k => k = hs ∨ k = g) W (W'.setCell ⟨g, 3, none⟩ (.int .i64 (b.id + 1 + 1))) := (ho.more fun k _ e => .inl e).trans (OffM.cell1 W' g 3 _) (fun k _ e => .inr e)
  have hqt : Quiet base W (fun k => k = hs ∨ k = g) := fun k hk hl => by
    rcases hk with rfl | rfl
    · exact h.m.quiet _ (.inr (.inr (.inl rfl))) hl
    · exact h.m.quiet _ (.inl rfl) hl
  refine ⟨_, ⟨hq, hs, nq, ns + 1, Q, S ++ [⟨⟨b.id + 1, id, frm, frm⟩, W.heap.size⟩], ⟨⟨hgb.set_ 3 _, h.m.mq.keep (ho2.block _ h.m.mq.lt (fun e => e.elim (fun e => h.m.low.2.2.2 e) (fun e => h.gNe.1 e.symm))), ?_, h.m.q.off (qStays base) ho2 hqt (fun e2 h2 k hk e => e.elim (fun e => (h.m.qne h2 hk).2.2.1 e) (fun e => (h.m.qne h2 hk).1 e)),
    ?_, h.m.low⟩, h.q, ?_, hinv, ?_, h.ids, Nat.le_trans h.lo ho2.size⟩, rfl⟩, ho2.more fun k _ e => e.elim (fun e => .inr (.inr (.inl e))) .inl, fun k hk => ?_⟩
  · rw [List.map_append]
    exact hm.keep (Below.heap_setCell _ _ _ _ (fun e => h.gNe.2 e.symm))
  · have h2 := h.m.s.ins (sStays base) S.length (e' := ⟨⟨b.id + 1, id, frm, frm⟩, W.heap.size⟩) ho2 hqt (fun e2 h2 k hk e => e.elim (fun e => (h.m.sne h2 hk).2.2.1 e) (fun e => (h.m.sne h2 hk).1 e)) ⟨hnew.far (p := ⟨g, 3, none⟩) (fun e => by have e' : W.heap.size = g := e; omega) _, h.lo⟩ (fun k hk => Nat.le_of_eq hk.symm)
    rw [List.take_length, List.drop_length] at h2
    exact h2
  · rw [List.map_append, ← h.s]; rfl
  · have h9 := h.num
    exact ⟨by omega, by omega, by show b.id + 1 ≤ _; omega, hi⟩
  · rcases hk with hk | hk | hk | hk | ⟨e2, he2, hk⟩
    · exact .inl (.inl hk)
    · exact .inl (.inr (.inl hk))
    · exact .inl (.inr (.inr (.inl hk)))
    · exact .inl (.inr (.inr (.inr (.inl hk))))
    · rcases List.mem_append.1 he2 with h2 | h2
      · exact .inl (.inr (.inr (.inr (.inr ⟨e2, h2, hk⟩))))
      · simp at h2; subst h2
        exact .inr (Nat.le_of_eq hk.symm)
end
end Go.Proofs.YtfmolimnnheaoaaGreat
