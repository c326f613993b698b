/- wire.put, Number, Text; label.Key; sample.CheckSeries, Key. -/
import Derived.Test.YtkheeiipkdeihaaNt1
import Derived.Test.YtkheeiipkdeihaaLa2
import Derived.Test.YtkheeiipkdeihaaStl
import Derived.Lib.ConvBytes
namespace Go.Proofs.Ytkheeiipkdeihaa
open Go.RowKit
set_option linter.unusedSimpArgs false
set_option linter.unusedVariables false

theorem infoBB : (Try.prog.info? 50).map (fun i => (i.zero, i.size, i.bytes)) = some (some (.slice none 0 0), 1, 24) := by kernel_rfl
theorem own_isBs {base n : Nat} {w w0 : World} {v : Value} {vs : List Value} {ls : List (List UInt8)} (h : w.ownsRow base 50 1 v vs.length vs) (hl : vs.length = ls.length) (hB : ∀ (k : Nat) (x : Value) (l : List UInt8), vs[k]? = some x → ls[k]? = some l → IsB n w0 x l) (hb : Below n w0 w) (hn : n ≤ w.heap.size) : IsBs w.heap.size w v ls := by
  refine ⟨vs, ?_, hl, fun k x l a b => (hB k x l a b).mono hb hn⟩
  rcases h.2 with ⟨rfl, h0⟩ | ⟨g, cap, cur, rfl, hg, hh, hc1, hc2, hc3, hc4⟩
  · have : vs = [] := List.eq_nil_of_length_eq_zero h0
    subst this
    exact Arr.nil _ _ _
  · refine ⟨_, cap, by rw [List.length_map], by simpa using hc1, hc2, fun _ => ⟨g, 0, rfl, (Array.getElem?_eq_some_iff.1 hh).1, fun k r hr j x hx => ?_⟩⟩
    rw [List.getElem?_map] at hr
    cases hk : vs[k]? with
    | none => rw [hk] at hr; cases hr
    | some y =>
      rw [hk] at hr
      simp only [Option.map_some, Option.some.injEq] at hr
      subst hr
      have hj : j = 0 := by have := (List.getElem?_eq_some_iff.1 hx).1; simpa using this
      subst hj
      simp at hx
      subst hx
      have := World.ownsRow.cells h (g := g) rfl k y hk
      rw [add_off] at this
      simpa using this
theorem flat_ones (vs : List Value) : (vs.map fun x => [x]).flatten = vs := by
  induction vs with
  | nil => rfl
  | cons x vs ih => rw [List.map_cons, List.flatten_cons, ih]; rfl
theorem isB_one {n : Nat} {w : World} {v : Value} {l : List UInt8} (h : IsB n w v l) : v.oneCell' = true := by
  obtain ⟨p, c, rfl, -, -⟩ := h.open
  rfl
set_option maxRecDepth 100000 in
set_option maxHeartbeats 4000000 in
theorem wPut {b : List UInt8} {ls : List (List UInt8)} {vb vl : Value} {n : Nat} {W : World} (hn : n ≤ W.heap.size) (hb : IsB n W vb b) (hl : IsBs n W vl ls) (ht : b.length + ls.flatten.length ≤ 1000000) (hls : ls.length ≤ 1000) :
    Calls Try.prog 59 #[vb, vl] W fun e w' => ∃ v', e = .returned v' ∧ OwnB W.heap.size w' v' (b ++ ls.flatten) ∧ Below W.heap.size W w' := by
  obtain ⟨j0, hj, hz0, hz1, hz2⟩ := info_parts infoBB
  obtain ⟨p, cap, rfl, hc1, hc2⟩ := hl.open
  obtain ⟨pb, cb, hvb, -, -⟩ := hb.open
  obtain ⟨lb, hlb⟩ : ∃ z, b.length = z := ⟨_, rfl⟩
  rw [hlb] at hvb
  subst hvb
  obtain ⟨vs, hA, hvl, hvB⟩ := id hl
  have hsrc : SrcN W (.slice p ls.length cap) 1 ls.length vs := by
    have h1 : Arr n W (.slice p (vs.map fun x => [x]).length cap) 1 (vs.map fun x => [x]) := by rw [List.length_map, hvl]; exact hA
    have := SrcN.of_arr h1 (by intro r hr; obtain ⟨x, _, rfl⟩ := List.mem_map.1 hr; rfl) (by decide)
    rw [List.length_map, hvl] at this
    rw [flat_ones] at this
    exact this
  have h1 : ∀ u ∈ vs, u.oneCell' = true := fun u hu => by
    obtain ⟨k, hk, rfl⟩ := List.getElem_of_mem hu
    exact isB_one (hvB k _ (ls[k]'(by omega)) (by simp) (by simp))
  have hnew : (W.alloc (.cells #[.slice pb lb cb] 50)).ownsRow W.heap.size 50 1 (.slice (some ⟨W.heap.size, 0, none⟩) 1 1) 1 [.slice pb lb cb] := ⟨rfl, .inr ⟨W.heap.size, 1, #[.slice pb lb cb], rfl, Nat.le_refl _, World.alloc_heap_new W _, Nat.le_refl _, by decide, rfl, rfl⟩⟩
  have HS := Lib.hid hsrc; have H1 := Lib.hid h1; have HNEW := Lib.hid hnew; have HN := Lib.hid hn
  have HFIN := Lib.hid (show ∀ v w, w.ownsRow W.heap.size 50 1 v (1 + ls.length) ([.slice pb lb cb] ++ vs) → Below W.heap.size W w → IsBs w.heap.size w v (b :: ls) from fun v w ho hbw => by
    have el : 1 + ls.length = (([.slice pb lb cb] : List Value) ++ vs).length := by rw [List.length_append, hvl]; simp
    rw [el] at ho
    refine own_isBs (n := n) (w0 := W) ho (by simp [hvl]) (fun k x l e1 e2 => ?_) (hbw.mono hn) (Nat.le_trans hn hbw.size)
    cases k with
    | zero => simp at e1 e2; subst e1 e2; exact hb
    | succ k => simp at e1 e2; exact hvB k x l e1 e2)
  have HT := Lib.hid (show (b :: ls).flatten.length ≤ 1000000 by rw [List.flatten_cons, List.length_append]; exact ht)
  clear hsrc h1 hnew hn hb hl ht hA hvl hvB
  go_enter Try.func59, Try.ntmps59; (try simp only [List.append_eq, List.cons_append, List.nil_append])
  go_wp2_with (at_builtin; refine wpList_append_srcN _ rfl _ _ _ rfl W.heap.size 50 j0 _ 1 24 Try.underlying111 hj hz0 hz1 hz2 rfl (by decide) _ 1 [.slice pb lb cb] rfl HNEW.out _ ls.length vs rfl (HS.out.below ((Below.refl _ _).alloc (Nat.le_refl _) _)) H1.out (by unfold maxLen; omega) (by omega) (by simp) ?_; intro v3 w3 hown3 hgr3 _; have hb3 : Below W.heap.size W w3 := below_app ((Below.refl _ _).alloc (Nat.le_refl _) _) HNEW.out hgr3 (Nat.le_refl _) (by simp); have HB3 := Lib.hid hb3; have HI := Lib.hid (HFIN.out _ _ hown3 hb3); clear hown3 hgr3 hb3)
  refine (sConcat (Nat.le_refl _) HI.out HT.out).mono ?_
  rintro e w4 ⟨v4, rfl, hown, hb4⟩
  have HO := Lib.hid (show OwnB W.heap.size w4 v4 (b ++ ls.flatten) from ownsRow_base hown HB3.out.size); have HB4 := Lib.hid (HB3.out.trans (hb4.mono HB3.out.size))
  clear hown hb4
  go_wp2
  go_ret
  exact ⟨_, rfl, HO.out, HB4.out⟩
set_option maxRecDepth 100000 in
set_option maxHeartbeats 4000000 in
theorem wNumber {b : List UInt8} {vb : Value} {n x : Nat} {W : World} (hn : n ≤ W.heap.size) (hb : IsB n W vb b) (h0 : 1 ≤ x) (h1 : x ≤ 255) (ht : b.length ≤ 900000) :
    Calls Try.prog 35 #[vb, .int .u64 x] W fun e w' => ∃ v', e = .returned v' ∧ OwnB W.heap.size w' v' (b ++ [1, UInt8.ofNat x]) ∧ Below W.heap.size W w' := by
  obtain ⟨pb, cb, hvb, -, -⟩ := hb.open
  obtain ⟨lb, hlb⟩ : ∃ z, b.length = z := ⟨_, rfl⟩
  rw [hlb] at hvb
  subst hvb
  have HB := Lib.hid hb; have HN := Lib.hid hn; have HT := Lib.hid ht
  clear hb hn ht hlb
  go_enter Try.func35, Try.ntmps35; (try simp only [List.append_eq, List.cons_append, List.nil_append])
  go_wp2_with fail
  refine (wGroups h0 h1 W).mono ?_
  rintro e w1 ⟨v1, rfl, hown, hb1⟩
  obtain ⟨a1, c1, rfl⟩ := ownB_slice hown
  simp only [List.length_singleton] at hown ⊢
  have HO := Lib.hid hown; have HB1 := Lib.hid hb1
  clear hown hb1
  go_wp2_with fail
  have hr1 : Below w1.heap.size w1 (w1.alloc (.cells #[.int .u8 1] 5)) := (Below.refl _ _).alloc (Nat.le_refl _) _
  obtain ⟨g, hg⟩ : ∃ z, w1.heap.size = z := ⟨_, rfl⟩
  have hnb := ownB_new w1 [1] #[.int .u8 1] 1 rfl rfl (by decide)
  obtain ⟨w2, hw2⟩ : ∃ z, w1.alloc (.cells #[.int .u8 1] 5) = z := ⟨_, rfl⟩
  have hs2 : w2.heap.size = w1.heap.size + 1 := by rw [← hw2]; exact World.size_alloc _ _
  rw [hw2] at hr1 hnb ⊢
  rw [← hs2]
  have hv2 : IsBs (w2.heap.size + 1) (w2.alloc (.cells #[.slice (some ⟨w1.heap.size, 0, none⟩) 1 1, .slice a1 1 c1] 50)) (.slice (some ⟨w2.heap.size, 0, none⟩) 2 2) [[1], [UInt8.ofNat x]] := by
    refine isBs_new (w := w2) (vs := [.slice (some ⟨w1.heap.size, 0, none⟩) 1 1, .slice a1 1 c1]) (ls := [[1], [UInt8.ofNat x]]) rfl (by simp [maxLen]) (fun k y l e1 e2 => ?_)
    match k, e1, e2 with
    | 0, e1, e2 => simp at e1 e2; subst e1 e2; exact hnb.isB
    | 1, e1, e2 => simp at e1 e2; subst e1 e2; exact (HO.out.keep hr1).isB
    | k + 2, e1, e2 => simp at e1
  have hr2 : Below w2.heap.size w2 (w2.alloc (.cells #[.slice (some ⟨w1.heap.size, 0, none⟩) 1 1, .slice a1 1 c1] 50)) := (Below.refl _ _).alloc (Nat.le_refl _) _
  have hbb := hr1.trans (hr2.mono hr1.size)
  have hsz : (w2.alloc (.cells #[.slice (some ⟨w1.heap.size, 0, none⟩) 1 1, .slice a1 1 c1] 50)).heap.size = w2.heap.size + 1 := World.size_alloc _ _
  have hbW := HB1.out.trans (hbb.mono HB1.out.size)
  refine (wPut (n := w2.heap.size + 1) (by rw [hsz]; exact Nat.le_refl _) ((HB.out.mono (hbW.mono HN.out) (Nat.le_refl _)).mono (Below.refl _ _) (by have := hbW.size; have := HN.out; omega)) hv2 (by have := HT.out; simp; omega) (by simp)).mono ?_
  rintro e w4 ⟨v4, rfl, hown, hb4⟩
  have HO4 := Lib.hid (show OwnB W.heap.size w4 v4 (b ++ [1, UInt8.ofNat x]) from ownsRow_base hown hbW.size); have HB4 := Lib.hid (hbW.trans (hb4.mono hbW.size))
  clear hown hb4 hbW hbb hr1 hr2 hsz hv2 hnb hg hw2 hs2
  go_wp2
  go_ret
  exact ⟨_, rfl, HO4.out, HB4.out⟩
theorem conv_below (w : World) (s : ByteArray) : Below w.heap.size w (Lib.bytesWorld w 5 s) := by
  refine ⟨?_, ?_, ?_, by rw [Lib.bytesWorld_size]; omega, fun k hk => Lib.bytesWorld_at_old w _ s k hk⟩ <;> (unfold Lib.bytesWorld World.freeze; split <;> rfl)
theorem conv_isB (w : World) (s : ByteArray) (hs : s.size ≤ 1000000) : IsB (w.heap.size + 1) (Lib.bytesWorld w 5 s) (.slice (some ⟨w.heap.size, 0, none⟩) s.size (grownCap w s.size 0 5)) s.data.toList := by
  have hl : s.data.toList.length = s.size := by simp
  refine ⟨_, grownCap w s.size 0 5, by rw [List.length_map, hl], by rw [List.length_map, hl]; exact grownCap_ge _ _ _ _, grownCap_le_maxLen _ _ _ _ (by unfold maxLen; omega), fun _ => ⟨w.heap.size, 0, rfl, by omega, fun k r hr j x hx => ?_⟩⟩
  rw [List.getElem?_map] at hr
  cases hk : s.data.toList[k]? with
  | none => rw [hk] at hr; cases hr
  | some b =>
    rw [hk] at hr
    simp only [Option.map_some, Option.some.injEq] at hr
    subst hr
    have hj : j = 0 := by have := (List.getElem?_eq_some_iff.1 hx).1; simpa using this
    subst hj
    simp at hx
    subst hx
    have hks : k < s.size := by rw [← hl]; exact (List.getElem?_eq_some_iff.1 hk).1
    have := Lib.bytesWorld_cell w 5 s k hks
    rw [List.getD_eq_getElem?_getD, hk] at this
    simpa using this
set_option maxRecDepth 100000 in
set_option maxHeartbeats 4000000 in
theorem wText {b : List UInt8} {vb : Value} {s : ByteArray} {n : Nat} {W : World} (hn : n ≤ W.heap.size) (hb : IsB n W vb b) (h0 : 1 ≤ s.size) (h1 : s.size ≤ 255) (ht : b.length ≤ 800000) :
    Calls Try.prog 36 #[vb, .string s] W fun e w' => ∃ v', e = .returned (.tuple #[v', .int .i64 0]) ∧ OwnB W.heap.size w' v' (b ++ encT s) ∧ Below W.heap.size W w' := by
  obtain ⟨pb, cb, hvb, -, -⟩ := hb.open
  obtain ⟨lb, hlb⟩ : ∃ z, b.length = z := ⟨_, rfl⟩
  rw [hlb] at hvb
  subst hvb
  have HB := Lib.hid hb; have HN := Lib.hid hn; have HT := Lib.hid ht
  clear hb hn ht hlb
  have hsi : (s.size : Int) ≤ 255 := by omega
  have hwu : IntKind.u64.wrap (s.size : Int) = (s.size : Int) := by unfold IntKind.wrap; simp [IntKind.bits, IntKind.signed]; omega
  go_enter Try.func36, Try.ntmps36; (try simp only [List.append_eq, List.cons_append, List.nil_append])
  go_wp2_with fail
  refine (wNumber (Nat.le_trans HN.out (Nat.le_refl _)) HB.out h0 h1 (by have := HT.out; omega)).mono ?_
  rintro e w1 ⟨v1, rfl, hown, hb1⟩
  obtain ⟨a1, c1, rfl⟩ := ownB_slice hown
  have HO := Lib.hid hown; have HB1 := Lib.hid hb1
  clear hown hb1
  have hcv := Lib.run_convert_string_bytes (P := Try.prog) w1 9 50 5 s Try.underlying9 Try.underlying50 Try.underlying5
  have hcb := conv_below w1 s
  have hci := conv_isB w1 s (by omega)
  have hcs := Lib.bytesWorld_size w1 5 s
  obtain ⟨cc, hcc⟩ : ∃ z, grownCap w1 s.size 0 5 = z := ⟨_, rfl⟩
  obtain ⟨w2, hw2⟩ : ∃ z, Lib.bytesWorld w1 5 s = z := ⟨_, rfl⟩
  rw [hcc] at hcv hci
  rw [hw2] at hcv hcb hci hcs
  obtain ⟨g, hg⟩ : ∃ z, w1.heap.size = z := ⟨_, rfl⟩
  rw [hg] at hcv hci hcs
  have HCB := Lib.hid hcb; have HCI := Lib.hid hci; have HCS := Lib.hid hcs; have HG := Lib.hid hg
  clear hcb hci hcs hw2 hcc hg
  have hlen : (b ++ [1, UInt8.ofNat s.size]).length = b.length + 2 := by simp
  obtain ⟨l1, hl1⟩ : ∃ z, (b ++ [1, UInt8.ofNat s.size]).length = z := ⟨_, rfl⟩
  rw [hl1] at HO ⊢
  have HL1 := Lib.hid hl1
  clear hlen hl1
  go_wp2_with fail
  have hv2 : IsBs (w2.heap.size + 1) (w2.alloc (.cells #[.slice (some ⟨g, 0, none⟩) s.size cc] 50)) (.slice (some ⟨w2.heap.size, 0, none⟩) 1 1) [s.data.toList] := by
    refine isBs_new (w := w2) (vs := [.slice (some ⟨g, 0, none⟩) s.size cc]) (ls := [s.data.toList]) rfl (by simp [maxLen]) (fun k y l e1 e2 => ?_)
    match k, e1, e2 with
    | 0, e1, e2 => simp at e1 e2; subst e1 e2; exact HCI.out.mono (Below.refl _ _) (by rw [HCS.out]; exact Nat.le_refl _)
    | k + 1, e1, e2 => simp at e1
  have hr2 : Below w2.heap.size w2 (w2.alloc (.cells #[.slice (some ⟨g, 0, none⟩) s.size cc] 50)) := (Below.refl _ _).alloc (Nat.le_refl _) _
  have hbb := HCB.out.trans (hr2.mono HCB.out.size)
  have hbW := HB1.out.trans (hbb.mono HB1.out.size)
  have hsz : (w2.alloc (.cells #[.slice (some ⟨g, 0, none⟩) s.size cc] 50)).heap.size = w2.heap.size + 1 := World.size_alloc _ _
  have hO2 := (HO.out.keep hbb).isB
  have hss : s.data.toList.length = s.size := by simp
  refine (wPut (n := w2.heap.size + 1) (b := b ++ [1, UInt8.ofNat s.size]) (by rw [hsz]; exact Nat.le_refl _) (hO2.mono (Below.refl _ _) (by rw [hsz]; exact Nat.le_refl _)) hv2 (by have := HT.out; simp; omega) (by simp)).mono ?_
  rintro e w4 ⟨v4, rfl, hown, hb4⟩
  have he : b ++ [1, UInt8.ofNat s.size] ++ [s.data.toList].flatten = b ++ encT s := by unfold encT; simp
  rw [he] at hown
  have HO4 := Lib.hid (show OwnB W.heap.size w4 v4 (b ++ encT s) from ownsRow_base hown hbW.size); have HB4 := Lib.hid (hbW.trans (hb4.mono hbW.size))
  clear hown hb4 hbW hbb hr2 hsz hv2 hO2 hss he
  go_wp2
  go_ret2
  exact ⟨_, rfl, HO4.out, HB4.out⟩
end Go.Proofs.Ytkheeiipkdeihaa
