/- wire: a number's bytes, bytes behind one another, texts. -/
import Derived.Test.YtkheeiipkdeihaaSrg
import Derived.Test.YtkheeiipkdeihaaBts
import Derived.Test.YtkheeiipkdeihaaNt0
import Derived.Lib.AppendZerosOnto
import Derived.Lib.SliceRun
import Derived.IntWalk
namespace Go.Proofs.Ytkheeiipkdeihaa
open Go.RowKit
set_option linter.unusedSimpArgs false
set_option linter.unusedVariables false

theorem ownB_new (w : World) (l : List UInt8) (xs : Array Value) (n : Nat) (hx : xs = (bc l).toArray) (hn : n = l.length) (hm : l.length ≤ maxLen) : OwnB w.heap.size (w.alloc (.cells xs 5)) (.slice (some ⟨w.heap.size, 0, none⟩) n n) l := by
  subst hx hn
  exact ⟨by simp [bc], .inr ⟨w.heap.size, l.length, (bc l).toArray, rfl, Nat.le_refl _, World.alloc_heap_new w _, Nat.le_refl _, hm, by simp [bc], by rw [List.take_of_length_le (by simp [bc])]⟩⟩
theorem ownB_add {base : Nat} {w : World} {v : Value} {q d : List UInt8} {m : Nat} (hm : d.length = m) (h : w.ownsRow base 5 1 v (q.length + m) (bc q ++ bc d)) : OwnB base w v (q ++ d) := by
  subst hm
  unfold OwnB
  rw [List.length_append, show bc (q ++ d) = bc q ++ bc d by simp [bc]]; exact h
theorem OwnB.keep {base : Nat} {w w' : World} {v : Value} {l : List UInt8} (h : OwnB base w v l) (hb : Below w.heap.size w w') : OwnB base w' v l := ownsRow_keep h hb
/-- A slice of bytes. -/
def IsB (n : Nat) (w : World) (v : Value) (l : List UInt8) : Prop := Arr n w v 1 (l.map fun b => [.int .u8 (b.toNat : Int)])
theorem IsB.mono {n m : Nat} {w w' : World} {v : Value} {l : List UInt8} (h : IsB n w v l) (hb : Below n w w') (hm : n ≤ m) : IsB m w' v l := Arr.mono h hb hm
theorem IsB.open {n : Nat} {w : World} {v : Value} {l : List UInt8} (h : IsB n w v l) : ∃ p cap, v = .slice p l.length cap ∧ l.length ≤ cap ∧ cap ≤ maxLen := by
  obtain ⟨p, cap, hv, h1, h2, _⟩ := h
  simp only [List.length_map] at hv h1
  exact ⟨p, cap, hv, h1, h2⟩
theorem bc_flat (l : List UInt8) : (l.map fun b => [Value.int .u8 (b.toNat : Int)]).flatten = bc l := by
  induction l with
  | nil => rfl
  | cons x l ih => rw [List.map_cons, List.flatten_cons, ih]; rfl
theorem IsB.src {n : Nat} {w : World} {v : Value} {l : List UInt8} (h : IsB n w v l) : SrcN w v 1 l.length (bc l) := by
  obtain ⟨p, cap, rfl, -, -⟩ := h.open
  have h1 : Arr n w (.slice p (l.map fun b => [Value.int .u8 (b.toNat : Int)]).length cap) 1 (l.map fun b => [Value.int .u8 (b.toNat : Int)]) := by rw [List.length_map]; exact h
  have := SrcN.of_arr h1 (by intro r hr; obtain ⟨x, _, rfl⟩ := List.mem_map.1 hr; rfl) (by decide)
  rw [List.length_map, bc_flat] at this
  exact this
theorem IsB.nil (n : Nat) (w : World) : IsB n w (.slice none 0 0) [] := Arr.nil _ _ _
theorem OwnB.isB {base : Nat} {w : World} {v : Value} {l : List UInt8} (h : OwnB base w v l) : IsB w.heap.size w v l := by
  rcases h.2 with ⟨rfl, h0⟩ | ⟨g, cap, cur, rfl, hg, hh, hc1, hc2, hc3, hc4⟩
  · have : l = [] := List.eq_nil_of_length_eq_zero h0
    subst this
    exact IsB.nil _ _
  · refine ⟨_, cap, by rw [List.length_map], by simpa using hc1, hc2, fun _ => ⟨g, 0, rfl, (Array.getElem?_eq_some_iff.1 hh).1, fun k r hr j x hx => ?_⟩⟩
    rw [List.getElem?_map] at hr
    cases hk : l[k]? with
    | none => rw [hk] at hr; cases hr
    | some b =>
      rw [hk] at hr
      simp only [Option.map_some, Option.some.injEq] at hr
      subst hr
      have hj : j = 0 := by have := (List.getElem?_eq_some_iff.1 hx).1; simpa using this
      subst hj
      simp at hx
      subst hx
      have := World.ownsRow.cells h (g := g) rfl k (.int .u8 (b.toNat : Int)) (by unfold bc; rw [List.getElem?_map, hk]; rfl)
      rw [add_off] at this
      simpa using this
/-- A slice of slices of bytes. -/
def IsBs (n : Nat) (w : World) (v : Value) (ls : List (List UInt8)) : Prop := ∃ vs : List Value, Arr n w v 1 (vs.map fun x => [x]) ∧ vs.length = ls.length ∧ ∀ (k : Nat) (x : Value) (l : List UInt8), vs[k]? = some x → ls[k]? = some l → IsB n w x l
theorem IsBs.mono {n m : Nat} {w w' : World} {v : Value} {ls : List (List UInt8)} (h : IsBs n w v ls) (hb : Below n w w') (hm : n ≤ m) : IsBs m w' v ls := by
  obtain ⟨vs, h1, h2, h3⟩ := h
  exact ⟨vs, h1.mono hb hm, h2, fun k x l a b => (h3 k x l a b).mono hb hm⟩
theorem IsBs.open {n : Nat} {w : World} {v : Value} {ls : List (List UInt8)} (h : IsBs n w v ls) : ∃ p cap, v = .slice p ls.length cap ∧ ls.length ≤ cap ∧ cap ≤ maxLen := by
  obtain ⟨vs, ⟨p, cap, hv, h1, h2, _⟩, hl, _⟩ := h
  rw [List.length_map, hl] at hv h1
  exact ⟨p, cap, hv, h1, h2⟩
theorem IsBs.get {n : Nat} {w : World} {p : Option Addr} {len cap : Nat} {ls : List (List UInt8)} (h : IsBs n w (.slice p len cap) ls) {k : Nat} {l : List UInt8} (hk : ls[k]? = some l) :
    ∃ b off q c, p = some ⟨b, off, none⟩ ∧ b < n ∧ w.cell? ⟨b, off + k, none⟩ = some (.slice q l.length c) ∧ IsB n w (.slice q l.length c) l := by
  obtain ⟨vs, h1, h2, h3⟩ := h
  have hkl := (List.getElem?_eq_some_iff.1 hk).1
  obtain ⟨x, hx⟩ : ∃ x, vs[k]? = some x := ⟨_, List.getElem?_eq_getElem (by omega)⟩
  have hB := h3 k x l hx hk
  obtain ⟨q, c, rfl, -, -⟩ := hB.open
  obtain ⟨b, off, hp, hb, hc⟩ := h1.at k [.slice q l.length c] (by rw [List.getElem?_map, hx]; rfl)
  exact ⟨b, off, q, c, hp, hb, by simpa using hc 0 _ rfl, hB⟩
/-- Rows that lie in a new block. -/
theorem isBs_new {w : World} {vs : List Value} {ls : List (List UInt8)} (hl : vs.length = ls.length) (hm : vs.length ≤ maxLen) (hB : ∀ (k : Nat) (x : Value) (l : List UInt8), vs[k]? = some x → ls[k]? = some l → IsB w.heap.size w x l) :
    IsBs (w.heap.size + 1) (w.alloc (.cells vs.toArray 50)) (.slice (some ⟨w.heap.size, 0, none⟩) vs.length vs.length) ls := by
  refine ⟨vs, ⟨_, vs.length, by rw [List.length_map], by rw [List.length_map]; exact Nat.le_refl _, hm, fun _ => ⟨w.heap.size, 0, rfl, by omega, fun k r hr j x hx => ?_⟩⟩, hl, fun k x l a b => (hB k x l a b).mono ((Below.refl _ _).alloc (Nat.le_refl _) _) (by omega)⟩
  rw [List.getElem?_map] at hr
  cases hk : vs[k]? with
  | none => rw [hk] at hr; cases hr
  | some y =>
    rw [hk] at hr
    simp only [Option.map_some, Option.some.injEq] at hr
    subst hr
    have hj : j = 0 := by have := (List.getElem?_eq_some_iff.1 hx).1; simpa using this
    subst hj
    simp at hx
    subst hx
    rw [World.cell?_alloc_new]
    simpa using hk
set_option maxRecDepth 100000 in
set_option maxHeartbeats 2000000 in
theorem wGroups {n : Nat} (h0 : 1 ≤ n) (h1 : n ≤ 255) (W : World) : Calls Try.prog 58 #[.int .u64 n] W fun e w' => ∃ v, e = .returned v ∧ OwnB W.heap.size w' v [UInt8.ofNat n] ∧ Below W.heap.size W w' := by
  obtain ⟨i0, hi, hz0, hz1, hz2⟩ := info_parts infoB
  go_enter Try.func58, Try.ntmps58; (try simp only [List.append_eq, List.cons_append, List.nil_append])
  go_wp2
  go_loopw [0, 3] (fun x v wr => (x = .int .u64 n ∧ v = .slice none 0 0 ∧ wr = W) ∨ (x = .int .u64 0 ∧ OwnB W.heap.size wr v [UInt8.ofNat n] ∧ Below W.heap.size W wr)) (fun x _ _ => (intOf x).toNat)
  case atStart => exact .inl ⟨rfl, rfl, rfl⟩
  case round =>
    rcases hrel with ⟨rfl, rfl, rfl⟩ | ⟨rfl, hown, hb⟩
    · have hk0 : (0 : Int) < (n : Int) := by omega
      have hnt : ((UInt8.ofNat n).toNat : Int) = (n : Int) := by rw [UInt8.toNat_ofNat']; omega
      have hwr : IntKind.u8.wrap (n : Int) = (n : Int) := by unfold IntKind.wrap; simp [IntKind.bits, IntKind.signed]; omega
      have HNT := Lib.hid hnt
      clear hnt
      go_wp2_with (at_builtin; refine wpList_append_src _ rfl _ _ _ rfl wr.heap.size 5 i0 _ 1 1 Try.underlying50 hi hz0 hz1 hz2 rfl (by decide) (.slice none 0 0) 0 [] rfl (World.ownsRow_nil _ _ _ _) _ 1 (bc [UInt8.ofNat n]) rfl (.inr ⟨_, 1, rfl, rfl, by unfold bc; rw [List.map_cons, List.map_nil, HNT.out]; exact one_new _ _ _⟩) (bc_one _) (by decide) (by decide) (by simp) ?_; intro v3 w3 hown3 hgr3 _; have hb3 : Below wr.heap.size wr w3 := ((Below.refl _ _).alloc (Nat.le_refl _) _).grown hgr3 (by simp) (by simp [Value.ownBlock]); have HO3 := Lib.hid hown3; have HB3 := Lib.hid hb3; clear hown3 hgr3 hb3)
      have hdv : (n : Int) / 256 = 0 := by omega
      rw [hdv]
      exact ⟨.inr ⟨rfl, HO3.out, HB3.out⟩, by simp [intOf]; omega⟩
    · have HO := Lib.hid hown; have HB := Lib.hid hb
      clear hown hb
      go_wp2
      go_ret
      exact ⟨_, rfl, HO.out, HB.out⟩
set_option maxRecDepth 100000 in
set_option maxHeartbeats 2000000 in
theorem sGrow {n : Nat} (hn : n ≤ 1000000) (W : World) : Calls Try.prog 83 #[.slice none 0 0, .int .i64 n] W fun e w' => ∃ v, e = .returned v ∧ OwnB W.heap.size w' v [] ∧ Below W.heap.size W w' := by
  obtain ⟨i0, hi, hz0, hz1, hz2⟩ := info_parts infoB
  by_cases h0 : n = 0
  · subst h0
    go_enter Try.func83, Try.ntmps83; (try simp only [List.append_eq, List.cons_append, List.nil_append])
    go_wp2
    go_ret
    exact ⟨_, rfl, World.ownsRow_nil _ _ _ _, Below.refl _ _⟩
  · have hp : (0 : Int) < (n : Int) := by omega
    have hneg : ¬ ((n : Int) < 0) := by omega
    have hw : IntKind.i64.wrap ((n : Int) - 0) = (n : Int) := by rw [IntWalk.i64_in _ (by omega)]; omega
    have hw0 : IntKind.i64.wrap (n : Int) = (n : Int) := IntWalk.i64_in _ (by omega)
    have hfc : (Builtin.firstCells i0.size 0 (.slice none 0 0)).run Try.prog W.drew = .ok (#[] : Array Value) W.drew := run_firstCells_none W.drew i0.size 0 0 0
    have hfit := growslice_fits (need := n) (old := 0) (bytes := 1) (by omega) (by omega)
    have hap := Lib.run_append_grow_zeros (P := Try.prog) W 50 3 50 5 i0 (.int .u8 0) .i64 .i64 Try.underlying50 Try.underlying3 hi hz0 none 0 0 [] (by simpa using hfc) n (by omega) (by rw [hz1]; decide) (by omega) (by omega) (by rw [hz2]; omega) (by rw [hz2, Nat.zero_add]; exact hfit)
    rw [Nat.zero_add] at hap
    have hge := grownCap_ge W n 0 5
    have hgm := grownCap_le_maxLen W n 0 5 (by unfold maxLen; omega)
    obtain ⟨G, hG⟩ : ∃ G, grownCap W n 0 5 = G := ⟨_, rfl⟩
    rw [hG] at hap hge hgm
    obtain ⟨cur, hcur⟩ : ∃ c, #[] ++ Builtin.zeroCells (Value.int .u8 0).cells n ++ Builtin.zeroCells (Value.int .u8 0).cells (G - n) = c := ⟨_, rfl⟩
    have hcs : cur.size = G * 1 := by rw [← hcur]; simp [size_zeroCells, Value.cells]; omega
    simp only [List.toArray] at hap
    have hap2 : (Builtin.append_ #[50, 3] 50 #[.slice none 0 0, .int .i64 (n : Int)]).run Try.prog W = .ok (.slice (some ⟨W.heap.size, 0, none⟩) n G) (W.drew.alloc (.cells cur 5)) := by rw [hap, ← hcur]
    have HAP := Lib.hid hap2
    have HCS := Lib.hid hcs
    clear hap hap2 hcur hfc hG hcs hfit
    unfold maxLen at hgm
    go_enter Try.func83, Try.ntmps83; (try simp only [List.append_eq, List.cons_append, List.nil_append])
    go_wp2_with (at_builtin; refine wpList_append_run rfl _ _ _ _ rfl _ _ _ _ rfl rfl HAP.out ?_)
    go_ret
    refine ⟨_, rfl, ⟨rfl, .inr ⟨W.heap.size, G, cur, rfl, Nat.le_refl _, World.alloc_heap_new W.drew _, Nat.zero_le _, by unfold maxLen; omega, HCS.out, by simp [bc]⟩⟩, (Below.refl _ _).drew.alloc (Nat.le_refl _) _⟩
theorem flat_take {ls : List (List UInt8)} {k : Nat} {l : List UInt8} (h : ls[k]? = some l) : (ls.take (k + 1)).flatten = (ls.take k).flatten ++ l := by
  rw [List.take_add_one, h, List.flatten_append]
  simp
theorem flat_le (ls : List (List UInt8)) (k : Nat) : (ls.take k).flatten.length ≤ ls.flatten.length := by
  have h := congrArg List.length (congrArg List.flatten (List.take_append_drop k ls))
  rw [List.flatten_append, List.length_append] at h
  omega
set_option maxRecDepth 100000 in
set_option maxHeartbeats 8000000 in
theorem sConcat {ls : List (List UInt8)} {v : Value} {n : Nat} {W : World} (hn : n ≤ W.heap.size) (h : IsBs n W v ls) (ht : ls.flatten.length ≤ 1000000) :
    Calls Try.prog 70 #[v] W fun e w' => ∃ v', e = .returned v' ∧ OwnB W.heap.size w' v' ls.flatten ∧ Below W.heap.size W w' := by
  obtain ⟨i0, hi, hz0, hz1, hz2⟩ := info_parts infoB
  obtain ⟨p, cap, rfl, hc1, hc2⟩ := h.open
  unfold maxLen at hc2
  have HH := Lib.hid h; have HN := Lib.hid hn; have HT := Lib.hid ht
  clear h hn ht
  obtain ⟨N, hN⟩ : ∃ z, ls.length = z := ⟨_, rfl⟩
  rw [hN] at HH hc1 ⊢
  have HNL := Lib.hid hN
  clear hN
  have hN2 : (N : Int) ≤ 9223372036854775807 := by omega
  go_enter Try.func70, Try.ntmps70; (try simp only [List.append_eq, List.cons_append, List.nil_append])
  go_wp2
  go_loopw [3, 11] (fun t j wr => ∃ k : Nat, k ≤ N ∧ j = .int .i64 k ∧ t = .int .i64 ((ls.take k).flatten.length : Nat) ∧ wr = W) (fun _ j _ => N - (intOf j).toNat)
  case atStart => exact ⟨0, Nat.zero_le _, rfl, by simp, rfl⟩
  case round =>
    obtain ⟨k, hk, rfl, rfl, hw⟩ := hrel
    subst hw
    obtain ⟨m, hm⟩ : ∃ z, (ls.take k).flatten.length = z := ⟨_, rfl⟩
    have hmt : m ≤ 1000000 := by have := flat_le ls k; have := HT.out; omega
    rw [hm]
    have HM := Lib.hid hm
    clear hm
    by_cases hlt : k < N
    · have hki : (k : Int) < (N : Int) := by omega
      obtain ⟨l, hl⟩ : ∃ l, ls[k]? = some l := ⟨_, List.getElem?_eq_getElem (by have := HNL.out; omega)⟩
      obtain ⟨b1, o1, q1, c1, rfl, hb1, d0, -⟩ := HH.out.get hl
      have hb1w : b1 < wr.heap.size := by have := HN.out; omega
      have hfl := flat_take hl
      have hle := flat_le ls (k + 1)
      rw [hfl, List.length_append, HM.out] at hle
      have hlm : m + l.length ≤ 1000000 := by have := HT.out; omega
      have HF := Lib.hid (show ((ls.take (k + 1)).flatten.length : Nat) = m + l.length by rw [hfl, List.length_append, HM.out])
      obtain ⟨c, hc⟩ : ∃ z, l.length = z := ⟨_, rfl⟩
      rw [hc] at d0 hlm HF
      clear hl hfl hle hc
      have hneg : ¬ ((m : Int) + (c : Int) < 0) := by omega
      go_wp2
      exact ⟨⟨k + 1, by omega, by go_num, by rw [HF.out]; go_num, trivial⟩, by simp [intOf]; omega⟩
    · have hkN : k = N := by omega
      subst hkN
      have hki : ¬ ((k : Int) < (k : Int)) := by omega
      have HE := Lib.hid (show ls.flatten.length = m by have h := HM.out; rwa [List.take_of_length_le (by rw [HNL.out]; exact Nat.le_refl _)] at h)
      obtain ⟨X, rfl⟩ : ∃ z, z = wr := ⟨_, rfl⟩
      go_wp2_with fail
      refine (sGrow (n := m) hmt X).mono ?_
      rintro e w1 ⟨v1, rfl, hown, hb⟩
      obtain ⟨a1, c1, rfl⟩ := ownB_slice hown
      have HO := Lib.hid hown; have HB := Lib.hid hb
      clear hown hb
      obtain ⟨N, rfl⟩ : ∃ z, z = k := ⟨_, rfl⟩
      go_wp2
      go_loopw [6, 27] (fun v j wx => ∃ k : Nat, k ≤ N ∧ j = .int .i64 k ∧ OwnB X.heap.size wx v (ls.take k).flatten ∧ Below X.heap.size X wx) (fun _ j _ => N - (intOf j).toNat)
      case atStart => exact ⟨0, Nat.zero_le _, rfl, HO.out, HB.out⟩
      case round =>
        obtain ⟨k, hk, rfl, hown, hb⟩ := hrel
        obtain ⟨q, hq⟩ : ∃ z, (ls.take k).flatten = z := ⟨_, rfl⟩
        rw [hq] at hown
        have HQ := Lib.hid hq
        clear hq
        obtain ⟨a2, c2, rfl⟩ := ownB_slice hown
        have HO2 := Lib.hid hown; have HB2 := Lib.hid hb
        clear hown hb HO HB
        by_cases hlt : k < N
        · have hki : (k : Int) < (N : Int) := by omega
          obtain ⟨l, hl⟩ : ∃ l, ls[k]? = some l := ⟨_, List.getElem?_eq_getElem (by have := HNL.out; omega)⟩
          obtain ⟨b1, o1, q1, c1, rfl, hb1, d0, hB⟩ := (HH.out.mono (HB2.out.mono HN.out) (Nat.le_refl _)).get hl
          have hb1w := Nat.lt_of_lt_of_le (Nat.lt_of_lt_of_le hb1 HN.out) HB2.out.size
          have hfl := flat_take hl
          have hle := flat_le ls (k + 1)
          rw [HQ.out] at hfl
          rw [hfl, List.length_append] at hle
          have hlm : q.length + l.length ≤ 1000000 := by have := HT.out; omega
          have HSRC := Lib.hid hB.src
          have HF := Lib.hid hfl
          clear hl hfl hle hB
          go_wp2_with (at_builtin; refine wpList_append_srcN _ rfl _ _ _ rfl X.heap.size 5 i0 _ 1 1 Try.underlying50 hi hz0 hz1 hz2 rfl (by decide) _ q.length (bc q) rfl HO2.out _ l.length (bc l) rfl HSRC.out (bc_one _) (by unfold maxLen; omega) (by omega) HB2.out.size ?_; intro v3 w3 hown3 hgr3 _; have HB3 := Lib.hid (below_app HB2.out HO2.out hgr3 (Nat.le_refl _) HB2.out.size); have HO3 := Lib.hid (ownB_add rfl hown3); clear hown3 hgr3)
          exact ⟨⟨k + 1, by omega, by go_num, by rw [HF.out]; exact HO3.out, HB3.out⟩, by simp [intOf]; omega⟩
        · have hkN : k = N := by omega
          subst hkN
          have hki : ¬ ((k : Int) < (k : Int)) := by omega
          have HE2 := Lib.hid (show q = ls.flatten from by rw [← HQ.out, List.take_of_length_le (by rw [HNL.out]; exact Nat.le_refl _)])
          go_wp2
          go_ret
          exact ⟨_, rfl, by rw [← HE2.out]; exact HO2.out, HB2.out⟩
end Go.Proofs.Ytkheeiipkdeihaa
