/- Series as arguments; kit.Series, kit.LightLabels, law12.light, law12.cpu; a table's Put with what it leaves. -/
import Derived.Test.YtkheeiipkdeihaaNt13
namespace Go.Proofs.Ytkheeiipkdeihaa
open Go.RowKit
set_option linter.unusedSimpArgs false
set_option linter.unusedVariables false
open Go.Maps

/-! ### a list of series in memory -/
def SerRow (n : Nat) (w : World) (s : Sr) (row : List Value) : Prop := ∃ p c, row = [.string s.metric, .slice p s.labs.length c] ∧ IsLabs n w (.slice p s.labs.length c) s.labs ∧ s.metric.size ≤ maxLen
def IsSers (n : Nat) (w : World) (v : Value) (l : List Sr) : Prop := ∃ rows, Arr n w v 2 rows ∧ rows.length = l.length ∧ ∀ (k : Nat) (row : List Value) (s : Sr), rows[k]? = some row → l[k]? = some s → SerRow n w s row
theorem IsSers.mono {n m : Nat} {w w' : World} {v : Value} {l : List Sr} (h : IsSers n w v l) (hb : Below n w w') (hm : n ≤ m) : IsSers m w' v l := by
  obtain ⟨rows, ha, hl, hr⟩ := h
  refine ⟨rows, ha.mono hb hm, hl, fun k row s h1 h2 => ?_⟩
  obtain ⟨p, c, e, hL, hz⟩ := hr k row s h1 h2
  exact ⟨p, c, e, hL.mono hb hm, hz⟩
theorem IsSers.open {n : Nat} {w : World} {v : Value} {l : List Sr} (h : IsSers n w v l) : ∃ p cap, v = .slice p l.length cap ∧ l.length ≤ maxLen := by
  obtain ⟨rows, ⟨p, cap, hv, h1, h2, -⟩, hl, -⟩ := h
  exact ⟨p, cap, by rw [← hl]; exact hv, by omega⟩
theorem IsSers.get {n N : Nat} {w : World} {p : Option Addr} {cap : Nat} {l : List Sr} (h : IsSers n w (.slice p N cap) l) {k : Nat} {s : Sr} (hk : l[k]? = some s) :
    ∃ b off q c, p = some ⟨b, off, none⟩ ∧ b < n ∧ w.cell? ⟨b, off + k * 2, none⟩ = some (.string s.metric) ∧ w.cell? ⟨b, off + k * 2 + 1, none⟩ = some (.slice q s.labs.length c) ∧ IsLabs n w (.slice q s.labs.length c) s.labs ∧ s.metric.size ≤ maxLen := by
  obtain ⟨rows, ha, hl, hr⟩ := h
  have hkl := (List.getElem?_eq_some_iff.1 hk).1
  obtain ⟨row, hrow⟩ : ∃ r, rows[k]? = some r := ⟨_, List.getElem?_eq_getElem (by omega)⟩
  obtain ⟨q, c, e, hL, hz⟩ := hr k row s hrow hk
  subst e
  obtain ⟨b, off, hp, hb, hc⟩ := ha.at k _ hrow
  exact ⟨b, off, q, c, hp, hb, by simpa using hc 0 _ rfl, by simpa using hc 1 _ rfl, hL, hz⟩
def LightR (N : Nat) (e : Ending) : Prop := ∃ r : Bool, e = .returned (.bool r) ∧ (r = true → N ≤ 80)
def AnsB (e : Ending) : Prop := ∃ r : Bool, e = .returned (.bool r)
set_option maxRecDepth 100000 in
set_option maxHeartbeats 4000000 in
theorem kLightLabels {n : Nat} {v : Value} {l : List Lab} {W : World} (hn : n ≤ W.heap.size) (hl : IsLabs n W v l) :
    Calls Try.prog 20 #[v] W fun e w' => AnsB e ∧ w' = W := by
  obtain ⟨p, cap, rfl, h1, h2, -⟩ := hl.open
  have Hl := Lib.hid hl
  unfold maxLen at h2
  obtain ⟨N, hN⟩ : ∃ z, l.length = z := ⟨_, rfl⟩
  rw [hN] at Hl h1 ⊢
  have HNL := Lib.hid hN
  have hlen : (N : Int) ≤ 9223372036854775807 := by omega
  clear hl hN
  go_enter Try.func20, Try.ntmps20; (try simp only [List.append_eq, List.cons_append, List.nil_append])
  go_wp2
  go_loopw [3] (fun j wr => ∃ k : Nat, k ≤ N ∧ k ≤ 31 ∧ j = .int .i64 k ∧ wr = W) (fun j _ => 32 - (intOf j).toNat)
  case atStart => exact ⟨0, Nat.zero_le _, by omega, rfl, rfl⟩
  case round =>
    obtain ⟨k, hk, hk31, rfl, hw⟩ := hrel
    subst hw
    by_cases hlt : k < N ∧ k ≤ 30
    · obtain ⟨h5, h6⟩ := hlt
      have hki : (k : Int) < (N : Int) := by omega
      have hkj : (k : Int) ≤ 30 := by omega
      obtain ⟨b1, o1, rfl, hb1, d0, d1, -, -⟩ := Hl.out.get (k := k) (by have := HNL.out; omega)
      have hw1 : b1 < wr.heap.size := by omega
      go_wp2
      all_goals first
        | exact ⟨⟨k + 1, by omega, by omega, by go_num, rfl⟩, by simp [intOf]; omega⟩
        | exact ⟨⟨k + 1, by omega, by omega, by go_num, trivial⟩, by simp [intOf]; omega⟩
        | (go_ret; exact ⟨⟨_, rfl⟩, rfl⟩)
    · by_cases h5 : k < N
      · have hki : (k : Int) < (N : Int) := by omega
        have hkj : ¬ (k : Int) ≤ 30 := by omega
        go_wp2
        go_ret
        exact ⟨⟨_, rfl⟩, rfl⟩
      · have hki : ¬ (k : Int) < (N : Int) := by omega
        go_wp2
        go_ret
        exact ⟨⟨_, rfl⟩, rfl⟩
set_option maxRecDepth 100000 in
set_option maxHeartbeats 4000000 in
theorem light12 {n : Nat} {v : Value} {l : List Sr} {W : World} (hn : n ≤ W.heap.size) (hl : IsSers n W v l) :
    Calls Try.prog 6 #[v] W fun e w' => LightR l.length e ∧ w' = W := by
  obtain ⟨p, cap, rfl, h2⟩ := hl.open
  have Hl := Lib.hid hl
  unfold maxLen at h2
  obtain ⟨N, hN⟩ : ∃ z, l.length = z := ⟨_, rfl⟩
  rw [hN] at Hl h2 ⊢
  have HNL := Lib.hid hN
  have hlen : (N : Int) ≤ 9223372036854775807 := by omega
  clear hl hN
  go_enter Try.func6, Try.ntmps6; (try simp only [List.append_eq, List.cons_append, List.nil_append])
  go_wp2
  go_loopw [3] (fun j wr => ∃ k : Nat, k ≤ N ∧ k ≤ 81 ∧ j = .int .i64 k ∧ wr = W) (fun j _ => 82 - (intOf j).toNat)
  case atStart => exact ⟨0, Nat.zero_le _, by omega, rfl, rfl⟩
  case round =>
    obtain ⟨k, hk, hk31, rfl, hw⟩ := hrel
    subst hw
    obtain ⟨W, rfl⟩ : ∃ z, z = wr := ⟨_, rfl⟩
    by_cases hlt : k < N ∧ k ≤ 80
    · obtain ⟨h5, h6⟩ := hlt
      have hki : (k : Int) < (N : Int) := by omega
      have hkj : (k : Int) ≤ 80 := by omega
      obtain ⟨s, hs⟩ : ∃ s, l[k]? = some s := ⟨_, List.getElem?_eq_getElem (by have := HNL.out; omega)⟩
      obtain ⟨b1, o1, q, c1, rfl, hb1, d0, d1, hL, hz⟩ := Hl.out.get hs
      have hw1 : b1 < W.heap.size := by omega
      have HL := Lib.hid hL
      obtain ⟨m, hm⟩ : ∃ z, s.metric = z := ⟨_, rfl⟩
      obtain ⟨M, hM⟩ : ∃ z, s.labs.length = z := ⟨_, rfl⟩
      obtain ⟨la, hla⟩ : ∃ z, s.labs = z := ⟨_, rfl⟩
      rw [hM] at d1 HL
      rw [hla] at HL
      rw [hm] at d0 hz
      clear hL hs hM hm hla
      unfold maxLen at hz
      by_cases hm : 300 < (m.size : Int)
      · go_wp2
        go_ret
        exact ⟨⟨_, rfl, fun h => by cases h⟩, rfl⟩
      · go_wp2_with fail
        refine (kLightLabels hn HL.out).mono ?_
        rintro e w1 ⟨⟨r, rfl⟩, rfl⟩
        cases r
        · go_wp2
          go_ret
          exact ⟨⟨_, rfl, fun h => by cases h⟩, rfl⟩
        · go_wp2
          exact ⟨⟨k + 1, by omega, by omega, by go_num, trivial⟩, by simp [intOf]; omega⟩
    · by_cases h5 : k < N
      · have hki : (k : Int) < (N : Int) := by omega
        have hkj : ¬ (k : Int) ≤ 80 := by omega
        have hNk : ¬ (N : Int) ≤ 80 := by omega
        go_wp2
        go_ret
        exact ⟨⟨_, rfl, fun h => by simp at h; try omega⟩, rfl⟩
      · have hki : ¬ (k : Int) < (N : Int) := by omega
        by_cases hNk : (N : Int) ≤ 80
        · go_wp2
          go_ret
          exact ⟨⟨_, rfl, fun _ => by omega⟩, rfl⟩
        · go_wp2
          go_ret
          exact ⟨⟨_, rfl, fun h => by simp at h; try omega⟩, rfl⟩
set_option maxRecDepth 100000 in
set_option maxHeartbeats 4000000 in
theorem kSeries {n : Nat} {W : World} {a b : Sr} {p q : Option Addr} {c d : Nat} (hn : n ≤ W.heap.size) (ha : IsLabs n W (.slice p a.labs.length c) a.labs) (hb : IsLabs n W (.slice q b.labs.length d) b.labs) :
    Calls Try.prog 11 #[.agg #[.string a.metric, .slice p a.labs.length c], .agg #[.string b.metric, .slice q b.labs.length d]] W fun e w' => e = .returned (.bool (decide (a = b))) ∧ Below W.heap.size W w' := by
  obtain ⟨ma, la⟩ := a
  obtain ⟨mb, lb⟩ := b
  simp only at ha hb ⊢
  have HKL := Lib.hid (fun (X : World) (hX : Below W.heap.size W X) => kLabels la lb _ _ n X (Nat.le_trans hn hX.size) (ha.mono (hX.mono hn) (Nat.le_refl _)) (hb.mono (hX.mono hn) (Nat.le_refl _)))
  clear ha hb
  rw [show decide (Sr.mk ma la = Sr.mk mb lb) = (decide (ma = mb) && decide (la = lb)) by simp [Bool.decide_and]]
  obtain ⟨dm, hdm⟩ : ∃ z, decide (ma = mb) = z := ⟨_, rfl⟩
  rw [hdm]
  have HD := Lib.hid hdm.symm
  clear hdm
  obtain ⟨N, hN⟩ : ∃ z, la.length = z := ⟨_, rfl⟩
  obtain ⟨M, hM⟩ : ∃ z, lb.length = z := ⟨_, rfl⟩
  obtain ⟨r, hr⟩ : ∃ z, decide (la = lb) = z := ⟨_, rfl⟩
  rw [hN, hM, hr] at HKL
  rw [hN, hM, hr]
  clear hN hM hr
  go_enter Try.func11, Try.ntmps11; (try simp only [List.append_eq, List.cons_append, List.nil_append])
  go_upto_region 1 with fail
  have k2 := Blk.new W [.string ma, .slice p N c] 33
  have b1 : Below W.heap.size W (W.alloc (.cells #[.string ma, .slice p N c] 33)) := (Below.refl _ _).alloc (Nat.le_refl _) _
  have s1 : (W.alloc (.cells #[.string ma, .slice p N c] 33)).heap.size = W.heap.size + 1 := World.size_alloc _ _
  obtain ⟨w1, hw1⟩ : ∃ z, W.alloc (.cells #[.string ma, .slice p N c] 33) = z := ⟨_, rfl⟩
  rw [show W.alloc (.cells ([.string ma, .slice p N c] : List Value).toArray 33) = w1 from hw1] at k2
  rw [hw1] at b1 s1 ⊢
  have k3 := Blk.new w1 [.string mb, .slice q M d] 33
  have b2 : Below w1.heap.size w1 (w1.alloc (.cells #[.string mb, .slice q M d] 33)) := (Below.refl _ _).alloc (Nat.le_refl _) _
  obtain ⟨Y, hY⟩ : ∃ z, w1.alloc (.cells #[.string mb, .slice q M d] 33) = z := ⟨_, rfl⟩
  rw [show w1.alloc (.cells ([.string mb, .slice q M d] : List Value).toArray 33) = Y from hY] at k3
  rw [hY] at b2 ⊢
  have HK2 := Lib.hid (k2.keep b2)
  have HW := Lib.hid (b1.trans (b2.mono b1.size))
  rw [s1] at k3
  have HK3 := Lib.hid k3
  obtain ⟨B, hB⟩ : ∃ z, W.heap.size = z := ⟨_, rfl⟩
  rw [show (Value.pointer (some ⟨W.heap.size, 0, none⟩)) = .pointer (some ⟨B, 0, none⟩) by rw [hB]]
  rw [show (Value.pointer (some ⟨W.heap.size + 1, 0, none⟩)) = .pointer (some ⟨B + 1, 0, none⟩) by rw [hB]]
  rw [hB] at HK2 HK3
  obtain ⟨B2, hB2⟩ : ∃ z, B + 1 = z := ⟨_, rfl⟩
  rw [hB2] at HK3 ⊢
  clear k2 k3 b1 b2 s1 hw1 hY hB hB2
  have c0 := HK2.out.cell 0 _ rfl; have c1 := HK2.out.cell 1 _ rfl; have cl := HK2.out.lt
  have e0 := HK3.out.cell 0 _ rfl; have e1 := HK3.out.cell 1 _ rfl; have el := HK3.out.lt
  cases hd : decide (ma = mb) with
  | true =>
    have h2 : (ma.toList == mb.toList) = true := by rw [toList_beq]; exact hd
    go_wp2_with (go_at_call 28; refine (HKL.out Y HW.out).mono ?_; rintro e w3 ⟨rfl, hb3⟩; have HW3 := Lib.hid (HW.out.trans (hb3.mono HW.out.size)); clear hb3)
    go_ret
    exact ⟨by rw [show dm = true from HD.out.trans hd]; rfl, HW3.out⟩
  | false =>
    have h2 : (ma.toList == mb.toList) = false := by rw [toList_beq]; exact hd
    go_wp2
    go_ret
    exact ⟨by rw [show dm = false from HD.out.trans hd]; rfl, HW.out⟩
def CpuR (W : World) (e : Ending) (w' : World) : Prop := ∃ p c, e = .returned (.agg #[.string ⟨#[99, 112, 117]⟩, .slice p 1 c]) ∧ OwnL W.heap.size w' (.slice p 1 c) [laX] ∧ Below W.heap.size W w'
set_option maxRecDepth 100000 in
set_option maxHeartbeats 4000000 in
theorem cpu12 (W : World) : Calls Try.prog 18 #[.string ⟨#[120]⟩] W (CpuR W) := by
  unfold CpuR
  go_enter Try.func18, Try.ntmps18; (try simp only [List.append_eq, List.cons_append, List.nil_append])
  go_upto_region 1 with fail
  have kz := Blk.new W [.string ⟨#[]⟩, .slice none 0 0] 33
  have hr : Below W.heap.size W (W.alloc (.cells #[.string ⟨#[]⟩, .slice none 0 0] 33)) := (Below.refl _ _).alloc (Nat.le_refl _) _
  obtain ⟨B, hB⟩ : ∃ z, W.heap.size = z := ⟨_, rfl⟩
  obtain ⟨Y, hY⟩ : ∃ z, W.alloc (.cells #[.string ⟨#[]⟩, .slice none 0 0] 33) = z := ⟨_, rfl⟩
  rw [show W.alloc (.cells ([.string ⟨#[]⟩, .slice none 0 0] : List Value).toArray 33) = Y from hY] at kz
  rw [hY] at hr ⊢
  have HW := Lib.hid hr
  rw [show (Value.pointer (some ⟨W.heap.size, 0, none⟩)) = .pointer (some ⟨B, 0, none⟩) by rw [hB]]
  rw [hB] at kz
  have HBW := Lib.hid hB
  have KZ := Lib.hid kz
  clear hY hB hr kz
  go_wp2_with fail
  refine (kSetX Y).mono ?_
  rintro e w3 ⟨p, c, rfl, hown, hb3⟩
  have HW3 := Lib.hid (HW.out.trans (hb3.mono HW.out.size))
  have HZ := Lib.hid (KZ.out.keep hb3)
  have HO := Lib.hid (show OwnL W.heap.size w3 (.slice p 1 c) [laX] from ownsRow_base hown HW.out.size)
  clear hown hb3 HW KZ
  go_wp2_with (refine wpList_store_row rfl 33 _ _ rfl B #[.string ⟨#[99, 112, 117]⟩, .slice p 1 c] rfl rfl 33 #[.string ⟨#[]⟩, .slice none 0 0] HZ.out (by kernel_rfl) rfl (by kernel_rfl) ?_)
  have hrow := HZ.out.row [.string ⟨#[99, 112, 117]⟩, .slice p 1 c]
  have hor := HO.out.offM (OffM.row w3 B #[.string ⟨#[99, 112, 117]⟩, .slice p 1 c]) (fun k e cur hk => by
    subst e
    exact absurd (HZ.out.ty hk) (by decide))
  exact bodyPost_agg (fr := (0, 0)) rfl rfl hrow Try.underlying33 rfl (by kernel_rfl) rfl ⟨p, c, rfl, hor, below_setRow HW3.out (by rw [← HBW.out]; exact Nat.le_refl _) _⟩
/-! ### a table and what its Put leaves -/
def TabB (base : Nat) (Q : Nat → Prop) (W : World) (g : Nat) (T : List Sr) (c : Nat) : Prop := ∃ Fr, TabM Fr W g T c ∧ ∀ k, Fr k → base ≤ k ∧ ¬ Q k
theorem TabB.keep {base : Nat} {Q : Nat → Prop} {W w' : World} {g c : Nat} {T : List Sr} (h : TabB base Q W g T c) (hb : Below W.heap.size W w') : TabB base Q w' g T c := by
  obtain ⟨Fr, h1, h2⟩ := h
  exact ⟨Fr, h1.keep hb, h2⟩
def PutB (base : Nat) (Q : Nat → Prop) (W : World) (g : Nat) (T : List Sr) (c : Nat) (s : Sr) (e : Ending) (w' : World) : Prop :=
  ∃ n err : Int, e = .returned (.tuple #[.int .i64 n, .int .i64 err]) ∧ ((okS s ≠ 0 ∧ n = 0 ∧ err = okS s) ∨ (okS s = 0 ∧ err = 0 ∧ n = idS (putS T s) s)) ∧ TabB base Q w' g (putS T s) (c + 30) ∧ Below base W w' ∧ ∀ k, Q k → w'.heap[k]? = W.heap[k]?
theorem tPutB {base : Nat} {Q : Nat → Prop} {W : World} {g c cp n : Nat} {T : List Sr} {s : Sr} {p : Option Addr} (hT : TabB base Q W g T c) (hbs : base ≤ W.heap.size) (hQ : ∀ k, Q k → k < W.heap.size) (hn : n ≤ W.heap.size) (hL : IsLabs n W (.slice p s.labs.length cp) s.labs) (hms : s.metric.size ≤ maxLen) (hlen : T.length ≤ 200) (hc : c ≤ 50000) :
    Calls Try.prog 8 #[.pointer (some ⟨g, 0, none⟩), .agg #[.string s.metric, .slice p s.labs.length cp]] W (PutB base Q W g T c s) := by
  obtain ⟨Fr, h1, h2⟩ := hT
  refine (tPut h1 hn hL hms hlen hc).mono ?_
  rintro e w' ⟨m, err, rfl, h3, h4, h5⟩
  refine ⟨m, err, rfl, h3, ⟨_, h4, fun k hk => ?_⟩, h5.below (fun k hk => (h2 k hk).1) hbs, fun k hk => h5.block k (hQ k hk) (fun hF => (h2 k hF).2 hk)⟩
  rcases hk.1 with h | h
  · exact h2 k h
  · exact ⟨by omega, fun hq => by have := hQ k hq; omega⟩
end Go.Proofs.Ytkheeiipkdeihaa
