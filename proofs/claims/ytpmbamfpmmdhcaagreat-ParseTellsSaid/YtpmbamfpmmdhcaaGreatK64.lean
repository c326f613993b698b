/- ParseTells: the walk. -/
import Derived.Test.YtpmbamfpmmdhcaaGreatK60
import Derived.Test.YtpmbamfpmmdhcaaGreatK61
import Derived.Test.YtpmbamfpmmdhcaaGreatK63
import Derived.Test.YtpmbamfpmmdhcaaGreatK4
import Derived.Test.YtpmbamfpmmdhcaaGreatK39
import Derived.Test.YtpmbamfpmmdhcaaGreatK1
set_option maxRecDepth 100000
set_option maxHeartbeats 16000000
set_option linter.unusedSimpArgs false
set_option linter.unusedVariables false
namespace Go.Proofs.YtpmbamfpmmdhcaaGreat
open Go.RowKit
set_option linter.unusedSimpArgs false
set_option linter.unusedVariables false
theorem join_le (sep : List UInt8) (b : Nat) : ∀ l : List (List UInt8), (∀ x ∈ l, x.length ≤ b) → (Lib.join l sep).length ≤ l.length * (b + sep.length)
  | [], _ => by simp [Lib.join_nil]
  | [x], h => by have := h x (by simp); rw [Lib.join_one]; simp; omega
  | x :: y :: r, h => by
    have ih := join_le sep b (y :: r) (fun z hz => h z (by simp [hz]))
    have h1 := h x (by simp)
    have e : (Lib.join (x :: y :: r) sep).length = x.length + sep.length + (Lib.join (y :: r) sep).length := by
      rw [Lib.join_cons, Lib.join_cons]; simp [Lib.joinTail]; omega
    rw [e, List.length_cons (a := x), Nat.succ_mul]; omega
theorem joinToks_len {l : List Tok} (h : ∀ t ∈ l, TokOk t) : (joinToks l).length ≤ l.length * 80003 := by
  have := join_le [32] 80002 (l.map tokText) (fun x hx => by obtain ⟨t, ht, rfl⟩ := List.mem_map.1 hx; exact tokText_len (h t ht))
  simpa [joinToks] using this
theorem join_snoc (l : List (List UInt8)) (sep : List UInt8) (k : Nat) (hk : k < l.length) : Lib.join (l.take (k + 1)) sep = Lib.join (l.take k) sep ++ (if 0 < k then sep else []) ++ l[k] := by
  cases l with
  | nil => simp at hk
  | cons x r =>
    cases k with
    | zero => simp [Lib.join_nil, Lib.join_one]
    | succ k =>
      simp only [List.length_cons, Nat.add_lt_add_iff_right] at hk
      rw [List.take_succ_cons, List.take_succ_cons, Lib.join_cons, Lib.join_cons, Lib.joinTail_take_succ _ _ _ _ (List.getElem?_eq_getElem hk)]
      simp
theorem joinToks_snoc (l : List Tok) (k : Nat) (hk : k < l.length) : joinToks (l.take (k + 1)) = joinToks (l.take k) ++ (if 0 < k then [32] else []) ++ tokText l[k] := by
  unfold joinToks
  rw [List.map_take, List.map_take, join_snoc _ _ _ (by simpa using hk)]
  simp
theorem rJoin (l : List Tok) (v : Value) (n : Nat) (w : World) (hn : n ≤ w.heap.size) (hv : IsToks n w v l) (hok : ∀ t ∈ l, TokOk t) (hl : l.length ≤ 1000000) :
    Calls Tryz.prog 10 #[v] w fun e w' => e = .returned (.string ⟨(joinToks l).toArray⟩) ∧ Below w.heap.size w w' := by
  obtain ⟨p, cap, rfl, _, _, hlm⟩ := hv.open
  unfold maxLen at hlm
  have Hok := Lib.hid hok; clear hok
  go_enter Tryz.func10, Tryz.ntmps10; (try simp only [List.append_eq, List.cons_append, List.nil_append])
  go_wp2_with fail
  go_loopw [3, 4] (fun v i wr => ∃ (k : Nat) (S : ByteArray), k ≤ l.length ∧ i = .int .i64 k ∧ v = .string S ∧ S.data.toList = joinToks (l.take k) ∧ Below w.heap.size w wr) (fun _ i _ => l.length - (intOf i).toNat)
  case atStart => exact ⟨0, ⟨#[]⟩, Nat.zero_le _, rfl, rfl, by simp [joinToks, Lib.join_nil], Below.refl _ _⟩
  case round =>
    obtain ⟨k, S, hk, rfl, rfl, hS, hb⟩ := hrel
    have Hb := Lib.hid hb; clear hb
    have hsz : S.data.toList.length = S.size := by simp
    have hSl := joinToks_len (l := l.take k) (fun t ht => Hok.out t (List.mem_of_mem_take ht))
    rw [← hS, hsz, List.length_take, Nat.min_eq_left hk] at hSl
    have hSz : S.size ≤ 80003000000 := by omega
    clear hsz hSl
    by_cases hlt : k < l.length
    · obtain ⟨b, off, rfl, hbn, g0, g1, g2, g3⟩ := (hv.mono (Hb.out.mono hn) (Nat.le_refl n)).get hlt
      have hst := joinToks_snoc l k hlt
      rw [← hS] at hst
      have hOk := Hok.out _ (List.getElem_mem hlt)
      have Hst := Lib.hid hst
      have Hv := Lib.hid hv; clear hv
      clear hst hS
      generalize l[k] = t at *
      obtain ⟨x, hx⟩ : ∃ x : ByteArray, (⟨(tokText t).toArray⟩ : ByteArray) = x := ⟨_, rfl⟩
      have hxt : tokText t = x.data.toList := by rw [← hx]
      have hxl := tokText_len hOk
      rw [hxt] at hxl
      have hxs : x.size ≤ 80002 := by have : x.data.toList.length = x.size := by simp
                                      omega
      rw [hxt] at Hst
      have hlti : (k : Int) < (l.length : Int) := by omega
      have hkind : (t.kind == 3) = true ∨ ((t.kind == 3) = false ∧ (t.kind == 2) = true) ∨ ((t.kind == 3) = false ∧ (t.kind == 2) = false) := by
        cases (t.kind == 3) <;> cases (t.kind == 2) <;> simp
      have HQ : (t.kind == 3) = true → Hid (∀ X, Calls Tryz.prog 33 #[.string ⟨t.text.toArray⟩] X fun e w' => e = .returned (.string x) ∧ Below X.heap.size X w') := fun h X => by
        have h3 : t.kind = 3 := by simpa using h
        have := rQuote ⟨t.text.toArray⟩ X (by show t.text.length ≤ _; have := hOk.1; omega)
        rw [← hx]; unfold tokText; rw [if_pos h3]; exact this
      have HD : (t.kind == 3) = false → (t.kind == 2) = true → Hid (∀ X, Calls Tryz.prog 34 #[.int .i64 t.num] X fun e w' => e = .returned (.string x) ∧ Below X.heap.size X w') := fun h h' X => by
        have h3 : ¬ t.kind = 3 := by simpa using h
        have h2 : t.kind = 2 := by simpa using h'
        have := rDigits t.num X hOk.2
        rw [← hx]; unfold tokText; rw [if_neg h3, if_pos h2]; exact this
      have HT : (t.kind == 3) = false → (t.kind == 2) = false → (⟨t.text.toArray⟩ : ByteArray) = x := fun h h' => by
        have h3 : ¬ t.kind = 3 := by simpa using h
        have h2 : ¬ t.kind = 2 := by simpa using h'
        rw [← hx]; unfold tokText; rw [if_neg h3, if_neg h2]
      clear hx hxt hxl hOk
      have b1 : ¬ 9223372036854775807 < S.size + 1 := by omega
      have b2 : ¬ 9223372036854775807 < S.size + 1 + x.size := by omega
      have b3 : ¬ 9223372036854775807 < S.size + x.size := by omega
      by_cases h0 : 0 < k
      · rw [if_pos h0] at Hst
        have h0i : (0 : Int) < (k : Int) := by omega
        rcases hkind with h3 | ⟨h3, h2⟩ | ⟨h3, h2⟩
        · have HQ := HQ h3
          clear HD HT
          go_wp2_with (go_at_call 33; refine (HQ.out _).mono ?_; rintro e w2 ⟨rfl, hb2⟩; have HB2 := Lib.hid hb2; clear hb2)
          exact ⟨⟨k + 1, _, by omega, by go_num, rfl, by rw [Hst.out]; simp [ByteArray.data_append], Hb.out.trans (HB2.out.mono Hb.out.size)⟩, by simp [intOf]; omega⟩
        · have HD := HD h3 h2
          clear HQ HT
          go_wp2_with (go_at_call 34; refine (HD.out _).mono ?_; rintro e w2 ⟨rfl, hb2⟩; have HB2 := Lib.hid hb2; clear hb2)
          exact ⟨⟨k + 1, _, by omega, by go_num, rfl, by rw [Hst.out]; simp [ByteArray.data_append], Hb.out.trans (HB2.out.mono Hb.out.size)⟩, by simp [intOf]; omega⟩
        · rw [HT h3 h2] at g1
          clear HQ HD HT
          go_wp2_with fail
          exact ⟨⟨k + 1, _, by omega, by go_num, rfl, by rw [Hst.out]; simp [ByteArray.data_append], Hb.out⟩, by simp [intOf]; omega⟩
      · obtain rfl : k = 0 := by omega
        rw [if_neg h0] at Hst
        have g0' : wr.cell? ⟨b, off, none⟩ = some (.int .i64 t.kind) := by simpa using g0
        rcases hkind with h3 | ⟨h3, h2⟩ | ⟨h3, h2⟩
        · have HQ := HQ h3
          clear HD HT
          go_wp2_with (go_at_call 33; refine (HQ.out _).mono ?_; rintro e w2 ⟨rfl, hb2⟩; have HB2 := Lib.hid hb2; clear hb2)
          exact ⟨⟨0 + 1, _, by omega, by go_num, rfl, by rw [Hst.out]; simp [ByteArray.data_append], Hb.out.trans (HB2.out.mono Hb.out.size)⟩, by simp [intOf]; omega⟩
        · have HD := HD h3 h2
          clear HQ HT
          go_wp2_with (go_at_call 34; refine (HD.out _).mono ?_; rintro e w2 ⟨rfl, hb2⟩; have HB2 := Lib.hid hb2; clear hb2)
          exact ⟨⟨0 + 1, _, by omega, by go_num, rfl, by rw [Hst.out]; simp [ByteArray.data_append], Hb.out.trans (HB2.out.mono Hb.out.size)⟩, by simp [intOf]; omega⟩
        · rw [HT h3 h2] at g1
          clear HQ HD HT
          go_wp2_with fail
          exact ⟨⟨0 + 1, _, by omega, by go_num, rfl, by rw [Hst.out]; simp [ByteArray.data_append], Hb.out⟩, by simp [intOf]; omega⟩
    · have hk' : k = l.length := by omega
      subst hk'
      rw [List.take_of_length_le (Nat.le_refl _)] at hS
      have HS := Lib.hid hS; clear hS
      go_wp2_with fail
      go_ret
      exact ⟨ret_string (by apply ByteArray.ext; apply Array.toList_inj.1; simp [HS.out]), Hb.out⟩
theorem IsToks.one {n : Nat} {w : World} {b off : Nat} {len cap cap2 : Nat} {l : List Tok} (h : IsToks n w (.slice (some ⟨b, off, none⟩) len cap) l) {k : Nat} (hk : k < l.length) (hc : 1 ≤ cap2 ∧ cap2 ≤ maxLen) : IsToks n w (.slice (some ⟨b, off + k * 4, none⟩) 1 cap2) [l[k]] := by
  obtain ⟨b', off', hp, hb, hc'⟩ := h.at k l[k].cells (by simp [hk])
  simp only [Option.some.injEq, Addr.mk.injEq, and_true] at hp
  obtain ⟨rfl, rfl⟩ := hp
  refine ⟨some ⟨b, off + k * 4, none⟩, cap2, rfl, by simpa using hc.1, hc.2, fun _ => ⟨b, off + k * 4, rfl, hb, fun j r hr i x hx => ?_⟩⟩
  match j, hr with
  | 0, hr =>
    simp only [List.map_cons, List.map_nil, List.getElem?_cons_zero, Option.some.injEq] at hr
    subst hr
    have := hc' i x hx
    rw [Nat.zero_mul, Nat.add_zero]; exact this
  | j + 1, hr => simp at hr
def softAt (ss : List Int) (k : Nat) : List UInt8 := if h : k < ss.length then softL.getD (pick ss[k] 4).toNat [] else []
theorem softL_in {m : Int} (h : 0 ≤ m ∧ m < 4) : softL.getD m.toNat [] ∈ softL := by
  obtain rfl | rfl | rfl | rfl : m = 0 ∨ m = 1 ∨ m = 2 ∨ m = 3 := by omega
  all_goals decide
theorem softAt_ok (ss : List Int) (k : Nat) : Soft2 (softAt ss k) := by
  unfold softAt
  split
  · exact soft_of (softL_in (pick_bd _ 4 (by decide)))
  · exact .nil
theorem softAt_len (ss : List Int) (k : Nat) : (softAt ss k).length ≤ 5 := by
  have hl : ∀ x ∈ softL, x.length ≤ 5 := by decide
  unfold softAt
  split
  · exact hl _ (softL_in (pick_bd _ 4 (by decide)))
  · exact Nat.zero_le _
theorem softAt_none {ss : List Int} {k : Nat} (h : ¬ k < ss.length) : softAt ss k = [] := by unfold softAt; rw [dif_neg h]
theorem softAt_some {ss : List Int} {k : Nat} (h : k < ss.length) : softAt ss k = softL.getD (pick ss[k] 4).toNat [] := by unfold softAt; rw [dif_pos h]
theorem spread_len {g : Nat → List UInt8} (hg : ∀ i, (g i).length ≤ 5) : ∀ (l : List Tok), (∀ t ∈ l, TokOk t) → (spread l g).length ≤ l.length * 80008 := by
  intro l
  induction l generalizing g with
  | nil => intro _; exact Nat.zero_le _
  | cons t r ih =>
    intro h
    have h1 := tokText_len (h t (by simp))
    have h2 := ih (g := fun i => g (i + 1)) (fun i => hg (i + 1)) (fun t ht => h t (by simp [ht]))
    have h3 := hg 0
    simp only [spread, List.length_append, List.length_cons]
    omega
theorem joinToks_one (t : Tok) : joinToks [t] = tokText t := by unfold joinToks; rw [List.map_cons, List.map_nil, Lib.join_one]
theorem sl_app (a b : ByteArray) : sl (a ++ b) 0 = sl a 0 ++ sl b 0 := by unfold sl; simp [ByteArray.data_append]
theorem sl_zero (s : ByteArray) : sl s 0 = s.data.toList := by unfold sl; simp
/-! ### a fault's block is written: what hangs on other blocks stays -/
theorem Arr.rowInt {n : Nat} {w : World} {v : Value} {sz : Nat} {rows : List (List Value)} {g t : Nat} {a b : Int} (h : Arr n w v sz rows) (hn : n ≤ w.heap.size) (hg : Blk w g t [.int .i64 a, .int .i64 b]) (hs : ∀ r ∈ rows, ∃ (j : Nat) (s : ByteArray), r[j]? = some (.string s)) (us : Array Value) : Arr n (w.setRow g us) v sz rows := by
  obtain ⟨p, cap, hv, h1, h2, h3⟩ := h
  refine ⟨p, cap, hv, h1, h2, fun hne => ?_⟩
  obtain ⟨c, off, hp, hb, hc⟩ := h3 hne
  have hbg : c ≠ g := by
    rintro rfl
    obtain ⟨r, hr⟩ := List.exists_mem_of_ne_nil rows hne
    obtain ⟨k, hk, rfl⟩ := List.getElem_of_mem hr
    obtain ⟨j, s, hj⟩ := hs _ hr
    have hx := hc k _ (by simp [hk]) j _ hj
    generalize off + k * sz + j = i at hx
    have hh : w.heap[c]? = some (.cells [Value.int .i64 a, .int .i64 b].toArray t (0, 0)) := hg
    match i, hx with
    | 0, hx => simp [World.cell?, hh] at hx
    | 1, hx => simp [World.cell?, hh] at hx
    | i + 2, hx => simp [World.cell?, hh] at hx
  exact ⟨c, off, hp, hb, fun k r hr j x hx => by rw [(Off.row w us).cell (show c < w.heap.size by omega) hbg]; exact hc k r hr j x hx⟩
theorem IsEx.rowInt {n : Nat} {w : World} {e : Ex} {cs : List Value} (h : IsEx n w e cs) (hn : n ≤ w.heap.size) {g t : Nat} {a b : Int} (hg : Blk w g t [.int .i64 a, .int .i64 b]) (us : Array Value) : IsEx n (w.setRow g us) e cs := by
  induction h with
  | mk hs h1 h2 h3 hl hr ih =>
    refine .mk hs ⟨h1.1.rowInt hn hg (fun r hr => ?_) us, h1.2⟩ ⟨h2.1.rowInt hn hg (fun r hr => ?_) us, h2.2⟩ (h3.rowInt hn hg (fun r hr' => ?_) us) hl ih
    · obtain ⟨m, -, rfl⟩ := List.mem_map.1 hr
      exact ⟨1, _, rfl⟩
    · obtain ⟨m, -, rfl⟩ := List.mem_map.1 hr
      exact ⟨0, _, rfl⟩
    · obtain ⟨k, hk, rfl⟩ := List.getElem_of_mem hr'
      obtain ⟨vm, vn, vk, e, -⟩ := (hr k _ _ (List.getElem?_eq_getElem hk) (List.getElem?_eq_getElem (by omega))).cells
      exact ⟨4, _, by rw [e]; rfl⟩
theorem szL1 (a : UInt8) : (⟨#[a]⟩ : ByteArray).size = 1 := rfl
theorem szL6 (a b c d e f : UInt8) : (⟨#[a, b, c, d, e, f]⟩ : ByteArray).size = 6 := rfl
theorem szL2 (a b : UInt8) : (⟨#[a, b]⟩ : ByteArray).size = 2 := rfl
theorem xTells (s : ByteArray) (ss : List Int) (vs : Value) (every : Int) (w : World) (hs : s.size ≤ maxLen) (hv : IsInts w.heap.size w vs ss) (hss : ∀ i ∈ ss, i64 i) (hev : i64 every) :
    Calls Tryz.prog 3 #[.string s, vs, .int .i64 every] w fun e' w' => e' = .returned (.bool true) ∧ Below w.heap.size w w' := by
  obtain ⟨x, fe1, fa1, hE1, hA1, hR1⟩ := ansT s hs
  have HE1 := Lib.hid hE1; have HR1 := Lib.hid hR1
  have HALL := Lib.hid (fun X => rAll s X hs)
  have HPe := Lib.hid (fun X => kPick every 9 X hev (by decide))
  have hk := pick_bd every 9 (by decide)
  generalize pick every 9 = m at HPe hk
  obtain ⟨hA1, hA2⟩ := hA1
  have HSS := Lib.hid hss
  clear hE1 hR1 hev hss
  unfold maxLen at hs
  obtain ⟨pv, cv, rfl, _, _, hvl⟩ := hv.open
  unfold maxLen at hvl
  have HV := Lib.hid hv; clear hv
  go_enter Tryz.func3, Tryz.ntmps3; (try simp only [List.append_eq, List.cons_append, List.nil_append])
  go_wp2_with fail
  refine (xLives _).mono ?_
  rintro e' w0 ⟨rfl, hb0⟩
  have HB := Lib.hid hb0; clear hb0
  go_upto_region 3 with fail
  by_cases la : (2000 : Int) < (s.size : Int)
  · go_wp2
    go_ret
    exact ⟨rfl, HB.out⟩
  by_cases lb : (2000 : Int) < (ss.length : Int)
  · go_wp2
    go_ret
    exact ⟨rfl, HB.out⟩
  go_wp2_with fail
  refine (HE1.out _).mono ?_
  rintro e' w1 ⟨cs, rfl, hx, hb⟩
  have HB := Lib.hid (HB.out.trans (hb.mono HB.out.size)); clear hb HE1
  have HN1 := Lib.hid HB.out.size
  obtain ⟨pm1, cm1, pn1, cn1, pk1, ck1, rfl, -⟩ := hx.cellsE
  have X1 := Lib.hid hx; clear hx
  go_upto_region 6 with fail
  obtain ⟨y1, hW⟩ : ∃ zz, (w1.alloc (.cells #[.int .i64 x.kind, .int .i64 x.fn, .int .i64 x.op, .int .i64 x.num, .string x.metric, .slice pm1 x.mats.length cm1, .int .i64 x.span, .slice pn1 x.names.length cn1, .slice pk1 x.kids.length ck1] 28)).alloc (.cells #[.int .i64 fe1, .int .i64 fa1] 31) = zz := ⟨_, rfl⟩
  have kb : Below w1.heap.size w1 y1 := by rw [← hW]; exact two_below w1 _ _
  have B1 : Blk y1 w1.heap.size 28 [.int .i64 x.kind, .int .i64 x.fn, .int .i64 x.op, .int .i64 x.num, .string x.metric, .slice pm1 x.mats.length cm1, .int .i64 x.span, .slice pn1 x.names.length cn1, .slice pk1 x.kids.length ck1] := by rw [← hW]; exact two_at w1 [.int .i64 x.kind, .int .i64 x.fn, .int .i64 x.op, .int .i64 x.num, .string x.metric, .slice pm1 x.mats.length cm1, .int .i64 x.span, .slice pn1 x.names.length cn1, .slice pk1 x.kids.length ck1] [.int .i64 fe1, .int .i64 fa1] _ _
  have F1 : Blk y1 (w1.heap.size + 1) 31 [.int .i64 fe1, .int .i64 fa1] := by rw [← hW]; exact two_at' w1 _ [.int .i64 fe1, .int .i64 fa1] _
  have hz1 : y1.heap.size = w1.heap.size + 2 := by rw [← hW]; simp
  rw [hW]; clear hW
  have X1 := Lib.hid (X1.out.mono kb (Nat.le_refl _))
  have HB := Lib.hid (HB.out.trans (kb.mono HB.out.size)); clear kb
  have B1 := Lib.hid B1; have HZ1 := Lib.hid hz1; clear hz1
  have q10 := F1.cell 0 _ rfl; have q11 := F1.cell 1 _ rfl
  clear F1
  by_cases h1 : fe1 = 0
  case neg =>
    go_wp2
    all_goals go_ret
    all_goals exact ⟨rfl, HB.out⟩
  obtain ⟨e1, c1, l, i1, j1⟩ := HR1.out h1
  subst h1 e1; clear HR1
  have eL : lexAll s = (l, 0, 0) := by unfold lexAll; rw [if_neg (by omega), i1]
  have HALL := Lib.hid (fun X => show Calls Tryz.prog 9 #[.string s] X (fun e' w' => ∃ v, e' = .returned (.tuple #[v, .agg #[.int .i64 0, .int .i64 0]]) ∧ OwnT X.heap.size w' v l ∧ Below X.heap.size X w') from by
    have h := HALL.out X
    unfold AllR at h
    rw [eL] at h
    exact h)
  have I1 := Lib.hid (IsX.of i1 j1)
  have hsl : (sl s 0).length ≤ 2000 := by rw [sl_length]; omega
  obtain ⟨lok, hll⟩ := lex_ok _ _ true 0 l (Nat.le_refl _) (by omega) i1
  have LOK := Lib.hid lok
  obtain ⟨y, fe3, fa3, hE3, hR3⟩ := ans_br I1.out (t := ⟨#[40]⟩ ++ s ++ ⟨#[10, 41]⟩) (by rw [sl_app, sl_app, show sl ⟨#[40]⟩ 0 = [40] from rfl, show sl ⟨#[10, 41]⟩ 0 = [10, 41] from rfl]; rfl) (by simp only [ByteArray.size_append, szL1, szL2]; omega)
  have HE3 := Lib.hid hE3; have HR3 := Lib.hid hR3
  obtain ⟨mn, hmn⟩ : ∃ mn : Nat, (mn : Int) = m + 1 := ⟨(m + 1).toNat, by omega⟩
  have hE4 := fun z => ans_query (n := mn) (by omega) i1 j1 (t := z)
  have HE4 := Lib.hid hE4
  obtain ⟨cB, hcB⟩ : ∃ c : UInt8, UInt8.ofNat (48 + mn) = c := ⟨_, rfl⟩
  have huB : (cB.toNat : Int) = 48 + (m + 1) := by rw [← hcB, UInt8.toNat_ofNat', ← hmn]; omega
  have HcB := Lib.hid hcB; have HuB := Lib.hid huB
  have hmB : ((mn : Int) == m + 1) = true := by simpa using hmn
  clear hE3 hR3 hE4 hcB huB hmn
  have hll : l.length ≤ 2001 := by omega
  have LNE := Lib.hid (lex_ne i1)
  have hsz := (ok_partsX c1).1
  have hc := rCheckExpr x _ w1.heap.size y1 (by have := HZ1.out; omega) X1.out (by omega)
  rw [c1] at hc
  have HC := Lib.hid hc
  have IJ := Lib.hid (And.intro i1 j1)
  clear eL lok hsl hc i1 j1 c1 hsz
  have b1 := B1.out
  have p10 := b1.cell 0 _ rfl; have p11 := b1.cell 1 _ rfl; have p12 := b1.cell 2 _ rfl; have p13 := b1.cell 3 _ rfl; have p14 := b1.cell 4 _ rfl; have p15 := b1.cell 5 _ rfl; have p16 := b1.cell 6 _ rfl; have p17 := b1.cell 7 _ rfl; have p18 := b1.cell 8 _ rfl
  clear b1
  go_wp2_with fail
  refine HC.out.mono ?_
  rintro e' w2 ⟨rfl, hb⟩
  have X1 := Lib.hid (X1.out.mono (hb.mono (by have := HZ1.out; omega)) (Nat.le_refl _))
  have B1 := Lib.hid (B1.out.keep hb)
  have HB := Lib.hid (HB.out.trans (hb.mono HB.out.size))
  have HN2 : Hid (w1.heap.size + 2 ≤ w2.heap.size) := Lib.hid (by have := hb.size; have := HZ1.out; omega)
  clear hb HC q10 q11 p10 p11 p12 p13 p14 p15 p16 p17 p18
  go_wp2_with fail
  refine (HALL.out _).mono ?_
  rintro e' w3 ⟨v, rfl, ho, hb⟩
  have X1 := Lib.hid (X1.out.mono (hb.mono (by have := HN2.out; omega)) (Nat.le_refl _))
  have B1 := Lib.hid (B1.out.keep hb)
  have HB := Lib.hid (HB.out.trans (hb.mono HB.out.size))
  have HN3 : Hid (w1.heap.size + 2 ≤ w3.heap.size) := Lib.hid (by have := hb.size; have := HN2.out; omega)
  clear hb HALL HN2
  have ht := ho.toks (Nat.le_refl _)
  clear ho
  obtain ⟨pt, ct, rfl, hct, hcm, _⟩ := ht.open
  obtain ⟨b, off, rfl, hbn, -⟩ := ht.get (k := 0) (List.length_pos_iff.2 LNE.out)
  unfold maxLen at hcm
  go_upto_region 11 with fail
  obtain ⟨y3, hW⟩ : ∃ zz, w3.alloc (.cells #[.int .i64 0, .int .i64 0] 31) = zz := ⟨_, rfl⟩
  have kb : Below w3.heap.size w3 y3 := by rw [← hW]; exact (Below.refl _ _).alloc (Nat.le_refl _) _
  rw [hW]; clear hW
  have X1 := Lib.hid (X1.out.mono (kb.mono (by have := HN3.out; omega)) (Nat.le_refl _))
  have B1 := Lib.hid (B1.out.keep kb)
  have HB := Lib.hid (HB.out.trans (kb.mono HB.out.size))
  have HT := Lib.hid (ht.mono kb kb.size)
  have HN4 : Hid (w1.heap.size + 2 ≤ y3.heap.size) := Lib.hid (by have := kb.size; have := HN3.out; omega)
  clear kb ht hbn HN3
  have HV3 := Lib.hid (HV.out.mono HB.out HB.out.size)
  go_wp2_with fail
  go_loopw [11, 12] (fun v i wr => ∃ (k : Nat) (S : ByteArray), k ≤ l.length ∧ i = .int .i64 k ∧ v = .string S ∧ S.data.toList = spread (l.take k) (softAt ss) ∧ Below y3.heap.size y3 wr) (fun _ i _ => l.length - (intOf i).toNat)
  case atStart => exact ⟨0, ⟨#[]⟩, Nat.zero_le _, rfl, rfl, rfl, Below.refl _ _⟩
  case round =>
    obtain ⟨k, S, hk, rfl, rfl, hS, hb⟩ := hrel
    have Hb := Lib.hid hb; clear hb
    have hS5 := spread_len (softAt_len ss) (l.take k) (fun t ht => LOK.out t (List.mem_of_mem_take ht))
    rw [← hS, List.length_take, Nat.min_eq_left hk, show S.data.toList.length = S.size by simp] at hS5
    have hSz : S.size ≤ 160096008 := by omega
    clear hS5
    by_cases hlt : k < l.length
    · have hst := spread_take l (softAt ss) k hlt
      rw [← hS] at hst
      have Hst := Lib.hid hst
      have hok := LOK.out _ (List.getElem_mem hlt)
      have hlen := tokText_len hok
      have HJ := Lib.hid (fun (X : World) (h : Below y3.heap.size y3 X) => rJoin [l[k]] (.slice (some ⟨b, off + k * 4, none⟩) 1 (ct - k)) y3.heap.size X h.size ((HT.out.mono h (Nat.le_refl _)).one hlt ⟨by omega, by unfold maxLen; omega⟩) (by simpa using hok) (by simp))
      rw [joinToks_one] at HJ
      obtain ⟨xk, hxk⟩ : ∃ xk : ByteArray, (⟨(tokText l[k]).toArray⟩ : ByteArray) = xk := ⟨_, rfl⟩
      have hxt : tokText l[k] = xk.data.toList := by rw [← hxk]
      rw [hxk] at HJ
      rw [hxt] at Hst hlen
      have hxs : xk.size ≤ 80002 := by have : xk.data.toList.length = xk.size := by simp
                                       omega
      clear hxk hxt hlen hok hst hS
      have hlti : (k : Int) < (l.length : Int) := by omega
      have hct1 : (k : Int) + 1 ≤ (ct : Int) := by omega
      have hct2 : (k : Int) ≤ (k : Int) + 1 := by omega
      have b1 : ¬ 9223372036854775807 < S.size + xk.size := by omega
      have b2 : ¬ 9223372036854775807 < S.size + xk.size + 1 := by omega
      go_wp2_with fail
      refine (HJ.out _ Hb.out).mono ?_
      rintro e' v1 ⟨rfl, hb⟩
      have Hb := Lib.hid (Hb.out.trans (hb.mono Hb.out.size))
      clear hb HJ
      by_cases hm : k < ss.length
      · have hmi : (k : Int) < (ss.length : Int) := by omega
        have hmok := HSS.out _ (List.getElem_mem hm)
        obtain ⟨b2, off2, hpv, hbn2, hcell⟩ := (HV3.out.mono Hb.out Hb.out.size).get hm
        subst hpv
        rw [softAt_some hm] at Hst
        generalize ss[k] = mk at Hst hmok hcell
        have HP4 := Lib.hid (fun X => kPick mk 4 X hmok (by decide))
        have hpk := pick_bd mk 4 (by decide)
        generalize pick mk 4 = mp at Hst HP4 hpk
        go_upto_region 17 with fail
        have b3 : ∀ z : Nat, z ≤ 5 → ¬ 9223372036854775807 < S.size + xk.size + 1 + z := by omega
        have b31 := b3 1 (by decide); have b32 := b3 2 (by decide); have b35 := b3 5 (by decide)
        clear b3
        obtain rfl | rfl | rfl | rfl : mp = 0 ∨ mp = 1 ∨ mp = 2 ∨ mp = 3 := by omega
        all_goals
          replace Hst := Lib.hid Hst.out
          go_wp2_with (go_at_call 11; refine (HP4.out _).mono ?_; rintro e' v2 ⟨rfl, rfl⟩)
          exact ⟨⟨k + 1, _, by omega, by go_num, rfl, by rw [Hst.out]; simp [ByteArray.data_append, softL], Hb.out.alloc Hb.out.size _⟩, by simp [intOf]; omega⟩
      · have hmi : ¬ (k : Int) < (ss.length : Int) := by omega
        rw [softAt_none hm] at Hst
        go_wp2_with fail
        exact ⟨⟨k + 1, _, by omega, by go_num, rfl, by rw [Hst.out]; simp [ByteArray.data_append], Hb.out⟩, by simp [intOf]; omega⟩
    · have hk' : k = l.length := by omega
      subst hk'
      rw [List.take_of_length_le (Nat.le_refl _)] at hS
      have h2 : ∃ x2 fe2 fa2, Hid (∀ X, Calls Tryz.prog 7 #[.string S] X (ERes x2 fe2 fa2 X)) ∧ (S.size ≤ 16384 → 0 = fe2 ∧ 0 = fa2 ∧ x = x2) := by
        by_cases h : S.size ≤ 16384
        · exact ⟨x, 0, 0, Lib.hid (ans_told IJ.out.1 IJ.out.2 (softAt_ok ss) (by rw [sl_zero]; exact hS) h), fun _ => ⟨rfl, rfl, rfl⟩⟩
        · obtain ⟨x2, fe2, fa2, h1, -⟩ := ansT S (by unfold maxLen; omega)
          exact ⟨x2, fe2, fa2, Lib.hid h1, fun h' => absurd h' h⟩
      obtain ⟨x2, fe2, fa2, HE2, hR2⟩ := h2
      have HR2 := Lib.hid hR2
      clear hR2 hS hlt
      have d1 : ¬ 9223372036854775807 < 1 + s.size := by omega
      have d2 : ¬ 9223372036854775807 < 1 + s.size + 2 := by omega
      go_wp2_with fail
      refine (HE2.out _).mono ?_
      rintro e' w4 ⟨cs, rfl, hx, hb⟩
      have Hb := Lib.hid (Hb.out.trans (hb.mono Hb.out.size)); clear hb HE2
      obtain ⟨pm2, cm2, pn2, cn2, pk2, ck2, rfl, -⟩ := hx.cellsE
      have X2 := Lib.hid hx; clear hx
      have HN5 := Lib.hid Hb.out.size
      go_upto_region 19 with fail
      obtain ⟨y4, hW⟩ : ∃ zz, (w4.alloc (.cells #[.int .i64 x2.kind, .int .i64 x2.fn, .int .i64 x2.op, .int .i64 x2.num, .string x2.metric, .slice pm2 x2.mats.length cm2, .int .i64 x2.span, .slice pn2 x2.names.length cn2, .slice pk2 x2.kids.length ck2] 28)).alloc (.cells #[.int .i64 fe2, .int .i64 fa2] 31) = zz := ⟨_, rfl⟩
      have kb : Below w4.heap.size w4 y4 := by rw [← hW]; exact two_below w4 _ _
      have B2 : Blk y4 w4.heap.size 28 [.int .i64 x2.kind, .int .i64 x2.fn, .int .i64 x2.op, .int .i64 x2.num, .string x2.metric, .slice pm2 x2.mats.length cm2, .int .i64 x2.span, .slice pn2 x2.names.length cn2, .slice pk2 x2.kids.length ck2] := by rw [← hW]; exact two_at w4 [.int .i64 x2.kind, .int .i64 x2.fn, .int .i64 x2.op, .int .i64 x2.num, .string x2.metric, .slice pm2 x2.mats.length cm2, .int .i64 x2.span, .slice pn2 x2.names.length cn2, .slice pk2 x2.kids.length ck2] [.int .i64 fe2, .int .i64 fa2] _ _
      have F2 : Blk y4 (w4.heap.size + 1) 31 [.int .i64 fe2, .int .i64 fa2] := by rw [← hW]; exact two_at' w4 _ [.int .i64 fe2, .int .i64 fa2] _
      rw [hW]; clear hW
      have X2 := Lib.hid (X2.out.mono kb kb.size)
      have Hb := Lib.hid (Hb.out.trans (kb.mono Hb.out.size)); clear kb
      have B2 := Lib.hid B2; have F2 := Lib.hid F2
      by_cases hl2 : (S.size : Int) ≤ 16384
      case pos =>
        obtain ⟨e1, e2, e3⟩ := HR2.out (by omega)
        subst e1 e2 e3
        clear HR2
        have X1' := X1.out.mono (Hb.out.mono (by have := HN4.out; omega)) (show w1.heap.size ≤ y4.heap.size by have := HN4.out; have := Hb.out.size; omega)
        have HK := Lib.hid (kExpr x x _ _ _ y4 (Nat.le_refl _) X2.out X1')
        have b1 := B1.out.keep Hb.out
        have p10 := b1.cell 0 _ rfl; have p11 := b1.cell 1 _ rfl; have p12 := b1.cell 2 _ rfl; have p13 := b1.cell 3 _ rfl; have p14 := b1.cell 4 _ rfl; have p15 := b1.cell 5 _ rfl; have p16 := b1.cell 6 _ rfl; have p17 := b1.cell 7 _ rfl; have p18 := b1.cell 8 _ rfl
        have b2 := B2.out
        have p20 := b2.cell 0 _ rfl; have p21 := b2.cell 1 _ rfl; have p22 := b2.cell 2 _ rfl; have p23 := b2.cell 3 _ rfl; have p24 := b2.cell 4 _ rfl; have p25 := b2.cell 5 _ rfl; have p26 := b2.cell 6 _ rfl; have p27 := b2.cell 7 _ rfl; have p28 := b2.cell 8 _ rfl
        have f2 := F2.out
        have q20 := f2.cell 0 _ rfl; have q21 := f2.cell 1 _ rfl
        clear b1 b2 f2 X1'
        go_wp2_with fail
        refine HK.out.mono ?_
        rintro e' w5 ⟨rfl, hb⟩
        have F2 := Lib.hid (F2.out.keep hb)
        have Hb := Lib.hid (Hb.out.trans (hb.mono Hb.out.size)); clear hb HK X2 B2
        clear p10 p11 p12 p13 p14 p15 p16 p17 p18 p20 p21 p22 p23 p24 p25 p26 p27 p28 q20 q21
        go_upto_region 21 with fail
        go_wp2_with fail
        refine (HE3.out _).mono ?_
        rintro e' w6 ⟨cs, rfl, hx, hb⟩
        have F2 := Lib.hid (F2.out.keep hb)
        have Hb := Lib.hid (Hb.out.trans (hb.mono Hb.out.size)); clear hb
        obtain ⟨pm3, cm3, pn3, cn3, pk3, ck3, rfl, -⟩ := hx.cellsE
        have X3 := Lib.hid hx; clear hx
        have F3 := Lib.hid (F2.out.keep ((Below.refl _ _).alloc (Nat.le_refl _) (.cells #[.int .i64 y.kind, .int .i64 y.fn, .int .i64 y.op, .int .i64 y.num, .string y.metric, .slice pm3 y.mats.length cm3, .int .i64 y.span, .slice pn3 y.names.length cn3, .slice pk3 y.kids.length ck3] 28)))
        have HL6 := Lib.hid F2.out.lt
        go_upto_region 22 with (refine wpList_store_row rfl 31 _ _ rfl (w4.heap.size + 1) #[.int .i64 fe3, .int .i64 fa3] rfl rfl 31 _ F3.out (by kernel_rfl) rfl (by kernel_rfl) ?_)
        obtain ⟨y6, hW⟩ : ∃ zz, (w6.alloc (.cells #[.int .i64 y.kind, .int .i64 y.fn, .int .i64 y.op, .int .i64 y.num, .string y.metric, .slice pm3 y.mats.length cm3, .int .i64 y.span, .slice pn3 y.names.length cn3, .slice pk3 y.kids.length ck3] 28)).setRow (w4.heap.size + 1) #[.int .i64 fe3, .int .i64 fa3] = zz := ⟨_, rfl⟩
        have hb : Below y3.heap.size y3 y6 := by rw [← hW]; exact below_setRow (Hb.out.alloc Hb.out.size _) (by have := HN5.out; omega) _
        have B3 : Blk y6 w6.heap.size 28 [.int .i64 y.kind, .int .i64 y.fn, .int .i64 y.op, .int .i64 y.num, .string y.metric, .slice pm3 y.mats.length cm3, .int .i64 y.span, .slice pn3 y.names.length cn3, .slice pk3 y.kids.length ck3] := by rw [← hW]; exact (setRow_far _ _ _ (by have := HL6.out; omega)).trans (Blk.new w6 [.int .i64 y.kind, .int .i64 y.fn, .int .i64 y.op, .int .i64 y.num, .string y.metric, .slice pm3 y.mats.length cm3, .int .i64 y.span, .slice pn3 y.names.length cn3, .slice pk3 y.kids.length ck3] 28)
        have F4 : Blk y6 (w4.heap.size + 1) 31 [.int .i64 fe3, .int .i64 fa3] := by rw [← hW]; exact setRow_at F3.out _
        have x3 : IsEx w6.heap.size y6 y [.int .i64 y.kind, .int .i64 y.fn, .int .i64 y.op, .int .i64 y.num, .string y.metric, .slice pm3 y.mats.length cm3, .int .i64 y.span, .slice pn3 y.names.length cn3, .slice pk3 y.kids.length ck3] := by
          rw [← hW]
          exact (X3.out.mono ((Below.refl _ _).alloc (Nat.le_refl _) _) (Nat.le_refl _)).rowInt (by simp) F3.out _
        have hz : w6.heap.size ≤ y6.heap.size := by rw [← hW, setRow_size]; simp
        rw [hW]; clear hW
        have Hb := Lib.hid hb; have B3 := Lib.hid B3; have F2 := Lib.hid F4; have X3 := Lib.hid x3; have HZ := Lib.hid hz
        clear hb F4 x3 hz F3
        have f2 := F2.out
        have q20 := f2.cell 0 _ rfl; have q21 := f2.cell 1 _ rfl
        clear f2
        rcases HR3.out with rfl | ⟨rfl, rfl, e3, hc⟩
        · clear X3 B3 HR3
          go_upto_region 24 with fail
          have hob := one_back y6 cB
          rw [HuB.out] at hob
          have d3 : ¬ 9223372036854775807 < 6 + 1 + 2 + s.size := by omega
          go_wp2_with (go_at_call 11; refine (HPe.out _).mono ?_; rintro e' v8 ⟨rfl, rfl⟩)
          refine (HE4.out _ (by simp only [sl_app]; rw [HcB.out, show sl ⟨#[101, 118, 101, 114, 121, 32]⟩ 0 = everyL ++ [32] from rfl, show sl ⟨#[cB]⟩ 0 = [cB] from rfl, show sl ⟨#[58, 32]⟩ 0 = [58, 32] from rfl]; simp) (by simp only [ByteArray.size_append, szL1, szL2, szL6]; omega) _).mono ?_
          rintro e' w9 ⟨cs, rfl, hx, hb⟩
          have hal : Below y6.heap.size y6 (y6.alloc (.cells #[.int .u8 (48 + (m + 1))] 5)) := (Below.refl _ _).alloc (Nat.le_refl _) _
          have hb := hal.trans (hb.mono hal.size)
          have F2 := Lib.hid (F2.out.keep hb)
          have Hb := Lib.hid (Hb.out.trans (hb.mono Hb.out.size)); clear hb hal hob
          obtain ⟨pm4, cm4, pn4, cn4, pk4, ck4, rfl, -⟩ := hx.cellsE
          have X4 := Lib.hid hx; clear hx
          have F3 := Lib.hid (F2.out.keep ((Below.refl _ _).alloc (Nat.le_refl _) (.cells #[.int .i64 mn, .int .i64 x.kind, .int .i64 x.fn, .int .i64 x.op, .int .i64 x.num, .string x.metric, .slice pm4 x.mats.length cm4, .int .i64 x.span, .slice pn4 x.names.length cn4, .slice pk4 x.kids.length ck4] 42)))
          have HL9 := Lib.hid F2.out.lt
          go_upto_region 26 with (refine wpList_store_row rfl 31 _ _ rfl (w4.heap.size + 1) #[.int .i64 0, .int .i64 0] rfl rfl 31 _ F3.out (by kernel_rfl) rfl (by kernel_rfl) ?_)
          obtain ⟨y9, hW⟩ : ∃ zz, (w9.alloc (.cells #[.int .i64 mn, .int .i64 x.kind, .int .i64 x.fn, .int .i64 x.op, .int .i64 x.num, .string x.metric, .slice pm4 x.mats.length cm4, .int .i64 x.span, .slice pn4 x.names.length cn4, .slice pk4 x.kids.length ck4] 42)).setRow (w4.heap.size + 1) #[.int .i64 0, .int .i64 0] = zz := ⟨_, rfl⟩
          have hb : Below y3.heap.size y3 y9 := by rw [← hW]; exact below_setRow (Hb.out.alloc Hb.out.size _) (by have := HN5.out; omega) _
          have B4 : Blk y9 w9.heap.size 42 [.int .i64 mn, .int .i64 x.kind, .int .i64 x.fn, .int .i64 x.op, .int .i64 x.num, .string x.metric, .slice pm4 x.mats.length cm4, .int .i64 x.span, .slice pn4 x.names.length cn4, .slice pk4 x.kids.length ck4] := by rw [← hW]; exact (setRow_far _ _ _ (by have := HL9.out; omega)).trans (Blk.new w9 [.int .i64 mn, .int .i64 x.kind, .int .i64 x.fn, .int .i64 x.op, .int .i64 x.num, .string x.metric, .slice pm4 x.mats.length cm4, .int .i64 x.span, .slice pn4 x.names.length cn4, .slice pk4 x.kids.length ck4] 42)
          have F4 : Blk y9 (w4.heap.size + 1) 31 [.int .i64 0, .int .i64 0] := by rw [← hW]; exact setRow_at F3.out _
          have x4 : IsEx w9.heap.size y9 x [.int .i64 x.kind, .int .i64 x.fn, .int .i64 x.op, .int .i64 x.num, .string x.metric, .slice pm4 x.mats.length cm4, .int .i64 x.span, .slice pn4 x.names.length cn4, .slice pk4 x.kids.length ck4] := by
            rw [← hW]
            exact (X4.out.mono ((Below.refl _ _).alloc (Nat.le_refl _) _) (Nat.le_refl _)).rowInt (by simp) F3.out _
          have hz : w9.heap.size ≤ y9.heap.size := by rw [← hW, setRow_size]; simp
          rw [hW]; clear hW
          have HK := Lib.hid (kExpr x x _ _ _ y9 (Nat.le_refl _) (x4.mono (Below.refl _ _) hz) (X1.out.mono (hb.mono (by have := HN4.out; omega)) (show w1.heap.size ≤ y9.heap.size by have := HN4.out; have := hb.size; omega)))
          have b1 := B1.out.keep hb
          have p10 := b1.cell 0 _ rfl; have p11 := b1.cell 1 _ rfl; have p12 := b1.cell 2 _ rfl; have p13 := b1.cell 3 _ rfl; have p14 := b1.cell 4 _ rfl; have p15 := b1.cell 5 _ rfl; have p16 := b1.cell 6 _ rfl; have p17 := b1.cell 7 _ rfl; have p18 := b1.cell 8 _ rfl
          have p40 := B4.cell 0 _ rfl; have p41 := B4.cell 1 _ rfl; have p42 := B4.cell 2 _ rfl; have p43 := B4.cell 3 _ rfl; have p44 := B4.cell 4 _ rfl; have p45 := B4.cell 5 _ rfl; have p46 := B4.cell 6 _ rfl; have p47 := B4.cell 7 _ rfl; have p48 := B4.cell 8 _ rfl; have p49 := B4.cell 9 _ rfl
          have q40 := F4.cell 0 _ rfl; have q41 := F4.cell 1 _ rfl
          have Hb := Lib.hid hb
          clear b1 B4 F4 x4 hz hb X4 F2 F3
          go_wp2_with fail
          refine HK.out.mono ?_
          rintro e' w10 ⟨rfl, hb⟩
          have Hb := Lib.hid (Hb.out.trans (hb.mono Hb.out.size)); clear hb HK
          go_wp2
          go_ret
          exact ⟨rfl, HB.out.trans (Hb.out.mono HB.out.size)⟩
        · replace e3 := e3.symm
          subst e3
          clear HR3 hc
          have X1' := X1.out.mono (Hb.out.mono (by have := HN4.out; omega)) (show w1.heap.size ≤ y6.heap.size by have := HN4.out; have := Hb.out.size; omega)
          have HK := Lib.hid (kExpr x x _ _ _ y6 (Nat.le_refl _) (X3.out.mono (Below.refl _ _) HZ.out) X1')
          have b1 := B1.out.keep Hb.out
          have p10 := b1.cell 0 _ rfl; have p11 := b1.cell 1 _ rfl; have p12 := b1.cell 2 _ rfl; have p13 := b1.cell 3 _ rfl; have p14 := b1.cell 4 _ rfl; have p15 := b1.cell 5 _ rfl; have p16 := b1.cell 6 _ rfl; have p17 := b1.cell 7 _ rfl; have p18 := b1.cell 8 _ rfl
          have b3 := B3.out
          have p30 := b3.cell 0 _ rfl; have p31 := b3.cell 1 _ rfl; have p32 := b3.cell 2 _ rfl; have p33 := b3.cell 3 _ rfl; have p34 := b3.cell 4 _ rfl; have p35 := b3.cell 5 _ rfl; have p36 := b3.cell 6 _ rfl; have p37 := b3.cell 7 _ rfl; have p38 := b3.cell 8 _ rfl
          clear b1 b3 X1'
          go_wp2_with fail
          refine HK.out.mono ?_
          rintro e' w7 ⟨rfl, hb⟩
          have F2 := Lib.hid (F2.out.keep hb)
          have Hb := Lib.hid (Hb.out.trans (hb.mono Hb.out.size)); clear hb HK X3 B3 HZ
          clear p10 p11 p12 p13 p14 p15 p16 p17 p18 p30 p31 p32 p33 p34 p35 p36 p37 p38 q20 q21
          go_upto_region 24 with fail
          have hob := one_back w7 cB
          rw [HuB.out] at hob
          have d3 : ¬ 9223372036854775807 < 6 + 1 + 2 + s.size := by omega
          go_wp2_with (go_at_call 11; refine (HPe.out _).mono ?_; rintro e' v8 ⟨rfl, rfl⟩)
          refine (HE4.out _ (by simp only [sl_app]; rw [HcB.out, show sl ⟨#[101, 118, 101, 114, 121, 32]⟩ 0 = everyL ++ [32] from rfl, show sl ⟨#[cB]⟩ 0 = [cB] from rfl, show sl ⟨#[58, 32]⟩ 0 = [58, 32] from rfl]; simp) (by simp only [ByteArray.size_append, szL1, szL2, szL6]; omega) _).mono ?_
          rintro e' w9 ⟨cs, rfl, hx, hb⟩
          have hal : Below w7.heap.size w7 (w7.alloc (.cells #[.int .u8 (48 + (m + 1))] 5)) := (Below.refl _ _).alloc (Nat.le_refl _) _
          have hb := hal.trans (hb.mono hal.size)
          have F2 := Lib.hid (F2.out.keep hb)
          have Hb := Lib.hid (Hb.out.trans (hb.mono Hb.out.size)); clear hb hal hob
          obtain ⟨pm4, cm4, pn4, cn4, pk4, ck4, rfl, -⟩ := hx.cellsE
          have X4 := Lib.hid hx; clear hx
          have F3 := Lib.hid (F2.out.keep ((Below.refl _ _).alloc (Nat.le_refl _) (.cells #[.int .i64 mn, .int .i64 x.kind, .int .i64 x.fn, .int .i64 x.op, .int .i64 x.num, .string x.metric, .slice pm4 x.mats.length cm4, .int .i64 x.span, .slice pn4 x.names.length cn4, .slice pk4 x.kids.length ck4] 42)))
          have HL9 := Lib.hid F2.out.lt
          go_upto_region 26 with (refine wpList_store_row rfl 31 _ _ rfl (w4.heap.size + 1) #[.int .i64 0, .int .i64 0] rfl rfl 31 _ F3.out (by kernel_rfl) rfl (by kernel_rfl) ?_)
          obtain ⟨y9, hW⟩ : ∃ zz, (w9.alloc (.cells #[.int .i64 mn, .int .i64 x.kind, .int .i64 x.fn, .int .i64 x.op, .int .i64 x.num, .string x.metric, .slice pm4 x.mats.length cm4, .int .i64 x.span, .slice pn4 x.names.length cn4, .slice pk4 x.kids.length ck4] 42)).setRow (w4.heap.size + 1) #[.int .i64 0, .int .i64 0] = zz := ⟨_, rfl⟩
          have hb : Below y3.heap.size y3 y9 := by rw [← hW]; exact below_setRow (Hb.out.alloc Hb.out.size _) (by have := HN5.out; omega) _
          have B4 : Blk y9 w9.heap.size 42 [.int .i64 mn, .int .i64 x.kind, .int .i64 x.fn, .int .i64 x.op, .int .i64 x.num, .string x.metric, .slice pm4 x.mats.length cm4, .int .i64 x.span, .slice pn4 x.names.length cn4, .slice pk4 x.kids.length ck4] := by rw [← hW]; exact (setRow_far _ _ _ (by have := HL9.out; omega)).trans (Blk.new w9 [.int .i64 mn, .int .i64 x.kind, .int .i64 x.fn, .int .i64 x.op, .int .i64 x.num, .string x.metric, .slice pm4 x.mats.length cm4, .int .i64 x.span, .slice pn4 x.names.length cn4, .slice pk4 x.kids.length ck4] 42)
          have F4 : Blk y9 (w4.heap.size + 1) 31 [.int .i64 0, .int .i64 0] := by rw [← hW]; exact setRow_at F3.out _
          have x4 : IsEx w9.heap.size y9 x [.int .i64 x.kind, .int .i64 x.fn, .int .i64 x.op, .int .i64 x.num, .string x.metric, .slice pm4 x.mats.length cm4, .int .i64 x.span, .slice pn4 x.names.length cn4, .slice pk4 x.kids.length ck4] := by
            rw [← hW]
            exact (X4.out.mono ((Below.refl _ _).alloc (Nat.le_refl _) _) (Nat.le_refl _)).rowInt (by simp) F3.out _
          have hz : w9.heap.size ≤ y9.heap.size := by rw [← hW, setRow_size]; simp
          rw [hW]; clear hW
          have HK := Lib.hid (kExpr x x _ _ _ y9 (Nat.le_refl _) (x4.mono (Below.refl _ _) hz) (X1.out.mono (hb.mono (by have := HN4.out; omega)) (show w1.heap.size ≤ y9.heap.size by have := HN4.out; have := hb.size; omega)))
          have b1 := B1.out.keep hb
          have p10 := b1.cell 0 _ rfl; have p11 := b1.cell 1 _ rfl; have p12 := b1.cell 2 _ rfl; have p13 := b1.cell 3 _ rfl; have p14 := b1.cell 4 _ rfl; have p15 := b1.cell 5 _ rfl; have p16 := b1.cell 6 _ rfl; have p17 := b1.cell 7 _ rfl; have p18 := b1.cell 8 _ rfl
          have p40 := B4.cell 0 _ rfl; have p41 := B4.cell 1 _ rfl; have p42 := B4.cell 2 _ rfl; have p43 := B4.cell 3 _ rfl; have p44 := B4.cell 4 _ rfl; have p45 := B4.cell 5 _ rfl; have p46 := B4.cell 6 _ rfl; have p47 := B4.cell 7 _ rfl; have p48 := B4.cell 8 _ rfl; have p49 := B4.cell 9 _ rfl
          have q40 := F4.cell 0 _ rfl; have q41 := F4.cell 1 _ rfl
          have Hb := Lib.hid hb
          clear b1 B4 F4 x4 hz hb X4 F2 F3
          go_wp2_with fail
          refine HK.out.mono ?_
          rintro e' w10 ⟨rfl, hb⟩
          have Hb := Lib.hid (Hb.out.trans (hb.mono Hb.out.size)); clear hb HK
          go_wp2
          go_ret
          exact ⟨rfl, HB.out.trans (Hb.out.mono HB.out.size)⟩
      case neg =>
        have f2 := F2.out
        clear X2 B2 f2
        go_upto_region 21 with fail
        go_wp2_with fail
        refine (HE3.out _).mono ?_
        rintro e' w6 ⟨cs, rfl, hx, hb⟩
        have F2 := Lib.hid (F2.out.keep hb)
        have Hb := Lib.hid (Hb.out.trans (hb.mono Hb.out.size)); clear hb
        obtain ⟨pm3, cm3, pn3, cn3, pk3, ck3, rfl, -⟩ := hx.cellsE
        have X3 := Lib.hid hx; clear hx
        have F3 := Lib.hid (F2.out.keep ((Below.refl _ _).alloc (Nat.le_refl _) (.cells #[.int .i64 y.kind, .int .i64 y.fn, .int .i64 y.op, .int .i64 y.num, .string y.metric, .slice pm3 y.mats.length cm3, .int .i64 y.span, .slice pn3 y.names.length cn3, .slice pk3 y.kids.length ck3] 28)))
        have HL6 := Lib.hid F2.out.lt
        go_upto_region 22 with (refine wpList_store_row rfl 31 _ _ rfl (w4.heap.size + 1) #[.int .i64 fe3, .int .i64 fa3] rfl rfl 31 _ F3.out (by kernel_rfl) rfl (by kernel_rfl) ?_)
        obtain ⟨y6, hW⟩ : ∃ zz, (w6.alloc (.cells #[.int .i64 y.kind, .int .i64 y.fn, .int .i64 y.op, .int .i64 y.num, .string y.metric, .slice pm3 y.mats.length cm3, .int .i64 y.span, .slice pn3 y.names.length cn3, .slice pk3 y.kids.length ck3] 28)).setRow (w4.heap.size + 1) #[.int .i64 fe3, .int .i64 fa3] = zz := ⟨_, rfl⟩
        have hb : Below y3.heap.size y3 y6 := by rw [← hW]; exact below_setRow (Hb.out.alloc Hb.out.size _) (by have := HN5.out; omega) _
        have B3 : Blk y6 w6.heap.size 28 [.int .i64 y.kind, .int .i64 y.fn, .int .i64 y.op, .int .i64 y.num, .string y.metric, .slice pm3 y.mats.length cm3, .int .i64 y.span, .slice pn3 y.names.length cn3, .slice pk3 y.kids.length ck3] := by rw [← hW]; exact (setRow_far _ _ _ (by have := HL6.out; omega)).trans (Blk.new w6 [.int .i64 y.kind, .int .i64 y.fn, .int .i64 y.op, .int .i64 y.num, .string y.metric, .slice pm3 y.mats.length cm3, .int .i64 y.span, .slice pn3 y.names.length cn3, .slice pk3 y.kids.length ck3] 28)
        have F4 : Blk y6 (w4.heap.size + 1) 31 [.int .i64 fe3, .int .i64 fa3] := by rw [← hW]; exact setRow_at F3.out _
        have x3 : IsEx w6.heap.size y6 y [.int .i64 y.kind, .int .i64 y.fn, .int .i64 y.op, .int .i64 y.num, .string y.metric, .slice pm3 y.mats.length cm3, .int .i64 y.span, .slice pn3 y.names.length cn3, .slice pk3 y.kids.length ck3] := by
          rw [← hW]
          exact (X3.out.mono ((Below.refl _ _).alloc (Nat.le_refl _) _) (Nat.le_refl _)).rowInt (by simp) F3.out _
        have hz : w6.heap.size ≤ y6.heap.size := by rw [← hW, setRow_size]; simp
        rw [hW]; clear hW
        have Hb := Lib.hid hb; have B3 := Lib.hid B3; have F2 := Lib.hid F4; have X3 := Lib.hid x3; have HZ := Lib.hid hz
        clear hb F4 x3 hz F3
        have f2 := F2.out
        have q20 := f2.cell 0 _ rfl; have q21 := f2.cell 1 _ rfl
        clear f2
        rcases HR3.out with rfl | ⟨rfl, rfl, e3, hc⟩
        · clear X3 B3 HR3
          go_upto_region 24 with fail
          have hob := one_back y6 cB
          rw [HuB.out] at hob
          have d3 : ¬ 9223372036854775807 < 6 + 1 + 2 + s.size := by omega
          go_wp2_with (go_at_call 11; refine (HPe.out _).mono ?_; rintro e' v8 ⟨rfl, rfl⟩)
          refine (HE4.out _ (by simp only [sl_app]; rw [HcB.out, show sl ⟨#[101, 118, 101, 114, 121, 32]⟩ 0 = everyL ++ [32] from rfl, show sl ⟨#[cB]⟩ 0 = [cB] from rfl, show sl ⟨#[58, 32]⟩ 0 = [58, 32] from rfl]; simp) (by simp only [ByteArray.size_append, szL1, szL2, szL6]; omega) _).mono ?_
          rintro e' w9 ⟨cs, rfl, hx, hb⟩
          have hal : Below y6.heap.size y6 (y6.alloc (.cells #[.int .u8 (48 + (m + 1))] 5)) := (Below.refl _ _).alloc (Nat.le_refl _) _
          have hb := hal.trans (hb.mono hal.size)
          have F2 := Lib.hid (F2.out.keep hb)
          have Hb := Lib.hid (Hb.out.trans (hb.mono Hb.out.size)); clear hb hal hob
          obtain ⟨pm4, cm4, pn4, cn4, pk4, ck4, rfl, -⟩ := hx.cellsE
          have X4 := Lib.hid hx; clear hx
          have F3 := Lib.hid (F2.out.keep ((Below.refl _ _).alloc (Nat.le_refl _) (.cells #[.int .i64 mn, .int .i64 x.kind, .int .i64 x.fn, .int .i64 x.op, .int .i64 x.num, .string x.metric, .slice pm4 x.mats.length cm4, .int .i64 x.span, .slice pn4 x.names.length cn4, .slice pk4 x.kids.length ck4] 42)))
          have HL9 := Lib.hid F2.out.lt
          go_upto_region 26 with (refine wpList_store_row rfl 31 _ _ rfl (w4.heap.size + 1) #[.int .i64 0, .int .i64 0] rfl rfl 31 _ F3.out (by kernel_rfl) rfl (by kernel_rfl) ?_)
          obtain ⟨y9, hW⟩ : ∃ zz, (w9.alloc (.cells #[.int .i64 mn, .int .i64 x.kind, .int .i64 x.fn, .int .i64 x.op, .int .i64 x.num, .string x.metric, .slice pm4 x.mats.length cm4, .int .i64 x.span, .slice pn4 x.names.length cn4, .slice pk4 x.kids.length ck4] 42)).setRow (w4.heap.size + 1) #[.int .i64 0, .int .i64 0] = zz := ⟨_, rfl⟩
          have hb : Below y3.heap.size y3 y9 := by rw [← hW]; exact below_setRow (Hb.out.alloc Hb.out.size _) (by have := HN5.out; omega) _
          have B4 : Blk y9 w9.heap.size 42 [.int .i64 mn, .int .i64 x.kind, .int .i64 x.fn, .int .i64 x.op, .int .i64 x.num, .string x.metric, .slice pm4 x.mats.length cm4, .int .i64 x.span, .slice pn4 x.names.length cn4, .slice pk4 x.kids.length ck4] := by rw [← hW]; exact (setRow_far _ _ _ (by have := HL9.out; omega)).trans (Blk.new w9 [.int .i64 mn, .int .i64 x.kind, .int .i64 x.fn, .int .i64 x.op, .int .i64 x.num, .string x.metric, .slice pm4 x.mats.length cm4, .int .i64 x.span, .slice pn4 x.names.length cn4, .slice pk4 x.kids.length ck4] 42)
          have F4 : Blk y9 (w4.heap.size + 1) 31 [.int .i64 0, .int .i64 0] := by rw [← hW]; exact setRow_at F3.out _
          have x4 : IsEx w9.heap.size y9 x [.int .i64 x.kind, .int .i64 x.fn, .int .i64 x.op, .int .i64 x.num, .string x.metric, .slice pm4 x.mats.length cm4, .int .i64 x.span, .slice pn4 x.names.length cn4, .slice pk4 x.kids.length ck4] := by
            rw [← hW]
            exact (X4.out.mono ((Below.refl _ _).alloc (Nat.le_refl _) _) (Nat.le_refl _)).rowInt (by simp) F3.out _
          have hz : w9.heap.size ≤ y9.heap.size := by rw [← hW, setRow_size]; simp
          rw [hW]; clear hW
          have HK := Lib.hid (kExpr x x _ _ _ y9 (Nat.le_refl _) (x4.mono (Below.refl _ _) hz) (X1.out.mono (hb.mono (by have := HN4.out; omega)) (show w1.heap.size ≤ y9.heap.size by have := HN4.out; have := hb.size; omega)))
          have b1 := B1.out.keep hb
          have p10 := b1.cell 0 _ rfl; have p11 := b1.cell 1 _ rfl; have p12 := b1.cell 2 _ rfl; have p13 := b1.cell 3 _ rfl; have p14 := b1.cell 4 _ rfl; have p15 := b1.cell 5 _ rfl; have p16 := b1.cell 6 _ rfl; have p17 := b1.cell 7 _ rfl; have p18 := b1.cell 8 _ rfl
          have p40 := B4.cell 0 _ rfl; have p41 := B4.cell 1 _ rfl; have p42 := B4.cell 2 _ rfl; have p43 := B4.cell 3 _ rfl; have p44 := B4.cell 4 _ rfl; have p45 := B4.cell 5 _ rfl; have p46 := B4.cell 6 _ rfl; have p47 := B4.cell 7 _ rfl; have p48 := B4.cell 8 _ rfl; have p49 := B4.cell 9 _ rfl
          have q40 := F4.cell 0 _ rfl; have q41 := F4.cell 1 _ rfl
          have Hb := Lib.hid hb
          clear b1 B4 F4 x4 hz hb X4 F2 F3
          go_wp2_with fail
          refine HK.out.mono ?_
          rintro e' w10 ⟨rfl, hb⟩
          have Hb := Lib.hid (Hb.out.trans (hb.mono Hb.out.size)); clear hb HK
          go_wp2
          go_ret
          exact ⟨rfl, HB.out.trans (Hb.out.mono HB.out.size)⟩
        · replace e3 := e3.symm
          subst e3
          clear HR3 hc
          have X1' := X1.out.mono (Hb.out.mono (by have := HN4.out; omega)) (show w1.heap.size ≤ y6.heap.size by have := HN4.out; have := Hb.out.size; omega)
          have HK := Lib.hid (kExpr x x _ _ _ y6 (Nat.le_refl _) (X3.out.mono (Below.refl _ _) HZ.out) X1')
          have b1 := B1.out.keep Hb.out
          have p10 := b1.cell 0 _ rfl; have p11 := b1.cell 1 _ rfl; have p12 := b1.cell 2 _ rfl; have p13 := b1.cell 3 _ rfl; have p14 := b1.cell 4 _ rfl; have p15 := b1.cell 5 _ rfl; have p16 := b1.cell 6 _ rfl; have p17 := b1.cell 7 _ rfl; have p18 := b1.cell 8 _ rfl
          have b3 := B3.out
          have p30 := b3.cell 0 _ rfl; have p31 := b3.cell 1 _ rfl; have p32 := b3.cell 2 _ rfl; have p33 := b3.cell 3 _ rfl; have p34 := b3.cell 4 _ rfl; have p35 := b3.cell 5 _ rfl; have p36 := b3.cell 6 _ rfl; have p37 := b3.cell 7 _ rfl; have p38 := b3.cell 8 _ rfl
          clear b1 b3 X1'
          go_wp2_with fail
          refine HK.out.mono ?_
          rintro e' w7 ⟨rfl, hb⟩
          have F2 := Lib.hid (F2.out.keep hb)
          have Hb := Lib.hid (Hb.out.trans (hb.mono Hb.out.size)); clear hb HK X3 B3 HZ
          clear p10 p11 p12 p13 p14 p15 p16 p17 p18 p30 p31 p32 p33 p34 p35 p36 p37 p38 q20 q21
          go_upto_region 24 with fail
          have hob := one_back w7 cB
          rw [HuB.out] at hob
          have d3 : ¬ 9223372036854775807 < 6 + 1 + 2 + s.size := by omega
          go_wp2_with (go_at_call 11; refine (HPe.out _).mono ?_; rintro e' v8 ⟨rfl, rfl⟩)
          refine (HE4.out _ (by simp only [sl_app]; rw [HcB.out, show sl ⟨#[101, 118, 101, 114, 121, 32]⟩ 0 = everyL ++ [32] from rfl, show sl ⟨#[cB]⟩ 0 = [cB] from rfl, show sl ⟨#[58, 32]⟩ 0 = [58, 32] from rfl]; simp) (by simp only [ByteArray.size_append, szL1, szL2, szL6]; omega) _).mono ?_
          rintro e' w9 ⟨cs, rfl, hx, hb⟩
          have hal : Below w7.heap.size w7 (w7.alloc (.cells #[.int .u8 (48 + (m + 1))] 5)) := (Below.refl _ _).alloc (Nat.le_refl _) _
          have hb := hal.trans (hb.mono hal.size)
          have F2 := Lib.hid (F2.out.keep hb)
          have Hb := Lib.hid (Hb.out.trans (hb.mono Hb.out.size)); clear hb hal hob
          obtain ⟨pm4, cm4, pn4, cn4, pk4, ck4, rfl, -⟩ := hx.cellsE
          have X4 := Lib.hid hx; clear hx
          have F3 := Lib.hid (F2.out.keep ((Below.refl _ _).alloc (Nat.le_refl _) (.cells #[.int .i64 mn, .int .i64 x.kind, .int .i64 x.fn, .int .i64 x.op, .int .i64 x.num, .string x.metric, .slice pm4 x.mats.length cm4, .int .i64 x.span, .slice pn4 x.names.length cn4, .slice pk4 x.kids.length ck4] 42)))
          have HL9 := Lib.hid F2.out.lt
          go_upto_region 26 with (refine wpList_store_row rfl 31 _ _ rfl (w4.heap.size + 1) #[.int .i64 0, .int .i64 0] rfl rfl 31 _ F3.out (by kernel_rfl) rfl (by kernel_rfl) ?_)
          obtain ⟨y9, hW⟩ : ∃ zz, (w9.alloc (.cells #[.int .i64 mn, .int .i64 x.kind, .int .i64 x.fn, .int .i64 x.op, .int .i64 x.num, .string x.metric, .slice pm4 x.mats.length cm4, .int .i64 x.span, .slice pn4 x.names.length cn4, .slice pk4 x.kids.length ck4] 42)).setRow (w4.heap.size + 1) #[.int .i64 0, .int .i64 0] = zz := ⟨_, rfl⟩
          have hb : Below y3.heap.size y3 y9 := by rw [← hW]; exact below_setRow (Hb.out.alloc Hb.out.size _) (by have := HN5.out; omega) _
          have B4 : Blk y9 w9.heap.size 42 [.int .i64 mn, .int .i64 x.kind, .int .i64 x.fn, .int .i64 x.op, .int .i64 x.num, .string x.metric, .slice pm4 x.mats.length cm4, .int .i64 x.span, .slice pn4 x.names.length cn4, .slice pk4 x.kids.length ck4] := by rw [← hW]; exact (setRow_far _ _ _ (by have := HL9.out; omega)).trans (Blk.new w9 [.int .i64 mn, .int .i64 x.kind, .int .i64 x.fn, .int .i64 x.op, .int .i64 x.num, .string x.metric, .slice pm4 x.mats.length cm4, .int .i64 x.span, .slice pn4 x.names.length cn4, .slice pk4 x.kids.length ck4] 42)
          have F4 : Blk y9 (w4.heap.size + 1) 31 [.int .i64 0, .int .i64 0] := by rw [← hW]; exact setRow_at F3.out _
          have x4 : IsEx w9.heap.size y9 x [.int .i64 x.kind, .int .i64 x.fn, .int .i64 x.op, .int .i64 x.num, .string x.metric, .slice pm4 x.mats.length cm4, .int .i64 x.span, .slice pn4 x.names.length cn4, .slice pk4 x.kids.length ck4] := by
            rw [← hW]
            exact (X4.out.mono ((Below.refl _ _).alloc (Nat.le_refl _) _) (Nat.le_refl _)).rowInt (by simp) F3.out _
          have hz : w9.heap.size ≤ y9.heap.size := by rw [← hW, setRow_size]; simp
          rw [hW]; clear hW
          have HK := Lib.hid (kExpr x x _ _ _ y9 (Nat.le_refl _) (x4.mono (Below.refl _ _) hz) (X1.out.mono (hb.mono (by have := HN4.out; omega)) (show w1.heap.size ≤ y9.heap.size by have := HN4.out; have := hb.size; omega)))
          have b1 := B1.out.keep hb
          have p10 := b1.cell 0 _ rfl; have p11 := b1.cell 1 _ rfl; have p12 := b1.cell 2 _ rfl; have p13 := b1.cell 3 _ rfl; have p14 := b1.cell 4 _ rfl; have p15 := b1.cell 5 _ rfl; have p16 := b1.cell 6 _ rfl; have p17 := b1.cell 7 _ rfl; have p18 := b1.cell 8 _ rfl
          have p40 := B4.cell 0 _ rfl; have p41 := B4.cell 1 _ rfl; have p42 := B4.cell 2 _ rfl; have p43 := B4.cell 3 _ rfl; have p44 := B4.cell 4 _ rfl; have p45 := B4.cell 5 _ rfl; have p46 := B4.cell 6 _ rfl; have p47 := B4.cell 7 _ rfl; have p48 := B4.cell 8 _ rfl; have p49 := B4.cell 9 _ rfl
          have q40 := F4.cell 0 _ rfl; have q41 := F4.cell 1 _ rfl
          have Hb := Lib.hid hb
          clear b1 B4 F4 x4 hz hb X4 F2 F3
          go_wp2_with fail
          refine HK.out.mono ?_
          rintro e' w10 ⟨rfl, hb⟩
          have Hb := Lib.hid (Hb.out.trans (hb.mono Hb.out.size)); clear hb HK
          go_wp2
          go_ret
          exact ⟨rfl, HB.out.trans (Hb.out.mono HB.out.size)⟩
end Go.Proofs.YtpmbamfpmmdhcaaGreat
