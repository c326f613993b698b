/- LexJoins: the walk. -/
import Derived.Test.YtgjeomcflapmpaaLz0
import Derived.Test.YtgjeomcflapmpaaLy4
namespace Go.Proofs.Ytgjeomcflapmpaa
open Go.RowKit
set_option linter.unusedSimpArgs false
set_option linter.unusedVariables false

theorem lexAll_ok {s : ByteArray} {l : List Tok} (hs : s.size ≤ 16384) (h : lexL true 0 (sl s 0) = .ok l) : lexAll s = (l, 0, 0) := by
  unfold lexAll; rw [if_neg (by omega), h]
theorem lexAll_err {s : ByteArray} {a : Nat} (hs : s.size ≤ 16384) (h : lexL true 0 (sl s 0) = .error a) : lexAll s = ([], 13, (a : Int)) := by
  unfold lexAll; rw [if_neg (by omega), h]
theorem sl_zero (s : ByteArray) : sl s 0 = s.data.toList := by unfold sl; simp
/-- The first token of the second text. -/
theorem first_of {t : ByteArray} {lb : List Tok} (h : lexL true 0 (sl t 0) = .ok lb) :
    ∃ t0 b', lb = t0 :: b' ∧ ((t0.kind = 5 ∧ okHead (t.size + 1) (sl t 0) = true) ∨ (t0.kind ≠ 5 ∧ ∃ j, ∃ hj : j < t.size, t0.pos = ((j : Nat) : Int) ∧ okHead (t.size + 1) (sl t 0) = !(t[j] == 45))) := by
  obtain ⟨t0, b', e, h1⟩ := lex_head (t.size + 1) (sl t 0) true 0 lb (by rw [sl_length]; omega) h
  refine ⟨t0, b', e, ?_⟩
  rcases h1 with h1 | ⟨h1, j, hj, h2, h3⟩
  · exact .inl h1
  · rw [sl_length] at hj
    refine .inr ⟨h1, j, by omega, by rw [h2, Nat.zero_add], ?_⟩
    rw [h3]
    simp only [sl_zero]; rfl
theorem join_all {s t : ByteArray} {la lb : List Tok} (hs : s.size ≤ 3000) (ht : t.size ≤ 3000) (ha : lexL true 0 (sl s 0) = .ok la) (hb : lexL true 0 (sl t 0) = .ok lb) (ho : okHead (t.size + 1) (sl t 0) = true) (x : ByteArray) (hx : x.data.toList = s.data.toList ++ 10 :: t.data.toList) :
    lexAll x = (la.dropLast ++ lb.map (shift (s.size + 1)), 0, 0) := by
  have hxs : x.size = s.size + 1 + t.size := by
    have h1 : x.size = x.data.toList.length := by simp
    rw [h1, hx]; simp; omega
  refine lexAll_ok (by omega) ?_
  rw [sl_zero] at *
  rw [hx, lex_app (s.size + 1) s.data.toList true 0 la t.data.toList lb (by simp) ha (by simpa using ho) hb]
  congr 4; simp

/-- The front part of a slice. -/
theorem IsToks.front {n : Nat} {w : World} {p : Option Addr} {len cap : Nat} {l : List Tok} (h : IsToks n w (.slice p len cap) l) {k : Nat} (hk : k ≤ l.length) : IsToks n w (.slice p k cap) (l.take k) := by
  obtain ⟨p', cap', hv, h1, h2, h3⟩ := h
  simp only [List.length_map] at h1 hv
  injection hv with e1 e2 e3
  subst e1 e2 e3
  refine ⟨p, cap, by simp; omega, by simp; omega, h2, fun hne => ?_⟩
  obtain ⟨b, off, hp, hb, hc⟩ := h3 (by intro e; apply hne; simp at e; simp [e])
  refine ⟨b, off, hp, hb, fun j r hr i x hx => hc j r ?_ i x hx⟩
  rw [List.getElem?_map] at hr ⊢
  by_cases hj : j < k
  · rwa [List.getElem?_take_of_lt hj] at hr
  · rw [List.getElem?_eq_none (by simp; omega)] at hr; cases hr
theorem IsToks.src {n : Nat} {w : World} {ad : Addr} {len cap : Nat} {l : List Tok} (h : IsToks n w (.slice (some ad) len cap) l) : Src w (.slice (some ad) len cap) 4 l.length (l.map Tok.cells).flatten := by
  have hl : len = (l.map Tok.cells).length := h.len.1
  subst hl
  have := Src.of_arr h (cells_len l) (by decide) (fun e => by cases e)
  rw [List.length_map] at this ⊢
  exact this
theorem IsToks.src' {n : Nat} {W : World} {ad : Addr} {k cap : Nat} {l : List Tok} (h : IsToks n W (.slice (some ad) k cap) l) (hl : l.length = k) (o : Obj) : Src (W.alloc o) (.slice (some ad) k cap) 4 k (l.map Tok.cells).flatten := by
  have := h.src
  rw [hl] at this
  exact this.keep fun p x hx => by rw [World.cell?_alloc_some W p o (by rw [hx]; rfl)]; exact hx
theorem src_new' {W : World} {cs cs' : List Value} {t m c sz g : Nat} (hl : cs'.length = m * sz) (hg : g = W.heap.size) (he : cs = cs') : Src (W.alloc (.cells cs.toArray t)) (.slice (some ⟨g, 0, none⟩) m c) sz m cs' := by
  subst he; exact src_new hl hg
theorem own_none (W : World) : (W.alloc (.cells #[] 30)).ownsRow W.heap.size 30 4 (.slice (some ⟨W.heap.size, 0, none⟩) 0 0) 0 [] :=
  ⟨rfl, .inr ⟨W.heap.size, 0, #[], rfl, Nat.le_refl _, World.alloc_heap_new W _, Nat.le_refl _, Nat.zero_le _, rfl, rfl⟩⟩

theorem tokensYes (l : List Tok) (va vb : Value) (n : Nat) (w : World) (hn : n ≤ w.heap.size) (ha : IsToks n w va l) (hb : IsToks n w vb l) :
    Calls Try.prog 7 #[va, vb, .bool true] w fun e w' => e = .returned (.bool true) ∧ Below w.heap.size w w' := by
  have := kTokens true l l va vb n w hn ha hb
  rwa [toksEq_true, decide_eq_true rfl] at this
theorem small_join {s t : ByteArray} (h1 : s.size ≤ 3000) (h2 : t.size ≤ 3000) : (s ++ ⟨#[10]⟩ ++ t).size ≤ maxLen := by
  rw [ByteArray.size_append, ByteArray.size_append]
  have : (⟨#[10]⟩ : ByteArray).size = 1 := rfl
  unfold maxLen; omega
/-- What the law says of two texts. -/
def JoinTrue (w : World) (e : Ending) (w' : World) : Prop := e = .returned (.bool true) ∧ Below w.heap.size w w'

theorem two_one (w : World) (cs : List Value) : Blk (w.alloc (.cells cs.toArray 26)) w.heap.size 26 cs := Blk.new w cs 26

set_option maxRecDepth 100000 in
set_option maxHeartbeats 1000000 in
theorem wJoins_err1 (s t : ByteArray) (la lb : List Tok) (ea aa eb ab : Int) (w : World) (h1 : (s.size : Int) ≤ 3000) (h2 : (t.size : Int) ≤ 3000) (HA : Hid (∀ wx : World, Calls Try.prog 6 #[.string s] wx fun e w' => ∃ p cap, e = .returned (.tuple #[.slice p la.length cap, .agg #[.int .i64 ea, .int .i64 aa]]) ∧ OwnT wx.heap.size w' (.slice p la.length cap) la ∧ Below wx.heap.size wx w'))
    (HB : Hid (∀ wx : World, Calls Try.prog 6 #[.string t] wx fun e w' => ∃ p cap, e = .returned (.tuple #[.slice p lb.length cap, .agg #[.int .i64 eb, .int .i64 ab]]) ∧ OwnT wx.heap.size w' (.slice p lb.length cap) lb ∧ Below wx.heap.size wx w'))
    (hb : ea = 13 ∨ (ea = 0 ∧ aa = 0 ∧ eb = 13)) : Calls Try.prog 3 #[.string s, .string t] w (JoinTrue w) := by
  have HL := Lib.hid (fun wx => lLives wx)
  have g1 : ¬ (3000 : Int) < (s.size : Int) := by omega
  have g2 : ¬ (3000 : Int) < (t.size : Int) := by omega
  have g3 : (0 : Int) ≤ (s.size : Int) := by omega
  clear h1 h2
  rcases hb with rfl | ⟨rfl, rfl, rfl⟩
  all_goals
    go_enter Try.func3, Try.ntmps3; (try simp only [List.append_eq, List.cons_append, List.nil_append])
    go_wp2_with (first
      | (go_at_call 5; refine (HL.out _).mono ?_; rintro e w1 ⟨rfl, hb1⟩; have HW := Lib.hid hb1; clear hb1)
      | (go_at_call 6; (with_reducible refine (HA.out _).mono ?_); rintro e w2 ⟨p, cap, rfl, ho1, hb1⟩; have HT1 := Lib.hid (ho1.toks (Nat.le_refl _)); clear ho1; have HW := Lib.hid (HW.out.trans (hb1.mono HW.out.size)); clear hb1)
      | (go_at_call 6; (with_reducible refine (HB.out _).mono ?_); rintro e w3 ⟨q, caq, rfl, ho1, hb1⟩; have HT2 := Lib.hid (ho1.toks (Nat.le_refl _)); clear ho1; have hz3 := hb1.size; simp at hz3; have hz4 : w2.heap.size < w3.heap.size := Nat.lt_of_succ_le hz3; have hbk := (two_one w2 [.int .i64 _, .int .i64 _]).keep hb1; have d0 := hbk.cell 0 _ rfl; have d1 := hbk.cell 1 _ rfl; clear hbk; have HC := Lib.hid (((Below.refl w2.heap.size w2).alloc (Nat.le_refl _) _).trans (hb1.mono (by simp))); have HW := Lib.hid (HW.out.trans (HC.out.mono HW.out.size)); clear hb1))
    all_goals go_ret
    all_goals first | exact ⟨rfl, HW.out⟩ | exact ⟨rfl, HW.out.alloc (by have := HW.out.size; omega) _⟩

set_option maxRecDepth 100000 in
set_option maxHeartbeats 4000000 in
theorem wJoins (s t : ByteArray) (w : World) (hs : s.size ≤ maxLen) (ht : t.size ≤ maxLen) : Calls Try.prog 3 #[.string s, .string t] w (JoinTrue w) := by
  have HL := Lib.hid (fun wx => lLives wx)
  by_cases h1 : s.size ≤ 3000
  · by_cases h2 : t.size ≤ 3000
    · have HSm := Lib.hid hs
      clear hs ht
      cases ha : lexL true 0 (sl s 0) with
      | error a =>
        have hea := lexAll_err (by omega) ha
        obtain ⟨lb, eb, ab, heb⟩ : ∃ lb eb ab, lexAll t = (lb, eb, ab) := ⟨_, _, _, rfl⟩
        exact wJoins_err1 s t _ _ _ _ _ _ w (by omega) (by omega) (Lib.hid fun wx => allOf hea HSm.out wx) (Lib.hid fun wx => allOf heb (by unfold maxLen; omega) wx) (.inl rfl)
      | ok la =>
        cases hb : lexL true 0 (sl t 0) with
        | error a =>
          exact wJoins_err1 s t _ _ _ _ _ _ w (by omega) (by omega) (Lib.hid fun wx => allOf (lexAll_ok (Nat.le_trans h1 (by decide)) ha) HSm.out wx) (Lib.hid fun wx => allOf (lexAll_err (by omega) hb) (by unfold maxLen; omega) wx) (.inr ⟨rfl, rfl, rfl⟩)
        | ok lb =>
          obtain ⟨t0, b', e0, hf⟩ := first_of hb
          have hla := lex_ne ha
          obtain ⟨x, hx⟩ : ∃ x : ByteArray, x.data.toList = s.data.toList ++ 10 :: t.data.toList := ⟨⟨(s.data.toList ++ 10 :: t.data.toList).toArray⟩, rfl⟩
          have HJ := Lib.hid (fun ho => join_all h1 h2 ha hb ho (s ++ ⟨#[10]⟩ ++ t) (by simp))
          have HA := Lib.hid (fun wx => allOf (lexAll_ok (Nat.le_trans h1 (by decide)) ha) HSm.out wx)
          have HB := Lib.hid (fun wx => allOf (lexAll_ok (Nat.le_trans h2 (by decide)) hb) (by unfold maxLen; omega) wx)
          have HP := Lib.hid (lex_pos (t.size + 1) (sl t 0) true 0 lb (by rw [sl_length]; omega) hb)
          have E0 := Lib.hid e0; clear e0
          have g1 : ¬ (3000 : Int) < (s.size : Int) := by omega
          have g2 : ¬ (3000 : Int) < (t.size : Int) := by omega
          have hla0 : 0 < la.length := List.length_pos_iff.2 hla
          have hlb0 : 0 < lb.length := by rw [E0.out]; simp
          have gl1 : ((la.length : Int) == 0) = false := beq_eq_false_iff_ne.2 (by omega)
          have gl2 : ((lb.length : Int) == 0) = false := beq_eq_false_iff_ne.2 (by omega)
          have hlb0' : (0 : Nat) < lb.length := hlb0
          have Hlen := Lib.hid (lex_len (s.size + 1) (sl s 0) true 0 la (by rw [sl_length]; omega) ha)
          have Hlem := Lib.hid (lex_len (t.size + 1) (sl t 0) true 0 lb (by rw [sl_length]; omega) hb)
          rw [sl_length] at Hlen Hlem
          have hla1 : la.length ≤ 3001 := by have := Hlen.out; omega
          have hlb1 : lb.length ≤ 3001 := by have := Hlem.out; omega
          clear hla ha hb
          have e00 : lb[0] = t0 := by simp [E0.out]
          obtain ⟨i0, hi, hz0, hz1, hz2⟩ := info_parts infoT
          have hcase : (t0.kind = 5 ∧ okHead (t.size + 1) (sl t 0) = true) ∨ (t0.kind ≠ 5 ∧ ∃ j, ∃ hj : j < t.size, t0.pos = ((j : Nat) : Int) ∧ t[j] ≠ 45 ∧ okHead (t.size + 1) (sl t 0) = true) ∨ (t0.kind ≠ 5 ∧ ∃ j, ∃ hj : j < t.size, t0.pos = ((j : Nat) : Int) ∧ t[j] = 45) := by
            rcases hf with h | ⟨hk5, j, hj, hp, ho⟩
            · exact .inl h
            · by_cases h45 : t[j] = 45
              · exact .inr (.inr ⟨hk5, j, hj, hp, h45⟩)
              · exact .inr (.inl ⟨hk5, j, hj, hp, h45, by rw [ho]; simp [h45]⟩)
          clear hf
          rcases hcase with ⟨hk5, ho⟩ | ⟨hk5, j, hj, hp, h45, ho⟩ | ⟨hk5, j, hj, hp, h45⟩
          · have gk : (t0.kind != 5) = false := by simp [hk5]
            have Ho := Lib.hid (HJ.out ho); clear ho
            clear hk5 HJ
            go_enter Try.func3, Try.ntmps3; (try simp only [List.append_eq, List.cons_append, List.nil_append])
            go_upto_region 9 with (first
              | (go_at_call 5; refine (HL.out _).mono ?_; rintro e w1 ⟨rfl, hb1⟩; have HW := Lib.hid hb1; clear hb1)
              | (go_at_call 6; (with_reducible refine (HA.out _).mono ?_); rintro e w2 ⟨p, cap, rfl, ho1, hb1⟩; have HT1 := Lib.hid (ho1.toks (Nat.le_refl _)); clear ho1; have HW := Lib.hid (HW.out.trans (hb1.mono HW.out.size)); clear hb1)
              | (go_at_call 6; (with_reducible refine (HB.out _).mono ?_); rintro e w3 ⟨q, caq, rfl, ho1, hb1⟩; have HT2 := Lib.hid (ho1.toks (Nat.le_refl _)); clear ho1; have hz3 := hb1.size; simp at hz3; have hz4 : w2.heap.size < w3.heap.size := Nat.lt_of_succ_le hz3; have hbk := (two_one w2 [.int .i64 0, .int .i64 0]).keep hb1; have d0 := hbk.cell 0 _ rfl; have d1 := hbk.cell 1 _ rfl; clear hbk; have HC := Lib.hid (((Below.refl w2.heap.size w2).alloc (Nat.le_refl _) _).trans (hb1.mono (by simp))); have HW := Lib.hid (HW.out.trans (HC.out.mono HW.out.size)); clear hb1; obtain ⟨b, off, rfl, hbn, h0k, -, -, h0p⟩ := HT2.out.get (k := 0) hlb0'; rw [e00] at h0k h0p; simp only [Nat.zero_mul, Nat.add_zero] at h0k h0p))
            have HT1' := Lib.hid ((HT1.out.mono HC.out HC.out.size).mono ((Below.refl w3.heap.size w3).alloc (Nat.le_refl _) (.cells #[.int .i64 0, .int .i64 0] 26)) (Nat.le_add_right _ 1))
            have HT2' := Lib.hid (HT2.out.mono ((Below.refl w3.heap.size w3).alloc (Nat.le_refl _) (.cells #[.int .i64 0, .int .i64 0] 26)) (Nat.le_add_right _ 1))
            have HW' := Lib.hid (HW.out.alloc HW.out.size (.cells #[.int .i64 0, .int .i64 0] 26))
            obtain ⟨pb, poff, rfl, -⟩ := HT1'.out.get (k := 0) hla0
            have hcap : la.length ≤ cap := by have := (Arr.len HT1'.out).2.1; simpa using this
            have hcap1 : (la.length : Int) - 1 ≤ (cap : Int) := by omega
            have hla2 : la.length - 1 ≤ la.length := Nat.sub_le _ _
            have HF := Lib.hid (HT1'.out.front hla2)
            clear HC HT1 HT2 HW d0 d1 h0k h0p
            obtain ⟨W, hWe⟩ : ∃ W, w3.alloc (.cells #[.int .i64 0, .int .i64 0] 26) = W := ⟨_, rfl⟩
            have hWs : w3.heap.size + 1 = W.heap.size := by rw [← hWe]; simp
            rw [hWe] at HT1' HT2' HW' HF
            rw [hWs] at HT1' HT2' HF
            rw [hWe]
            have hsW := HW'.out.size
            clear hWe hWs hz3 hz4 hbn
            have hsub : ((la.length : Int) - 1).toNat = la.length - 1 := by omega
            have hsub0 : (0 : Int) ≤ (la.length : Int) - 1 := by omega
            have hlf : (la.take (la.length - 1)).length = la.length - 1 := by simp
            have Hlf := Lib.hid hlf; clear hlf
            go_wp2_with (at_builtin; refine wpList_append_src _ rfl _ _ _ rfl W.heap.size 30 i0 _ 4 40 Try.underlying23 hi hz0 hz1 hz2 rfl (by decide) _ _ [] rfl (own_none W) _ (la.length - 1) ((la.take (la.length - 1)).map Tok.cells).flatten rfl (HF.out.src' Hlf.out _) (cells_one _) (by unfold maxLen; omega) (by omega) (by simp) ?_; intro v4 w4 hown4 hgr4 hat4)
            have HB4 := Lib.hid (below_app ((Below.refl W.heap.size W).alloc (Nat.le_refl _) (.cells #[] 30)) (own_none W) hgr4 (Nat.le_refl _) (by simp))
            have HO4 : Hid (OwnT W.heap.size w4 v4 (la.dropLast ++ ((lb.take 0).map (shift (s.size + 1))))) := by
              show OwnT W.heap.size w4 v4 _
              rw [List.dropLast_eq_take]
              unfold OwnT
              rw [List.take_zero, List.map_nil, List.append_nil, Hlf.out]
              simpa using hown4
            clear hown4 hgr4 hat4
            have hs4 := HB4.out.size
            have hloop : ∀ k, k ≤ lb.length → (la.dropLast ++ ((lb.take k).map (shift (s.size + 1)))).length = la.length - 1 + k := by
              intro k hk
              rw [List.length_append, List.length_map, List.length_take, List.length_dropLast]; omega
            have Hloop := Lib.hid hloop; clear hloop
            go_loopw [9, 10] (fun v i wr => ∃ k : Nat, k ≤ lb.length ∧ i = .int .i64 k ∧ OwnT W.heap.size wr v (la.dropLast ++ ((lb.take k).map (shift (s.size + 1)))) ∧ Below W.heap.size W wr) (fun _ i _ => lb.length - (intOf i).toNat)
            case atStart => exact ⟨0, Nat.zero_le _, rfl, HO4.out, HB4.out⟩
            case round =>
              obtain ⟨k, hk, rfl, hown, hbl⟩ := hrel
              have Hown := Lib.hid hown; clear hown
              have Hbl := Lib.hid hbl; clear hbl
              have hszr := Hbl.out.size
              have HLk := Lib.hid (Hloop.out k hk)
              by_cases hlt : k < lb.length
              · obtain ⟨rb, roff, hre, hrb, c0, c1, c2, c3⟩ := (HT2'.out.mono Hbl.out (Nat.le_refl _)).get hlt
                cases hre
                have hpp := HP.out lb[k] (List.getElem_mem hlt)
                rw [sl_length] at hpp
                obtain ⟨hpp1, hpp2⟩ := hpp
                have hpp3 : lb[k].pos ≤ 3000 := by omega
                have hpp4 : 0 ≤ lb[k].pos := by omega
                clear hpp1 hpp2
                have Hsn : Hid ((lb.take (k + 1)).map (shift (s.size + 1)) = (lb.take k).map (shift (s.size + 1)) ++ [shift (s.size + 1) lb[k]]) := by
                  show _ = _
                  rw [List.take_succ_eq_append_getElem hlt, List.map_append]; rfl
                obtain ⟨A, cap', hv⟩ := ownsRow_slice Hown.out
                subst hv
                go_wp2_with (at_builtin; refine wpList_append_src _ rfl _ _ _ rfl W.heap.size 30 i0 _ 4 40 Try.underlying23 hi hz0 hz1 hz2 rfl (by decide) _ _ ((la.dropLast ++ ((lb.take k).map (shift (s.size + 1)))).map Tok.cells).flatten rfl (ownsRow_keep Hown.out (((Below.refl _ _).alloc (Nat.le_refl _) _).alloc (by simp) _)) _ 1 (shift (s.size + 1) lb[k]).cells rfl (src_new' rfl (by simp) (by simp [Tok.cells, shift]; omega)) (by intro u hu; exact cells_one [shift (s.size + 1) lb[k]] u (by simpa using hu)) (by have := HLk.out; unfold maxLen; omega) (by have := HLk.out; omega) (by simp; omega) ?_; intro v5 w5 hown5 hgr5 hat5)
                refine ⟨⟨k + 1, by omega, by go_num, ?_, below_app ((Hbl.out.alloc (by omega) _).alloc (by simp; omega) _) (ownsRow_keep Hown.out (((Below.refl _ _).alloc (Nat.le_refl _) _).alloc (by simp) _)) hgr5 (Nat.le_refl _) (by simp; omega)⟩, by simp [intOf]; omega⟩
                rw [Hsn.out, ← List.append_assoc]
                exact OwnT.app hown5
              · have hk' : k = lb.length := by omega
                subst hk'
                rw [List.take_length] at Hown
                have HTw := Lib.hid (Hown.out.toks (Nat.le_refl _))
                have HAj := Lib.hid (fun wx => allOf Ho.out (small_join h1 h2) wx)
                clear HLk Hown Hloop HB4 hs4
                generalize la.dropLast ++ lb.map (shift (s.size + 1)) = want at *
                go_wp2_with (first
                  | (go_at_call 6; (with_reducible refine (HAj.out _).mono ?_); rintro e w6 ⟨p6, c6, rfl, ho6, hb6⟩; have HO6 := Lib.hid ho6; clear ho6; have hz6 := hb6.size; have HB6 := Lib.hid hb6; clear hb6)
                  | (go_at_call 7; refine (tokensYes _ _ _ _ _ (Nat.le_refl _) ((HO6.out.keep ((Below.refl _ _).alloc (Nat.le_refl _) _)).toks (Nat.le_refl _)) ((HTw.out.mono HB6.out HB6.out.size).mono ((Below.refl _ _).alloc (Nat.le_refl _) _) (by simp))).mono ?_; rintro e w7 ⟨rfl, hb7⟩; have HB7 := Lib.hid hb7; clear hb7))
                all_goals go_ret
                all_goals exact ⟨rfl, ((HW'.out.trans (Hbl.out.mono hsW)).trans ((HB6.out.alloc (Nat.le_trans (Nat.le_refl _) HB6.out.size) _).mono (Nat.le_trans hsW hszr))).trans (HB7.out.mono (by have := HB6.out.size; simp; omega))⟩
          · have gk : (t0.kind != 5) = true := by simp [hk5]
            have Ho := Lib.hid (HJ.out ho); clear ho
            have gj : ((t[j].toNat : Int) == 45) = false := u8ne (n := 45) (by omega) h45
            have gj1 : (0 : Int) ≤ (j : Int) := by omega
            have gj2 : (j : Int) < (t.size : Int) := by omega
            have Hp := Lib.hid hp
            clear hk5 HJ h45 hp
            go_enter Try.func3, Try.ntmps3; (try simp only [List.append_eq, List.cons_append, List.nil_append])
            go_upto_region 9 with (first
              | (go_at_call 5; refine (HL.out _).mono ?_; rintro e w1 ⟨rfl, hb1⟩; have HW := Lib.hid hb1; clear hb1)
              | (go_at_call 6; (with_reducible refine (HA.out _).mono ?_); rintro e w2 ⟨p, cap, rfl, ho1, hb1⟩; have HT1 := Lib.hid (ho1.toks (Nat.le_refl _)); clear ho1; have HW := Lib.hid (HW.out.trans (hb1.mono HW.out.size)); clear hb1)
              | (go_at_call 6; (with_reducible refine (HB.out _).mono ?_); rintro e w3 ⟨q, caq, rfl, ho1, hb1⟩; have HT2 := Lib.hid (ho1.toks (Nat.le_refl _)); clear ho1; have hz3 := hb1.size; simp at hz3; have hz4 : w2.heap.size < w3.heap.size := Nat.lt_of_succ_le hz3; have hbk := (two_one w2 [.int .i64 0, .int .i64 0]).keep hb1; have d0 := hbk.cell 0 _ rfl; have d1 := hbk.cell 1 _ rfl; clear hbk; have HC := Lib.hid (((Below.refl w2.heap.size w2).alloc (Nat.le_refl _) _).trans (hb1.mono (by simp))); have HW := Lib.hid (HW.out.trans (HC.out.mono HW.out.size)); clear hb1; obtain ⟨b, off, rfl, hbn, h0k, -, -, h0p⟩ := HT2.out.get (k := 0) hlb0'; rw [e00] at h0k h0p; simp only [Nat.zero_mul, Nat.add_zero] at h0k h0p; rw [Hp.out] at h0p))
            have HT1' := Lib.hid ((HT1.out.mono HC.out HC.out.size).mono ((Below.refl w3.heap.size w3).alloc (Nat.le_refl _) (.cells #[.int .i64 0, .int .i64 0] 26)) (Nat.le_add_right _ 1))
            have HT2' := Lib.hid (HT2.out.mono ((Below.refl w3.heap.size w3).alloc (Nat.le_refl _) (.cells #[.int .i64 0, .int .i64 0] 26)) (Nat.le_add_right _ 1))
            have HW' := Lib.hid (HW.out.alloc HW.out.size (.cells #[.int .i64 0, .int .i64 0] 26))
            obtain ⟨pb, poff, rfl, -⟩ := HT1'.out.get (k := 0) hla0
            have hcap : la.length ≤ cap := by have := (Arr.len HT1'.out).2.1; simpa using this
            have hcap1 : (la.length : Int) - 1 ≤ (cap : Int) := by omega
            have hla2 : la.length - 1 ≤ la.length := Nat.sub_le _ _
            have HF := Lib.hid (HT1'.out.front hla2)
            clear HC HT1 HT2 HW d0 d1 h0k h0p
            obtain ⟨W, hWe⟩ : ∃ W, w3.alloc (.cells #[.int .i64 0, .int .i64 0] 26) = W := ⟨_, rfl⟩
            have hWs : w3.heap.size + 1 = W.heap.size := by rw [← hWe]; simp
            rw [hWe] at HT1' HT2' HW' HF
            rw [hWs] at HT1' HT2' HF
            rw [hWe]
            have hsW := HW'.out.size
            clear hWe hWs hz3 hz4 hbn
            have hsub : ((la.length : Int) - 1).toNat = la.length - 1 := by omega
            have hsub0 : (0 : Int) ≤ (la.length : Int) - 1 := by omega
            have hlf : (la.take (la.length - 1)).length = la.length - 1 := by simp
            have Hlf := Lib.hid hlf; clear hlf
            go_wp2_with (at_builtin; refine wpList_append_src _ rfl _ _ _ rfl W.heap.size 30 i0 _ 4 40 Try.underlying23 hi hz0 hz1 hz2 rfl (by decide) _ _ [] rfl (own_none W) _ (la.length - 1) ((la.take (la.length - 1)).map Tok.cells).flatten rfl (HF.out.src' Hlf.out _) (cells_one _) (by unfold maxLen; omega) (by omega) (by simp) ?_; intro v4 w4 hown4 hgr4 hat4)
            have HB4 := Lib.hid (below_app ((Below.refl W.heap.size W).alloc (Nat.le_refl _) (.cells #[] 30)) (own_none W) hgr4 (Nat.le_refl _) (by simp))
            have HO4 : Hid (OwnT W.heap.size w4 v4 (la.dropLast ++ ((lb.take 0).map (shift (s.size + 1))))) := by
              show OwnT W.heap.size w4 v4 _
              rw [List.dropLast_eq_take]
              unfold OwnT
              rw [List.take_zero, List.map_nil, List.append_nil, Hlf.out]
              simpa using hown4
            clear hown4 hgr4 hat4
            have hs4 := HB4.out.size
            have hloop : ∀ k, k ≤ lb.length → (la.dropLast ++ ((lb.take k).map (shift (s.size + 1)))).length = la.length - 1 + k := by
              intro k hk
              rw [List.length_append, List.length_map, List.length_take, List.length_dropLast]; omega
            have Hloop := Lib.hid hloop; clear hloop
            go_loopw [9, 10] (fun v i wr => ∃ k : Nat, k ≤ lb.length ∧ i = .int .i64 k ∧ OwnT W.heap.size wr v (la.dropLast ++ ((lb.take k).map (shift (s.size + 1)))) ∧ Below W.heap.size W wr) (fun _ i _ => lb.length - (intOf i).toNat)
            case atStart => exact ⟨0, Nat.zero_le _, rfl, HO4.out, HB4.out⟩
            case round =>
              obtain ⟨k, hk, rfl, hown, hbl⟩ := hrel
              have Hown := Lib.hid hown; clear hown
              have Hbl := Lib.hid hbl; clear hbl
              have hszr := Hbl.out.size
              have HLk := Lib.hid (Hloop.out k hk)
              by_cases hlt : k < lb.length
              · obtain ⟨rb, roff, hre, hrb, c0, c1, c2, c3⟩ := (HT2'.out.mono Hbl.out (Nat.le_refl _)).get hlt
                cases hre
                have hpp := HP.out lb[k] (List.getElem_mem hlt)
                rw [sl_length] at hpp
                obtain ⟨hpp1, hpp2⟩ := hpp
                have hpp3 : lb[k].pos ≤ 3000 := by omega
                have hpp4 : 0 ≤ lb[k].pos := by omega
                clear hpp1 hpp2
                have Hsn : Hid ((lb.take (k + 1)).map (shift (s.size + 1)) = (lb.take k).map (shift (s.size + 1)) ++ [shift (s.size + 1) lb[k]]) := by
                  show _ = _
                  rw [List.take_succ_eq_append_getElem hlt, List.map_append]; rfl
                obtain ⟨A, cap', hv⟩ := ownsRow_slice Hown.out
                subst hv
                go_wp2_with (at_builtin; refine wpList_append_src _ rfl _ _ _ rfl W.heap.size 30 i0 _ 4 40 Try.underlying23 hi hz0 hz1 hz2 rfl (by decide) _ _ ((la.dropLast ++ ((lb.take k).map (shift (s.size + 1)))).map Tok.cells).flatten rfl (ownsRow_keep Hown.out (((Below.refl _ _).alloc (Nat.le_refl _) _).alloc (by simp) _)) _ 1 (shift (s.size + 1) lb[k]).cells rfl (src_new' rfl (by simp) (by simp [Tok.cells, shift]; omega)) (by intro u hu; exact cells_one [shift (s.size + 1) lb[k]] u (by simpa using hu)) (by have := HLk.out; unfold maxLen; omega) (by have := HLk.out; omega) (by simp; omega) ?_; intro v5 w5 hown5 hgr5 hat5)
                refine ⟨⟨k + 1, by omega, by go_num, ?_, below_app ((Hbl.out.alloc (by omega) _).alloc (by simp; omega) _) (ownsRow_keep Hown.out (((Below.refl _ _).alloc (Nat.le_refl _) _).alloc (by simp) _)) hgr5 (Nat.le_refl _) (by simp; omega)⟩, by simp [intOf]; omega⟩
                rw [Hsn.out, ← List.append_assoc]
                exact OwnT.app hown5
              · have hk' : k = lb.length := by omega
                subst hk'
                rw [List.take_length] at Hown
                have HTw := Lib.hid (Hown.out.toks (Nat.le_refl _))
                have HAj := Lib.hid (fun wx => allOf Ho.out (small_join h1 h2) wx)
                clear HLk Hown Hloop HB4 hs4
                generalize la.dropLast ++ lb.map (shift (s.size + 1)) = want at *
                go_wp2_with (first
                  | (go_at_call 6; (with_reducible refine (HAj.out _).mono ?_); rintro e w6 ⟨p6, c6, rfl, ho6, hb6⟩; have HO6 := Lib.hid ho6; clear ho6; have hz6 := hb6.size; have HB6 := Lib.hid hb6; clear hb6)
                  | (go_at_call 7; refine (tokensYes _ _ _ _ _ (Nat.le_refl _) ((HO6.out.keep ((Below.refl _ _).alloc (Nat.le_refl _) _)).toks (Nat.le_refl _)) ((HTw.out.mono HB6.out HB6.out.size).mono ((Below.refl _ _).alloc (Nat.le_refl _) _) (by simp))).mono ?_; rintro e w7 ⟨rfl, hb7⟩; have HB7 := Lib.hid hb7; clear hb7))
                all_goals go_ret
                all_goals exact ⟨rfl, ((HW'.out.trans (Hbl.out.mono hsW)).trans ((HB6.out.alloc (Nat.le_trans (Nat.le_refl _) HB6.out.size) _).mono (Nat.le_trans hsW hszr))).trans (HB7.out.mono (by have := HB6.out.size; simp; omega))⟩
          · have gk : (t0.kind != 5) = true := by simp [hk5]
            have gj : ((t[j].toNat : Int) == 45) = true := u8b (n := 45) (by omega) h45
            have gj1 : (0 : Int) ≤ (j : Int) := by omega
            have gj2 : (j : Int) < (t.size : Int) := by omega
            have Hp := Lib.hid hp
            clear hk5 HJ h45 hp
            go_enter Try.func3, Try.ntmps3; (try simp only [List.append_eq, List.cons_append, List.nil_append])
            go_wp2_with (first
              | (go_at_call 5; refine (HL.out _).mono ?_; rintro e w1 ⟨rfl, hb1⟩; have HW := Lib.hid hb1; clear hb1)
              | (go_at_call 6; (with_reducible refine (HA.out _).mono ?_); rintro e w2 ⟨p, cap, rfl, ho1, hb1⟩; have HT1 := Lib.hid (ho1.toks (Nat.le_refl _)); clear ho1; have HW := Lib.hid (HW.out.trans (hb1.mono HW.out.size)); clear hb1)
              | (go_at_call 6; (with_reducible refine (HB.out _).mono ?_); rintro e w3 ⟨q, caq, rfl, ho1, hb1⟩; have HT2 := Lib.hid (ho1.toks (Nat.le_refl _)); clear ho1; have hz3 := hb1.size; simp at hz3; have hz4 : w2.heap.size < w3.heap.size := Nat.lt_of_succ_le hz3; have hbk := (two_one w2 [.int .i64 0, .int .i64 0]).keep hb1; have d0 := hbk.cell 0 _ rfl; have d1 := hbk.cell 1 _ rfl; clear hbk; have HC := Lib.hid (((Below.refl w2.heap.size w2).alloc (Nat.le_refl _) _).trans (hb1.mono (by simp))); have HW := Lib.hid (HW.out.trans (HC.out.mono HW.out.size)); clear hb1; obtain ⟨b, off, rfl, hbn, h0k, -, -, h0p⟩ := HT2.out.get (k := 0) hlb0'; rw [e00] at h0k h0p; simp only [Nat.zero_mul, Nat.add_zero] at h0k h0p; rw [Hp.out] at h0p))
            all_goals go_ret
            all_goals first | exact ⟨rfl, HW.out⟩ | exact ⟨rfl, HW.out.alloc (by have := HW.out.size; omega) _⟩
    · have h2' : (3000 : Int) < (t.size : Int) := by omega
      have h1' : ¬ (3000 : Int) < (s.size : Int) := by omega
      unfold maxLen at hs ht
      go_enter Try.func3, Try.ntmps3; (try simp only [List.append_eq, List.cons_append, List.nil_append])
      go_wp2_with (go_at_call 5; refine (HL.out _).mono ?_; rintro e w1 ⟨rfl, hb⟩)
      go_ret
      exact ⟨rfl, hb⟩
  · have h1' : (3000 : Int) < (s.size : Int) := by omega
    unfold maxLen at hs ht
    go_enter Try.func3, Try.ntmps3; (try simp only [List.append_eq, List.cons_append, List.nil_append])
    go_wp2_with (go_at_call 5; refine (HL.out _).mono ?_; rintro e w1 ⟨rfl, hb⟩)
    go_ret
    exact ⟨rfl, hb⟩

end Go.Proofs.Ytgjeomcflapmpaa
