/- LexBack's walk. -/
import Derived.Test.YtgjeomcflapmpaaDoorLj0
import Derived.Deep.QuietTactic
import Derived.BigQuiet
namespace Go.Proofs.YtgjeomcflapmpaaDoor
open Go.RowKit
set_option linter.unusedSimpArgs false
set_option linter.unusedVariables false

theorem unq_quote (t : ByteArray) : unq ⟨(quoteL t.data.toList).toArray⟩ = if t.size ≤ 64 then some t.data.toList else none := by
  have e0 : sl ⟨(quoteL t.data.toList).toArray⟩ 0 = 34 :: (qs t.data.toList ++ [34]) := by simp [sl, quoteL]
  have e1 : sl ⟨(quoteL t.data.toList).toArray⟩ 1 = qs t.data.toList ++ 34 :: [] := by simp [sl, quoteL]
  have e2 := textAt_qs t.data.toList []
  have e3 : (⟨(quoteL t.data.toList).toArray⟩ : ByteArray).size = (qs t.data.toList).length + 1 + 1 := by
    show (quoteL t.data.toList).toArray.size = _
    simp [quoteL]
  have e4 : t.data.toList.length = t.size := by simp
  unfold unq
  rw [e0, e1, e3]
  unfold textR
  rw [e2]
  by_cases h : t.size ≤ 64
  · simp [headIs, e4, h]
  · simp [headIs, e4, h]
theorem ba_size' {S : ByteArray} {l : List UInt8} (h : S.data.toList = l) : S.size = l.length := by subst h; simp
theorem ba_self (t : ByteArray) : (⟨t.data.toList.toArray⟩ : ByteArray) = t := by cases t; rfl

set_option maxRecDepth 100000 in
set_option maxHeartbeats 8000000 in
theorem wBack (s t : ByteArray) (w : World) (hT : TB w.heap.size w) (hs : s.size ≤ maxLen) (ht : t.size ≤ maxLen) : Calls Tryd.prog 3 #[.string s, .string t] w fun e w' => e = .returned (.bool true) ∧ Below w.heap.size w w' := by
  have HT := Lib.hid hT; clear hT
  by_cases h1 : s.size ≤ 3000
  · by_cases h2 : t.size ≤ 3000
    · have HSm := Lib.hid hs
      have g1 : ¬ (3000 : Int) < (s.size : Int) := by omega
      have g2 : ¬ (3000 : Int) < (t.size : Int) := by omega
      have hql := quoteL_length t.data.toList
      have htl : t.data.toList.length = t.size := by simp
      obtain ⟨Q, hQ⟩ : ∃ Q : ByteArray, (⟨(quoteL t.data.toList).toArray⟩ : ByteArray) = Q := ⟨_, rfl⟩
      have hQs : Q.size ≤ 16384 := by rw [← hQ]; show (quoteL t.data.toList).toArray.size ≤ _; simp; omega
      have hU := unq_quote t
      rw [hQ] at hU
      have HQ := Lib.hid hQ; clear hQ hql htl hs ht
      have HU := Lib.hid hU; clear hU
      have HQs := Lib.hid hQs; clear hQs
      go_enter Tryd.func3, Tryd.ntmps3; (try simp only [List.append_eq, List.cons_append, List.nil_append])
      go_wp2_with fail
      refine (lLives _).mono ?_
      rintro e w1 ⟨rfl, hb1⟩
      have HB := Lib.hid hb1; clear hb1
      go_wp2_with fail
      refine (lQuote t _ (by omega)).mono ?_
      rintro e w2 ⟨rfl, hb2⟩
      rw [HQ.out]
      have HB2 := Lib.hid (HB.out.trans (hb2.mono HB.out.size)); clear hb2 HB
      go_wp2_with fail
      refine (lUnquote Q _ HQs.out).mono ?_
      rintro e w3 ⟨rfl, hb3⟩
      have HB3 := Lib.hid (HB2.out.trans (hb3.mono HB2.out.size)); clear hb3 HB2
      have hUV : unqV (unq Q) = if t.size ≤ 64 then .tuple #[.string t, .bool true] else .tuple #[.string ⟨#[]⟩, .bool false] := by
        rw [HU.out]
        split
        · show Value.tuple #[.string ⟨t.data.toList.toArray⟩, .bool true] = _
          rw [ba_self]
        · rfl
      have hcase : (t.size ≤ 64 ∧ unqV (unq Q) = .tuple #[.string t, .bool true]) ∨ (64 < t.size ∧ unqV (unq Q) = .tuple #[.string ⟨#[]⟩, .bool false]) := by
        by_cases h : t.size ≤ 64
        · exact .inl ⟨h, by rw [hUV, if_pos h]⟩
        · exact .inr ⟨by omega, by rw [hUV, if_neg h]⟩
      clear hUV
      have hL := lex_rise (sl s 0).length (sl s 0) true 0
      have hE := lex_err (sl s 0).length (sl s 0) true 0
      have hls : (sl s 0).length = s.size := by simp [sl]
      cases hlx : lexL true 0 (sl s 0) with
      | error a =>
        have hae : a < s.size := by have := (hE a (Nat.le_refl _) hlx).2; omega
        have HA := Lib.hid (fun wx => allOf (lexAll_err (by omega) hlx) HSm.out wx)
        have g4 : (a : Int) < (s.size : Int) := by omega
        have g5 : (0 : Int) ≤ (a : Int) := by omega
        clear hL hE hls hlx hae
        rcases hcase with ⟨h64, hv⟩ | ⟨h64, hv⟩
        all_goals
          rw [hv]
          clear hv
        · have g3 : (t.size : Int) ≤ 64 := by omega
          go_wp2_with fail
          refine (HA.out _).mono ?_
          rintro e w4 ⟨p, cap, rfl, ho1, hb1⟩
          have HB4 := Lib.hid (HB3.out.trans (hb1.mono HB3.out.size)); clear hb1 HB3 ho1
          go_wp2
          go_ret
          exact ⟨rfl, HB4.out.alloc HB4.out.size _⟩
        · have g3 : ¬ (t.size : Int) ≤ 64 := by omega
          go_wp2_with fail
          refine (HA.out _).mono ?_
          rintro e w4 ⟨p, cap, rfl, ho1, hb1⟩
          have HB4 := Lib.hid (HB3.out.trans (hb1.mono HB3.out.size)); clear hb1 HB3 ho1
          go_wp2
          go_ret
          exact ⟨rfl, HB4.out.alloc HB4.out.size _⟩
      | ok l =>
        obtain ⟨-, hpw, ⟨ts, hts, -⟩, -⟩ := hL l (Nat.le_refl _) hlx
        obtain ⟨hok, hln⟩ := lex_ok (sl s 0).length (sl s 0) true 0 l (Nat.le_refl _) (by omega) hlx
        have hbk : ∃ m, lexL true 0 (joinToks l) = .ok m ∧ m.map (Tok.bare false) = l.map (Tok.bare false) := lex_back hlx
        obtain ⟨m, hm⟩ : ∃ m, ts.length = m := ⟨_, rfl⟩
        have hlm : l.length = m + 1 := by rw [hts]; simp [hm]
        have hlast : l[m]? = some ⟨5, [], 0, (s.size : Int)⟩ := by
          have e1 : (0 + (sl s 0).length : Nat) = s.size := by omega
          subst hm
          rw [hts, List.getElem?_append_right (Nat.le_refl _), Nat.sub_self, e1]; rfl
        have HA := fun wx => allOf (lexAll_ok (by omega) hlx) HSm.out wx
        rw [hlm] at HA
        have HA := Lib.hid HA
        have HPW := Lib.hid hpw
        have HBK := Lib.hid hbk
        have HLM := Lib.hid hlm
        have HLA := Lib.hid hlast
        have HOK := Lib.hid hok
        have hm3 : m ≤ 3000 := by omega
        clear hL hE hls hlx hpw hts hok hln hbk hm hlm hlast
        have fin : True := trivial
        rcases hcase with ⟨h64, hv⟩ | ⟨h64, hv⟩
        all_goals
          rw [hv]
          clear hv
        · have g3 : (t.size : Int) ≤ 64 := by omega
          go_wp2_with fail
          refine (HA.out _).mono ?_
          rintro e w4 ⟨p, cap, rfl, ho1, hb1⟩
          have HB4 := Lib.hid (HB3.out.trans (hb1.mono HB3.out.size)); clear hb1 HB3
          have HT4 := Lib.hid (ho1.toks (Nat.le_refl _)); clear ho1
          go_upto_region 11 with fail
          have hbx : Below w4.heap.size w4 (w4.alloc (.cells #[.int .i64 0, .int .i64 0] 29)) := (Below.refl _ _).alloc (Nat.le_refl _) _
          have HTX := Lib.hid (HT4.out.mono hbx hbx.size)
          have HBX := Lib.hid (HB4.out.trans (hbx.mono HB4.out.size))
          obtain ⟨X, hX⟩ : ∃ X, w4.alloc (.cells #[.int .i64 0, .int .i64 0] 29) = X := ⟨_, rfl⟩
          rw [hX] at HTX HBX hbx ⊢
          clear hX hbx HB4 HT4
          have hml : m < l.length := by have := HLM.out; omega
          have hlm : l[m] = ⟨5, [], 0, (s.size : Int)⟩ := by have := HLA.out; rw [List.getElem?_eq_getElem hml] at this; injection this
          obtain ⟨b, off, rfl, hbn, q1, q2, q3, q4⟩ := HTX.out.get hml
          rw [hlm] at q1 q4
          simp only at q1 q4
          clear q2 q3 hlm
          have hsub : ((m + 1 : Nat) : Int) - 1 = (m : Int) := by omega
          have hz : (((m + 1 : Nat) : Int) == 0) = false := beq_eq_false_iff_ne.2 (by omega)
          have h5 : ((s.size : Int) != (s.size : Int)) = false := by simp
          go_upto_region 13 with fail
          clear q1 q4 hz h5 hsub
          go_wp2_with fail
          go_loopw [9] (fun i wr => ∃ j : Nat, j ≤ m ∧ i = .int .i64 ((j : Int) + 1) ∧ Below X.heap.size X wr) (fun i _ => (m : Int).toNat + 1 - (intOf i).toNat)
          case atStart => exact ⟨0, Nat.zero_le _, rfl, Below.refl _ _⟩
          case round =>
            obtain ⟨j, hj, rfl, hbj⟩ := hrel
            have HBj := Lib.hid hbj; clear hbj
            by_cases hlt : j < m
            · have hj1 : j < l.length := by omega
              have hj2 : j + 1 < l.length := by omega
              obtain ⟨b', off', hp, -, -, -, -, q4⟩ := (HTX.out.mono HBj.out (Nat.le_refl _)).get hj1
              cases hp
              obtain ⟨b', off', hp, -, r1, -, -, r4⟩ := (HTX.out.mono HBj.out (Nat.le_refl _)).get hj2
              cases hp
              have hpp : l[j].pos < l[j + 1].pos := List.pairwise_iff_getElem.1 HPW.out j (j + 1) hj1 hj2 (by omega)
              generalize l[j] = tj at *
              generalize l[j + 1] = tk at *
              have c1 : decide (tk.pos ≤ tj.pos) = false := decide_eq_false (by omega)
              have c2 : decide (tk.pos < tj.pos) = false := decide_eq_false (by omega)
              have r1' : wr.cell? ⟨b, off + (j + 1) * 4, none⟩ = some (.int .i64 tk.kind) := r1
              clear hpp
              go_upto_region 16 with fail
              go_quiet (fail)
              all_goals go_wp2
              all_goals exact ⟨⟨j + 1, by omega, by go_num, below_drewN HBj.out _⟩, by simp [intOf]; omega⟩
            · have hjm : j = m := by omega
              subst hjm
              have hlen2 : ¬ (j : Int) + 1 < ((j + 1 : Nat) : Int) := by omega
              have HTr := Lib.hid (HTX.out.mono HBj.out (Nat.le_refl _))
              have hsX := HBj.out.size
              have HBr := Lib.hid (HBX.out.trans (HBj.out.mono HBX.out.size))
              obtain ⟨mm, hmm, hbare⟩ := HBK.out
              have hjb : joinToks mm = joinToks l := join_bare hbare
              obtain ⟨J, hJ⟩ : ∃ J : ByteArray, (⟨(joinToks l).toArray⟩ : ByteArray) = J := ⟨_, rfl⟩
              have hJl : J.data.toList = joinToks l := by rw [← hJ]
              have hJlen : J.size = (joinToks l).length := ba_size' hJl
              have CJ := Lib.hid (lJoin l _ X.heap.size wr hsX ((HT.out.on HBr.out).less HBr.out.size) HTr.out HOK.out (by have := HLM.out; omega))
              rw [hJ] at CJ
              have hjt := joinToks_len HOK.out
              have hJm : J.size ≤ maxLen := by have := HLM.out; unfold maxLen; omega
              rw [← hJl] at hmm
              have htok : toksEq false l mm = true := by unfold toksEq; rw [hbare]; simp
              have Htok := Lib.hid htok
              have Hjb : Hid ((⟨(joinToks mm).toArray⟩ : ByteArray) = J) := by show _ = _; rw [hjb, hJ]
              clear htok hbare hjb hJ hJlen hjt
              go_wp2_with fail
              refine CJ.out.mono ?_
              rintro e w5 ⟨rfl, hb5⟩
              have HB5 := Lib.hid (HBr.out.trans (hb5.mono HBr.out.size))
              have HT5 := Lib.hid (HTr.out.mono (hb5.mono hsX) (Nat.le_refl _))
              have hs5 : X.heap.size ≤ w5.heap.size := Nat.le_trans hsX hb5.size
              clear hb5 HBj hsX
              by_cases hJ16 : J.size ≤ 16384
              · have hsl : sl J 0 = J.data.toList := sl_zero J
                have hjsz : J.data.toList.length = J.size := by simp
                rw [← hsl] at hmm
                have hok2 := (lex_ok (sl J 0).length (sl J 0) true 0 mm (Nat.le_refl _) (by rw [hsl, hjsz]; omega) hmm)
                have HA2 := Lib.hid (fun wx => allOf (lexAll_ok hJ16 hmm) hJm wx)
                have HK2 := Lib.hid hok2
                have hlen16 : ¬ (16384 : Int) < (J.size : Int) := by omega
                have hmml : mm.length ≤ 20000 := by have := hok2.2; rw [hsl, hjsz] at this; omega
                clear hmm hsl hok2 hJl hjsz
                go_wp2_with fail
                refine (HA2.out _).mono ?_
                rintro e w6 ⟨p2, cap2, rfl, ho6, hb6⟩
                have HB6 := Lib.hid (HB5.out.trans (hb6.mono HB5.out.size))
                have HT6 := Lib.hid (HT5.out.mono (hb6.mono hs5) (Nat.le_refl _))
                have HM6 := Lib.hid (ho6.toks (Nat.le_refl _))
                have hs6 : X.heap.size ≤ w6.heap.size := Nat.le_trans hs5 hb6.size
                clear hb6 ho6
                go_upto_region 20 with fail
                have hby : Below w6.heap.size w6 (w6.alloc (.cells #[.int .i64 0, .int .i64 0] 29)) := (Below.refl _ _).alloc (Nat.le_refl _) _
                have hblk := two_one w6 [.int .i64 0, .int .i64 0]
                obtain ⟨Y, hY⟩ : ∃ Y, w6.alloc (.cells #[.int .i64 0, .int .i64 0] 29) = Y := ⟨_, rfl⟩
                have hblk' : Blk Y w6.heap.size 29 [.int .i64 0, .int .i64 0] := by rw [← hY]; exact hblk
                rw [hY] at hby ⊢
                clear hblk hY
                have HBY := Lib.hid (HB6.out.trans (hby.mono HB6.out.size))
                have HTY := Lib.hid (HT6.out.mono (hby.mono hs6) (Nat.le_refl _))
                have HMY := Lib.hid (HM6.out.mono hby (Nat.le_refl _))
                have hsY := hby.size
                clear hby HB6 HT6 HM6 HB5 HT5
                have d0 := hblk'.cell 0 _ rfl; have d1 := hblk'.cell 1 _ rfl
                go_wp2_with fail
                refine (kTokens false l mm _ _ w6.heap.size Y hsY (HTY.out.mono (Below.refl _ _) hs6) HMY.out).mono ?_
                rintro e w7 ⟨rfl, hb7⟩
                rw [Htok.out]
                have HB7 := Lib.hid (HBY.out.trans (hb7.mono HBY.out.size))
                have HM7 := Lib.hid (HMY.out.mono (hb7.mono hsY) (Nat.le_refl _))
                have hs7 : w6.heap.size ≤ w7.heap.size := Nat.le_trans hsY hb7.size
                clear hb7 d0 d1 hblk'
                go_wp2_with fail
                refine (lJoin mm _ w6.heap.size w7 hs7 ((HT.out.on HB7.out).less HB7.out.size) HM7.out HK2.out.1 (by omega)).mono ?_
                rintro e w8 ⟨rfl, hb8⟩
                rw [Hjb.out]
                have HB8 := Lib.hid (HB7.out.trans (hb8.mono HB7.out.size)); clear hb8
                go_wp2
                go_ret
                exact ⟨rfl, HB8.out⟩
              · have hlen16 : (16384 : Int) < (J.size : Int) := by omega
                obtain ⟨lb, eb, ab, heb⟩ : ∃ lb eb ab, lexAll J = (lb, eb, ab) := ⟨_, _, _, rfl⟩
                have HA2 := Lib.hid (fun wx => allOf heb hJm wx)
                clear hmm heb hJl
                go_wp2_with fail
                refine (HA2.out _).mono ?_
                rintro e w6 ⟨p2, cap2, rfl, ho6, hb6⟩
                have HB6 := Lib.hid (HB5.out.trans (hb6.mono HB5.out.size)); clear hb6 ho6
                go_wp2
                go_ret
                exact ⟨rfl, HB6.out.alloc HB6.out.size _⟩
        · have g3 : ¬ (t.size : Int) ≤ 64 := by omega
          go_wp2_with fail
          refine (HA.out _).mono ?_
          rintro e w4 ⟨p, cap, rfl, ho1, hb1⟩
          have HB4 := Lib.hid (HB3.out.trans (hb1.mono HB3.out.size)); clear hb1 HB3
          have HT4 := Lib.hid (ho1.toks (Nat.le_refl _)); clear ho1
          go_upto_region 11 with fail
          have hbx : Below w4.heap.size w4 (w4.alloc (.cells #[.int .i64 0, .int .i64 0] 29)) := (Below.refl _ _).alloc (Nat.le_refl _) _
          have HTX := Lib.hid (HT4.out.mono hbx hbx.size)
          have HBX := Lib.hid (HB4.out.trans (hbx.mono HB4.out.size))
          obtain ⟨X, hX⟩ : ∃ X, w4.alloc (.cells #[.int .i64 0, .int .i64 0] 29) = X := ⟨_, rfl⟩
          rw [hX] at HTX HBX hbx ⊢
          clear hX hbx HB4 HT4
          have hml : m < l.length := by have := HLM.out; omega
          have hlm : l[m] = ⟨5, [], 0, (s.size : Int)⟩ := by have := HLA.out; rw [List.getElem?_eq_getElem hml] at this; injection this
          obtain ⟨b, off, rfl, hbn, q1, q2, q3, q4⟩ := HTX.out.get hml
          rw [hlm] at q1 q4
          simp only at q1 q4
          clear q2 q3 hlm
          have hsub : ((m + 1 : Nat) : Int) - 1 = (m : Int) := by omega
          have hz : (((m + 1 : Nat) : Int) == 0) = false := beq_eq_false_iff_ne.2 (by omega)
          have h5 : ((s.size : Int) != (s.size : Int)) = false := by simp
          go_upto_region 13 with fail
          clear q1 q4 hz h5 hsub
          go_wp2_with fail
          go_loopw [9] (fun i wr => ∃ j : Nat, j ≤ m ∧ i = .int .i64 ((j : Int) + 1) ∧ Below X.heap.size X wr) (fun i _ => (m : Int).toNat + 1 - (intOf i).toNat)
          case atStart => exact ⟨0, Nat.zero_le _, rfl, Below.refl _ _⟩
          case round =>
            obtain ⟨j, hj, rfl, hbj⟩ := hrel
            have HBj := Lib.hid hbj; clear hbj
            by_cases hlt : j < m
            · have hj1 : j < l.length := by omega
              have hj2 : j + 1 < l.length := by omega
              obtain ⟨b', off', hp, -, -, -, -, q4⟩ := (HTX.out.mono HBj.out (Nat.le_refl _)).get hj1
              cases hp
              obtain ⟨b', off', hp, -, r1, -, -, r4⟩ := (HTX.out.mono HBj.out (Nat.le_refl _)).get hj2
              cases hp
              have hpp : l[j].pos < l[j + 1].pos := List.pairwise_iff_getElem.1 HPW.out j (j + 1) hj1 hj2 (by omega)
              generalize l[j] = tj at *
              generalize l[j + 1] = tk at *
              have c1 : decide (tk.pos ≤ tj.pos) = false := decide_eq_false (by omega)
              have c2 : decide (tk.pos < tj.pos) = false := decide_eq_false (by omega)
              have r1' : wr.cell? ⟨b, off + (j + 1) * 4, none⟩ = some (.int .i64 tk.kind) := r1
              clear hpp
              go_upto_region 16 with fail
              go_quiet (fail)
              all_goals go_wp2
              all_goals exact ⟨⟨j + 1, by omega, by go_num, below_drewN HBj.out _⟩, by simp [intOf]; omega⟩
            · have hjm : j = m := by omega
              subst hjm
              have hlen2 : ¬ (j : Int) + 1 < ((j + 1 : Nat) : Int) := by omega
              have HTr := Lib.hid (HTX.out.mono HBj.out (Nat.le_refl _))
              have hsX := HBj.out.size
              have HBr := Lib.hid (HBX.out.trans (HBj.out.mono HBX.out.size))
              obtain ⟨mm, hmm, hbare⟩ := HBK.out
              have hjb : joinToks mm = joinToks l := join_bare hbare
              obtain ⟨J, hJ⟩ : ∃ J : ByteArray, (⟨(joinToks l).toArray⟩ : ByteArray) = J := ⟨_, rfl⟩
              have hJl : J.data.toList = joinToks l := by rw [← hJ]
              have hJlen : J.size = (joinToks l).length := ba_size' hJl
              have CJ := Lib.hid (lJoin l _ X.heap.size wr hsX ((HT.out.on HBr.out).less HBr.out.size) HTr.out HOK.out (by have := HLM.out; omega))
              rw [hJ] at CJ
              have hjt := joinToks_len HOK.out
              have hJm : J.size ≤ maxLen := by have := HLM.out; unfold maxLen; omega
              rw [← hJl] at hmm
              have htok : toksEq false l mm = true := by unfold toksEq; rw [hbare]; simp
              have Htok := Lib.hid htok
              have Hjb : Hid ((⟨(joinToks mm).toArray⟩ : ByteArray) = J) := by show _ = _; rw [hjb, hJ]
              clear htok hbare hjb hJ hJlen hjt
              go_wp2_with fail
              refine CJ.out.mono ?_
              rintro e w5 ⟨rfl, hb5⟩
              have HB5 := Lib.hid (HBr.out.trans (hb5.mono HBr.out.size))
              have HT5 := Lib.hid (HTr.out.mono (hb5.mono hsX) (Nat.le_refl _))
              have hs5 : X.heap.size ≤ w5.heap.size := Nat.le_trans hsX hb5.size
              clear hb5 HBj hsX
              by_cases hJ16 : J.size ≤ 16384
              · have hsl : sl J 0 = J.data.toList := sl_zero J
                have hjsz : J.data.toList.length = J.size := by simp
                rw [← hsl] at hmm
                have hok2 := (lex_ok (sl J 0).length (sl J 0) true 0 mm (Nat.le_refl _) (by rw [hsl, hjsz]; omega) hmm)
                have HA2 := Lib.hid (fun wx => allOf (lexAll_ok hJ16 hmm) hJm wx)
                have HK2 := Lib.hid hok2
                have hlen16 : ¬ (16384 : Int) < (J.size : Int) := by omega
                have hmml : mm.length ≤ 20000 := by have := hok2.2; rw [hsl, hjsz] at this; omega
                clear hmm hsl hok2 hJl hjsz
                go_wp2_with fail
                refine (HA2.out _).mono ?_
                rintro e w6 ⟨p2, cap2, rfl, ho6, hb6⟩
                have HB6 := Lib.hid (HB5.out.trans (hb6.mono HB5.out.size))
                have HT6 := Lib.hid (HT5.out.mono (hb6.mono hs5) (Nat.le_refl _))
                have HM6 := Lib.hid (ho6.toks (Nat.le_refl _))
                have hs6 : X.heap.size ≤ w6.heap.size := Nat.le_trans hs5 hb6.size
                clear hb6 ho6
                go_upto_region 20 with fail
                have hby : Below w6.heap.size w6 (w6.alloc (.cells #[.int .i64 0, .int .i64 0] 29)) := (Below.refl _ _).alloc (Nat.le_refl _) _
                have hblk := two_one w6 [.int .i64 0, .int .i64 0]
                obtain ⟨Y, hY⟩ : ∃ Y, w6.alloc (.cells #[.int .i64 0, .int .i64 0] 29) = Y := ⟨_, rfl⟩
                have hblk' : Blk Y w6.heap.size 29 [.int .i64 0, .int .i64 0] := by rw [← hY]; exact hblk
                rw [hY] at hby ⊢
                clear hblk hY
                have HBY := Lib.hid (HB6.out.trans (hby.mono HB6.out.size))
                have HTY := Lib.hid (HT6.out.mono (hby.mono hs6) (Nat.le_refl _))
                have HMY := Lib.hid (HM6.out.mono hby (Nat.le_refl _))
                have hsY := hby.size
                clear hby HB6 HT6 HM6 HB5 HT5
                have d0 := hblk'.cell 0 _ rfl; have d1 := hblk'.cell 1 _ rfl
                go_wp2_with fail
                refine (kTokens false l mm _ _ w6.heap.size Y hsY (HTY.out.mono (Below.refl _ _) hs6) HMY.out).mono ?_
                rintro e w7 ⟨rfl, hb7⟩
                rw [Htok.out]
                have HB7 := Lib.hid (HBY.out.trans (hb7.mono HBY.out.size))
                have HM7 := Lib.hid (HMY.out.mono (hb7.mono hsY) (Nat.le_refl _))
                have hs7 : w6.heap.size ≤ w7.heap.size := Nat.le_trans hsY hb7.size
                clear hb7 d0 d1 hblk'
                go_wp2_with fail
                refine (lJoin mm _ w6.heap.size w7 hs7 ((HT.out.on HB7.out).less HB7.out.size) HM7.out HK2.out.1 (by omega)).mono ?_
                rintro e w8 ⟨rfl, hb8⟩
                rw [Hjb.out]
                have HB8 := Lib.hid (HB7.out.trans (hb8.mono HB7.out.size)); clear hb8
                go_wp2
                go_ret
                exact ⟨rfl, HB8.out⟩
              · have hlen16 : (16384 : Int) < (J.size : Int) := by omega
                obtain ⟨lb, eb, ab, heb⟩ : ∃ lb eb ab, lexAll J = (lb, eb, ab) := ⟨_, _, _, rfl⟩
                have HA2 := Lib.hid (fun wx => allOf heb hJm wx)
                clear hmm heb hJl
                go_wp2_with fail
                refine (HA2.out _).mono ?_
                rintro e w6 ⟨p2, cap2, rfl, ho6, hb6⟩
                have HB6 := Lib.hid (HB5.out.trans (hb6.mono HB5.out.size)); clear hb6 ho6
                go_wp2
                go_ret
                exact ⟨rfl, HB6.out.alloc HB6.out.size _⟩
    · have g1 : ¬ (3000 : Int) < (s.size : Int) := by omega
      have g2 : (3000 : Int) < (t.size : Int) := by omega
      go_enter Tryd.func3, Tryd.ntmps3; (try simp only [List.append_eq, List.cons_append, List.nil_append])
      go_wp2_with fail
      refine (lLives _).mono ?_
      rintro e w1 ⟨rfl, hb1⟩
      have HB := Lib.hid hb1; clear hb1
      go_wp2
      go_ret
      exact ⟨rfl, HB.out⟩
  · have g1 : (3000 : Int) < (s.size : Int) := by omega
    go_enter Tryd.func3, Tryd.ntmps3; (try simp only [List.append_eq, List.cons_append, List.nil_append])
    go_wp2_with fail
    refine (lLives _).mono ?_
    rintro e w1 ⟨rfl, hb1⟩
    have HB := Lib.hid hb1; clear hb1
    go_wp2
    go_ret
    exact ⟨rfl, HB.out⟩
end Go.Proofs.YtgjeomcflapmpaaDoor
