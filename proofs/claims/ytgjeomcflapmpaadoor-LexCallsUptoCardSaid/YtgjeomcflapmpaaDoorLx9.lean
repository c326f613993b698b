/- lex.All: the loop. -/
import Derived.Test.YtgjeomcflapmpaaDoorLx8
namespace Go.Proofs.YtgjeomcflapmpaaDoor
open Go.RowKit
set_option linter.unusedSimpArgs false
set_option linter.unusedVariables false

theorem src_new {W : World} {cs : List Value} {t m c sz g : Nat} (hl : cs.length = m * sz) (hg : g = W.heap.size) : Src (W.alloc (.cells cs.toArray t)) (.slice (some ⟨g, 0, none⟩) m c) sz m cs := by
  subst hg
  refine .inr ⟨_, c, rfl, hl, fun j u hu => ?_⟩
  have e : (⟨W.heap.size, 0, none⟩ : Addr).add j = ⟨W.heap.size, j, none⟩ := by
    unfold Addr.add
    split <;> simp <;> omega
  rw [e]
  exact (Blk.new W cs t).cell j u hu

theorem ownsRow_set {W : World} {base e sz n : Nat} {v : Value} {xs : List Value} (h : W.ownsRow base e sz v n xs) {p : Addr} (hp : p.block < base) (u : Value) : (W.setCell p u).ownsRow base e sz v n xs := by
  refine ⟨h.1, ?_⟩
  rcases h.2 with h | ⟨g, cap, cur, hv, hg, hh, h1, h2, h3, h4⟩
  · exact .inl h
  · exact .inr ⟨g, cap, cur, hv, hg, (Below.heap_setCell W p u g (by omega)).trans hh, h1, h2, h3, h4⟩
theorem ownsT_set {w W : World} {v : Value} {l : List Tok} (h : OwnT (w.heap.size + 1) W v l) (u u' : Value) : OwnT w.heap.size ((W.setCell ⟨w.heap.size, 0, none⟩ u).setCell ⟨w.heap.size, 1, none⟩ u') v l :=
  ownsRow_base (ownsRow_set (ownsRow_set h (Nat.lt_succ_self _) u) (Nat.lt_succ_self _) u') (Nat.le_succ _)

set_option maxRecDepth 100000 in
set_option maxHeartbeats 4000000 in
theorem lAll_short (s : ByteArray) (w : World) (hs : s.size ≤ 16384) : Calls Tryd.prog 8 #[.string s] w (AllR s w) := by
  obtain ⟨i0, hi, hz0, hz1, hz2⟩ := info_parts infoT
  have h1 : ¬ (16384 : Int) < (s.size : Int) := by omega
  go_enter Tryd.func8, Tryd.ntmps8; (try simp only [List.append_eq, List.cons_append, List.nil_append])
  go_wp2
  go_step3
  go_wp2
  go_step3
  go_wp2
  go_loopw [4, 5] (fun v i wr => ∃ (k : Nat) (l : List Tok), k ≤ s.size ∧ i = .int .i64 k ∧ l.length ≤ k ∧ OwnT (w.heap.size + 1) wr v l ∧ LexI s k l ∧ Blk wr w.heap.size 29 [.int .i64 0, .int .i64 0] ∧ Below w.heap.size w wr) (fun _ i _ => s.size - (intOf i).toNat)
  case atStart => exact ⟨0, [], by omega, rfl, by simp, OwnT.nil _ _, LexI.start s, Blk.new _ _ _, (Below.refl _ _).alloc (Nat.le_refl _) _⟩
  case round =>
    obtain ⟨k, l, hk, rfl, hlk, hown, hli, hblk, hb⟩ := hrel
    have Hli := Lib.hid hli; clear hli
    have Hb := Lib.hid hb; clear hb
    have hbl := hblk.lt
    have Hblk := Lib.hid hblk; clear hblk
    have hlt' : l.length ≤ 16384 := by omega
    have Hown := Lib.hid hown; clear hown
    by_cases hlt : k < s.size
    · by_cases hbk : blankC s[k] = true
      · have hl2 := Lib.hid (Hli.out.blank hlt hbk)
        have hcs : ((s[k].toNat : Int) == 32) = true ∨ (((s[k].toNat : Int) == 32) = false ∧ ((s[k].toNat : Int) == 9) = true) ∨ (((s[k].toNat : Int) == 32) = false ∧ ((s[k].toNat : Int) == 9) = false ∧ ((s[k].toNat : Int) == 10) = true) ∨ (((s[k].toNat : Int) == 32) = false ∧ ((s[k].toNat : Int) == 9) = false ∧ ((s[k].toNat : Int) == 10) = false ∧ ((s[k].toNat : Int) == 13) = true) := by
          by_cases h1 : s[k] = 32
          · exact .inl (u8b (n := 32) (by omega) h1)
          · by_cases h2 : s[k] = 9
            · exact .inr (.inl ⟨u8ne (n := 32) (by omega) h1, u8b (n := 9) (by omega) h2⟩)
            · by_cases h3 : s[k] = 10
              · exact .inr (.inr (.inl ⟨u8ne (n := 32) (by omega) h1, u8ne (n := 9) (by omega) h2, u8b (n := 10) (by omega) h3⟩))
              · have h4 : s[k] = 13 := by simpa [blankC, h1, h2, h3] using hbk
                exact .inr (.inr (.inr ⟨u8ne (n := 32) (by omega) h1, u8ne (n := 9) (by omega) h2, u8ne (n := 10) (by omega) h3, u8b (n := 13) (by omega) h4⟩))
        clear hbk
        rcases hcs with h1 | ⟨h1, h2⟩ | ⟨h1, h2, h3⟩ | ⟨h1, h2, h3, h4⟩
        all_goals
          go_wp2
          exact ⟨⟨k + 1, l, by omega, by go_num, by omega, Hown.out, hl2.out, Hblk.out, Hb.out⟩, by simp [intOf]; omega⟩
      · have hbk' : blankC s[k] = false := by simpa using hbk
        clear hbk
        have hn : s[k] ≠ 32 ∧ s[k] ≠ 9 ∧ s[k] ≠ 10 ∧ s[k] ≠ 13 := by simpa [blankC, and_assoc] using hbk'
        have h1 : ((s[k].toNat : Int) == 32) = false := u8ne (n := 32) (by omega) hn.1
        have h2 : ((s[k].toNat : Int) == 9) = false := u8ne (n := 9) (by omega) hn.2.1
        have h3 : ((s[k].toNat : Int) == 10) = false := u8ne (n := 10) (by omega) hn.2.2.1
        have h4 : ((s[k].toNat : Int) == 13) = false := u8ne (n := 13) (by omega) hn.2.2.2
        clear hn
        by_cases hnt : s[k] = 35
        · have hl2 := Lib.hid (Hli.out.note hlt hnt)
          have h5 : ((s[k].toNat : Int) == 35) = true := u8b (n := 35) (by omega) hnt
          have Hu := Lib.hid (fun wx => untilNote s k wx (by unfold maxLen; omega) (by omega))
          have hr1 := runN_le notNl (sl s k)
          rw [sl_length] at hr1
          have hr0 : 0 < runN notNl (sl s k) := by rw [sl_cons hlt, hnt]; simp [runN, notNl]
          obtain ⟨n, hn⟩ : ∃ n, runN notNl (sl s k) = n := ⟨_, rfl⟩
          rw [hn] at Hu hr1 hr0 hl2
          clear hn hnt hbk'
          go_wp2_with (go_at_call 23; refine (Hu.out _).mono ?_; rintro e w' ⟨rfl, rfl⟩)
          exact ⟨⟨k + n, l, by omega, by go_num, by omega, Hown.out, hl2.out, Hblk.out, Hb.out⟩, by simp [intOf]; omega⟩
        · have h5 : ((s[k].toNat : Int) == 35) = false := u8ne (n := 35) (by omega) hnt
          have hT := Hown.out.toks (Nat.le_refl _)
          have HT := Lib.hid hT; clear hT
          have hszw := Hb.out.size
          obtain ⟨A, cap, rfl⟩ := ownsRow_slice Hown.out
          cases htk : tokAt (freeOf l) (sl s k) with
          | none =>
            have Hno := Lib.hid (nextNo htk hs hlt (Nat.le_refl _) HT.out)
            have Hend := Lib.hid (Hli.out.bad hs hlt hbk' hnt htk)
            clear htk hnt hbk'
            go_wp2_with (go_at_call 25; refine Hno.out.mono ?_; rintro e w1 ⟨x1, x2, x3, x4, x5, rfl, hb1⟩; have hb2 := Hblk.out.keep hb1; have c0 := hb2.cell 0 _ rfl; have c1 := hb2.cell 1 _ rfl; have f0 := hb2.free 0; have f1 := hb2.free 1; have hbl2 := hb2.lt; have HB2 := Lib.hid hb2; clear hb2; have hz := hb1.size; have HB1 := Lib.hid hb1; clear hb1)
            try rw [Exit.noGoto_ret]
            exact allEnd (.slice none 0 0) 13 k [] rfl (((HB2.out.set_ 0 _).set_ 1 _).alloc _) rfl rfl Hend.out (OwnT.nil _ _) ((((Hb.out.trans (HB1.out.mono (by omega))).setCell (Nat.le_refl _) _).setCell (Nat.le_refl _) _).alloc (by simp; omega) _)
          | some tm =>
            obtain ⟨t, m⟩ := tm
            have Hyes := Lib.hid (nextYes htk hs hlt (Nat.le_refl _) HT.out)
            have hl2 := Lib.hid (Hli.out.tok hlt hbk' hnt htk)
            have hm0 := tokAt_pos htk
            have hm1 := tokAt_len htk
            rw [sl_length] at hm1
            clear htk hnt hbk'
            go_wp2_with (first
              | (go_at_call 25; refine Hyes.out.mono ?_; rintro e w1 ⟨rfl, hb1⟩; have hb2 := Hblk.out.keep hb1; have hbl2 := hb2.lt; have HB2 := Lib.hid hb2; clear hb2; have hz := hb1.size; have HB1 := Lib.hid hb1; clear hb1)
              | (at_builtin; refine wpList_append_src _ rfl _ _ _ rfl (w.heap.size + 1) 33 i0 _ 4 40 Tryd.underlying26 hi hz0 hz1 hz2 rfl (by decide) _ _ (l.map Tok.cells).flatten rfl (ownsRow_keep Hown.out ((HB1.out.alloc (by omega) _).alloc (by simp; omega) _)) _ 1 ({ t with pos := k } : Tok).cells rfl (src_new rfl (by simp)) (by intro u hu; exact cells_one [{ t with pos := k }] u (by simpa using hu)) (by unfold maxLen; omega) (by omega) (by simp; omega) ?_; intro v3 w3 hown3 hgr3 hat3))
            have hb4 : Below (w.heap.size + 1) wr w3 := below_app (((HB1.out.mono (by omega)).alloc (by omega) _).alloc (by simp; omega) _) (ownsRow_keep Hown.out ((HB1.out.alloc (by omega) _).alloc (by simp; omega) _)) hgr3 (Nat.le_refl _) (by simp; omega)
            exact ⟨⟨k + m, l ++ [{ t with pos := k }], by omega, by go_num, by simp; omega, OwnT.app hown3, hl2.out, Hblk.out.mono hb4 (Nat.lt_succ_self _), Hb.out.trans (hb4.mono (Nat.le_succ _))⟩, by simp [intOf]; omega⟩
    · have hk' : s.size = k := by omega
      have hend := Hli.out.done hs hk'
      rw [← hk'] at hend
      have Hend := Lib.hid hend; clear hend
      clear hk'
      obtain ⟨A, cap, rfl⟩ := ownsRow_slice Hown.out
      have hszw := Hb.out.size
      go_wp2_with (at_builtin; refine wpList_append_src _ rfl _ _ _ rfl (w.heap.size + 1) 33 i0 _ 4 40 Tryd.underlying26 hi hz0 hz1 hz2 rfl (by decide) _ _ (l.map Tok.cells).flatten rfl (ownsRow_keep Hown.out ((Below.refl _ _).alloc (Nat.le_refl _) _)) _ 1 (⟨5, [], 0, (s.size : Int)⟩ : Tok).cells rfl (src_new rfl (by simp)) (by intro u hu; exact cells_one [⟨5, [], 0, (s.size : Int)⟩] u (by simpa using hu)) (by unfold maxLen; omega) (by omega) (by simp; omega) ?_; intro v3 w3 hown3 hgr3 hat3; have hb4 : Below (w.heap.size + 1) wr w3 := below_app ((Below.refl _ _).alloc (by omega) _) (ownsRow_keep Hown.out ((Below.refl _ _).alloc (Nat.le_refl _) _)) hgr3 (Nat.le_refl _) (by simp; omega); have hb5 := Hblk.out.mono hb4 (Nat.lt_succ_self _); have d0 := hb5.cell 0 _ rfl; have d1 := hb5.cell 1 _ rfl; have g0 := hb5.free 0; have g1 := hb5.free 1; have HB5 := Lib.hid hb5; clear hb5; have HB4 := Lib.hid hb4; clear hb4; have Hown3 := Lib.hid hown3; clear hown3)
      try rw [Exit.noGoto_ret]
      exact allEnd v3 0 0 _ rfl ((HB5.out.set_ 0 _).set_ 1 _) rfl rfl Hend.out (ownsT_set (OwnT.app Hown3.out) _ _) (((Hb.out.trans (HB4.out.mono (Nat.le_succ _))).setCell (Nat.le_refl _) _).setCell (Nat.le_refl _) _)

theorem lAll (s : ByteArray) (w : World) (hs : s.size ≤ maxLen) : Calls Tryd.prog 8 #[.string s] w (AllR s w) := by
  by_cases h : s.size ≤ 16384
  · exact lAll_short s w h
  · exact lAll_long s w hs (by omega)

end Go.Proofs.YtgjeomcflapmpaaDoor
