/- The reference's lexer: All. -/
import Derived.Test.YtobelmipjanibaaDoorK32
import Derived.Test.YtobelmipjanibaaDoorK21
import Derived.Test.YtobelmipjanibaaDoorK1
namespace Go.Proofs.YtobelmipjanibaaDoor
open Go.RowKit
set_option linter.unusedSimpArgs false
set_option linter.unusedVariables false

theorem ownsRow_setRow {W : World} {base e sz n : Nat} {v : Value} {xs : List Value} (h : W.ownsRow base e sz v n xs) {g : Nat} (hg : g < base) (us : Array Value) : (W.setRow g us).ownsRow base e sz v n xs := by
  refine ⟨h.1, ?_⟩
  rcases h.2 with h | ⟨b, cap, cur, hv, hb, hh, h1, h2, h3, h4⟩
  · exact .inl h
  · exact .inr ⟨b, cap, cur, hv, hb, (setRow_other W g b us (by omega)).trans hh, h1, h2, h3, h4⟩
theorem ownT_setRow {W : World} {base : Nat} {v : Value} {l : List Tok} (h : OwnT base W v l) {g : Nat} (hg : g < base) (us : Array Value) : OwnT base (W.setRow g us) v l := ownsRow_setRow h hg us
theorem tokAt_kindR {free : Bool} {l : List UInt8} {t : Tok} {n : Nat} (h : tokAt free l = some (t, n)) : t.kind ≠ 0 := by
  match l, h with
  | [], h => cases h
  | c :: r, h =>
    simp only [tokAt] at h
    split at h
    · split at h
      · cases h; simp
      · cases h
    · split at h
      · cases hh : textAt r with
        | none => rw [hh] at h; cases h
        | some y =>
          obtain ⟨y, m⟩ := y
          rw [hh] at h
          simp only at h
          split at h
          · cases h; simp
          · cases h
      · split at h
        · split at h
          · cases h; simp
          · cases h
        · simp only [signAt] at h
          split at h
          · cases h; simp
          · split at h
            · cases h; simp
            · cases h
theorem oneYes {s : ByteArray} {a : Nat} {t0 : Tok} {f : Bool} {w : World} {t : Tok} {m : Nat} (hf : frI t0 = f) (ht : tokAt f (sl s a) = some (t, m)) (hs : s.size ≤ 16384) (ha : a < s.size) :
    Calls Tryd.prog 86 #[.string s, .int .i64 a, .agg #[.int .i64 t0.kind, .string ⟨t0.text.toArray⟩, .int .i64 t0.num, .int .i64 t0.pos]] w fun e w' => e = .returned (.tuple #[.agg #[.int .i64 t.kind, .string ⟨t.text.toArray⟩, .int .i64 t.num, .int .i64 a], .int .i64 (a + m), .bool true]) ∧ Below w.heap.size w w' := by
  refine (rOne s a t0 w hs ha).mono ?_
  rintro e w' ⟨k, x, u, p, n, ok, rfl, hi, hb⟩
  rw [hf, ht] at hi
  obtain ⟨rfl, rfl, rfl, rfl, rfl, rfl⟩ := hi
  exact ⟨rfl, hb⟩
theorem oneNo {s : ByteArray} {a : Nat} {t0 : Tok} {f : Bool} {w : World} (hf : frI t0 = f) (ht : tokAt f (sl s a) = none) (hs : s.size ≤ 16384) (ha : a < s.size) :
    Calls Tryd.prog 86 #[.string s, .int .i64 a, .agg #[.int .i64 t0.kind, .string ⟨t0.text.toArray⟩, .int .i64 t0.num, .int .i64 t0.pos]] w fun e w' => ∃ (k : Int) (x : ByteArray) (u p n : Int), e = .returned (.tuple #[.agg #[.int .i64 k, .string x, .int .i64 u, .int .i64 p], .int .i64 n, .bool false]) ∧ Below w.heap.size w w' := by
  refine (rOne s a t0 w hs ha).mono ?_
  rintro e w' ⟨k, x, u, p, n, ok, rfl, hi, hb⟩
  rw [hf, ht] at hi
  obtain rfl : ok = false := hi
  exact ⟨k, x, u, p, _, rfl, hb⟩
theorem rallEnd {s : ByteArray} {w W : World} {A : Act} (v : Value) (er at' : Int) (l : List Tok) (hp : A.tmps.getD 3 undef = .pointer (some ⟨w.heap.size, 0, none⟩)) (hg : Blk W w.heap.size 42 [.int .i64 er, .int .i64 at'])
    (hv : A.tmps.getD 2 undef = v) (hdf : A.defers = []) (hl : lexAll s = (l, er, at')) (ho : OwnT w.heap.size W v l) (hb : Below w.heap.size w W) : bodyPost Tryd.prog Tryd.f61 (AllR s w) .ret A W :=
  bodyPost_tmp_agg rfl hp hg Tryd.underlying42 rfl (by kernel_rfl) hdf ⟨v, by rw [hv, hl], by rw [hl]; exact ho, hb⟩

set_option maxRecDepth 100000 in
theorem rAll_long (s : ByteArray) (w : World) (hm : s.size ≤ maxLen) (hs : 16384 < s.size) : Calls Tryd.prog 61 #[.string s] w (AllR s w) := by
  unfold maxLen at hm
  have Hl : Hid (lexAll s = ([], 3, 0)) := by show _ = _; unfold lexAll; rw [if_pos hs]
  have h1 : (16384 : Int) < (s.size : Int) := by omega
  go_enter Tryd.func61, Tryd.ntmps61; (try simp only [List.append_eq, List.cons_append, List.nil_append])
  go_wp2_with (refine wpList_store_new rfl 42 _ _ rfl #[.int .i64 3, .int .i64 0] _ _ rfl rfl (by kernel_rfl) rfl (by kernel_rfl) ?_)
  refine rallEnd (.slice none 0 0) 3 0 [] rfl (Blk.new _ _ _) rfl rfl Hl.out (OwnT.nil _ _) ((Below.refl _ _).alloc (Nat.le_refl _) _)

set_option maxRecDepth 100000 in
set_option maxHeartbeats 4000000 in
theorem rAll_short (s : ByteArray) (w : World) (hs : s.size ≤ 16384) : Calls Tryd.prog 61 #[.string s] w (AllR s w) := by
  obtain ⟨i0, hi, hz0, hz1, hz2⟩ := info_parts infoT
  have h1 : ¬ (16384 : Int) < (s.size : Int) := by omega
  go_enter Tryd.func61, Tryd.ntmps61; (try simp only [List.append_eq, List.cons_append, List.nil_append])
  go_wp2_with fail
  go_loopw [4, 6] (fun v i wr => ∃ (k : Nat) (l : List Tok) (u : Tok), k ≤ s.size ∧ i = .int .i64 k ∧ l.length ≤ k ∧ OwnT (w.heap.size + 2) wr v l ∧ LexI s k l ∧ frI u = freeOf l ∧ Blk wr w.heap.size 42 [.int .i64 0, .int .i64 0] ∧ Blk wr (w.heap.size + 1) 67 u.cells ∧ Below w.heap.size w wr) (fun _ i _ => s.size - (intOf i).toNat)
  case atStart => exact ⟨0, [], ⟨0, [], 0, 0⟩, by omega, rfl, by simp, OwnT.nil _ _, LexI.start s, rfl, two_at w _ _ _ _, two_at' w _ _ _, two_below w _ _⟩
  case round =>
    obtain ⟨k, l, u, hk, rfl, hlk, hown, hli, hfr, hblk, hah, hb⟩ := hrel
    have Hli := Lib.hid hli; clear hli
    have Hfr := Lib.hid hfr; clear hfr
    have Hb := Lib.hid hb; clear hb
    have hbl := hblk.lt
    have hal := hah.lt
    have Hblk := Lib.hid hblk; clear hblk
    have Hah := Lib.hid hah; clear hah
    have hlt' : l.length ≤ 16384 := by omega
    have Hown := Lib.hid hown; clear hown
    by_cases hlt : k < s.size
    · have hlti : (k : Int) < (s.size : Int) := by omega
      by_cases hbk : blankC s[k] = true
      · have hl2 := Lib.hid (Hli.out.blank hlt hbk)
        have hB := fun wx => rBlank s[k] wx
        rw [hbk] at hB
        have HBk := Lib.hid hB
        clear hbk hB
        go_wp2_with (go_at_call 85; refine (HBk.out _).mono ?_; rintro e w' ⟨rfl, rfl⟩)
        exact ⟨⟨k + 1, l, u, by omega, by go_num, by omega, Hown.out, hl2.out, Hfr.out, Hblk.out, Hah.out, Hb.out⟩, by simp [intOf]; omega⟩
      · have hbk' : blankC s[k] = false := by simpa using hbk
        clear hbk
        have hB := fun wx => rBlank s[k] wx
        rw [hbk'] at hB
        have HBk := Lib.hid hB
        clear hB
        by_cases hnt : s[k] = 35
        · have hl2 := Lib.hid (Hli.out.note hlt hnt)
          have h5 : ((s[k].toNat : Int) == 35) = true := u8b (n := 35) (by omega) hnt
          have hr0 : headIs notNl (sl s k) = true := by rw [headIs_at hlt, hnt]; rfl
          have Hr0 := Lib.hid hr0
          clear hnt hbk' hr0
          go_wp2_with (go_at_call 85; refine (HBk.out _).mono ?_; rintro e w' ⟨rfl, rfl⟩)
          go_loop [6] (fun x => ∃ j : Nat, k ≤ j ∧ j ≤ s.size ∧ x = .int .i64 j ∧ ((sl s k).take (j - k)).all notNl = true) (fun x => s.size - (intOf x).toNat)
          case atStart => exact ⟨k, Nat.le_refl _, by omega, rfl, by simp⟩
          case round =>
            obtain ⟨j, hkj, hj, rfl, hal2⟩ := hrel
            have hcase : (j < s.size ∧ headIs notNl (sl s j) = true) ∨ (headIs notNl (sl s j) = false ∧ k < j) := by
              by_cases hjs : j < s.size
              · cases hw : headIs notNl (sl s j) with
                | true => exact .inl ⟨hjs, rfl⟩
                | false =>
                  refine .inr ⟨rfl, ?_⟩
                  rcases Nat.lt_or_ge k j with h | h
                  · exact h
                  · obtain rfl : j = k := by omega
                    rw [Hr0.out] at hw; cases hw
              · exact .inr ⟨headIs_end (by omega), by omega⟩
            rcases hcase with ⟨hjs, hw⟩ | ⟨hend, hkj2⟩
            · have hst : ((sl s k).take (j + 1 - k)).all notNl = true := by
                rw [sl_snoc hkj hjs, List.all_append, hal2]
                rw [headIs_at hjs] at hw
                simp [hw]
              have Hst := Lib.hid hst
              have hn10 : ((s[j].toNat : Int) == 10) = false := by
                rw [headIs_at hjs] at hw
                refine u8ne (n := 10) (by omega) ?_
                intro e; rw [e] at hw; cases hw
              have hjsi : (j : Int) < (s.size : Int) := by omega
              clear hst hw hal2
              go_wp2_with fail
              exact ⟨⟨j + 1, by omega, by omega, by go_num, Hst.out⟩, by simp [intOf]; omega⟩
            · obtain ⟨n, rfl⟩ : ∃ n, j = k + n := ⟨j - k, by omega⟩
              rw [show k + n - k = n by omega] at hal2
              have hrun : runN notNl (sl s k) = n := runN_eq (by rw [sl_length]; omega) hal2 (by rw [sl_drop]; exact hend)
              have hl3 := hl2.out
              rw [hrun] at hl3
              have Hl3 := Lib.hid hl3
              have Hend := Lib.hid hend
              clear hl3 hal2 hend hrun
              by_cases hjs : k + n < s.size
              · have h10 : ((s[k + n].toNat : Int) == 10) = true := by
                  have := Hend.out
                  rw [headIs_at hjs] at this
                  have e : s[k + n] = 10 := by simpa [notNl] using this
                  exact u8b (n := 10) (by omega) e
                have hjsi : ((k + n : Nat) : Int) < (s.size : Int) := by omega
                go_wp2_with fail
                exact ⟨⟨k + n, l, u, by omega, by go_num, by omega, Hown.out, Hl3.out, Hfr.out, Hblk.out, Hah.out, Hb.out⟩, by simp [intOf]; omega⟩
              · have hjsi : ¬ ((k + n : Nat) : Int) < (s.size : Int) := by omega
                go_wp2_with fail
                exact ⟨⟨k + n, l, u, by omega, by go_num, by omega, Hown.out, Hl3.out, Hfr.out, Hblk.out, Hah.out, Hb.out⟩, by simp [intOf]; omega⟩
        · have h5 : ((s[k].toNat : Int) == 35) = false := u8ne (n := 35) (by omega) hnt
          have hszw := Hb.out.size
          obtain ⟨A, cap, rfl⟩ := ownsRow_slice Hown.out
          have a0 := Hah.out.cell 0 _ rfl; have a1 := Hah.out.cell 1 _ rfl; have a2 := Hah.out.cell 2 _ rfl; have a3 := Hah.out.cell 3 _ rfl
          cases htk : tokAt (freeOf l) (sl s k) with
          | none =>
            have Hno := Lib.hid (fun X => oneNo (w := X) Hfr.out htk hs hlt)
            have Hend := Lib.hid (Hli.out.bad hs hlt hbk' hnt htk)
            clear htk hnt hbk'
            go_wp2_with (first
              | (go_at_call 85; refine (HBk.out _).mono ?_; rintro e w' ⟨rfl, rfl⟩)
              | (go_at_call 86; refine (Hno.out _).mono ?_; rintro e w1 ⟨x1, x2, x3, x4, x5, rfl, hb1⟩; have hb2 := Hblk.out.keep hb1; have hbl2 := hb2.lt; have HB2 := Lib.hid hb2; clear hb2; have hz := hb1.size; have HB1 := Lib.hid hb1; clear hb1)
              | (refine wpList_store_new rfl 67 _ _ rfl #[.int .i64 x1, .string x2, .int .i64 x3, .int .i64 x4] _ _ rfl rfl (by kernel_rfl) rfl (by kernel_rfl) ?_)
              | (refine wpList_store_row rfl 42 _ _ rfl w.heap.size #[.int .i64 13, .int .i64 k] rfl rfl 42 _ (HB2.out.alloc _) (by kernel_rfl) rfl (by kernel_rfl) ?_))
            exact rallEnd (.slice none 0 0) 13 k [] rfl ((HB2.out.alloc _).row [.int .i64 13, .int .i64 k]) rfl rfl Hend.out (OwnT.nil _ _) (below_setRow ((Hb.out.trans (HB1.out.mono (by omega))).alloc (by omega) _) (Nat.le_refl _) _)
          | some tm =>
            obtain ⟨t, m⟩ := tm
            have Hyes := Lib.hid (fun X => oneYes (w := X) Hfr.out htk hs hlt)
            have hl2 := Lib.hid (Hli.out.tok hlt hbk' hnt htk)
            have hm0 := tokAt_pos htk
            have hm1 := tokAt_len htk
            have Hk0 := Lib.hid (tokAt_kindR htk)
            rw [sl_length] at hm1
            clear htk hnt hbk'
            go_upto_region 15 with (first
              | (go_at_call 85; refine (HBk.out _).mono ?_; rintro e w' ⟨rfl, rfl⟩)
              | (go_at_call 86; refine (Hyes.out _).mono ?_; rintro e w1 ⟨rfl, hb1⟩; have hz := hb1.size; have HB1 := Lib.hid hb1; clear hb1)
              | (refine wpList_store_new rfl 67 _ _ rfl #[.int .i64 t.kind, .string ⟨t.text.toArray⟩, .int .i64 t.num, .int .i64 (k : Int)] _ _ rfl rfl (by kernel_rfl) rfl (by kernel_rfl) ?_))
            obtain ⟨X7, hX7⟩ : ∃ X7, w1.alloc (.cells #[.int .i64 t.kind, .string ⟨t.text.toArray⟩, .int .i64 t.num, .int .i64 (k : Int)] 67) = X7 := ⟨_, rfl⟩
            have hb7 : Below wr.heap.size wr X7 := by rw [← hX7]; exact HB1.out.alloc (by omega) _
            have h7 : Blk X7 w1.heap.size 67 [.int .i64 t.kind, .string ⟨t.text.toArray⟩, .int .i64 t.num, .int .i64 (k : Int)] := by rw [← hX7]; exact Blk.new w1 [.int .i64 t.kind, .string ⟨t.text.toArray⟩, .int .i64 t.num, .int .i64 (k : Int)] 67
            rw [hX7]
            have hz7 := hb7.size
            have H7 := Lib.hid h7
            have H7d := Lib.hid (Blk.drew h7)
            have Hown7 := Lib.hid (ownsRow_keep Hown.out hb7)
            have HBlk7 := Lib.hid (Hblk.out.keep hb7)
            have HAh7 := Lib.hid (Hah.out.keep hb7)
            have HB7 := Lib.hid (Hb.out.trans (hb7.mono (by omega)))
            clear hX7 h7 hb7 a0 a1 a2 a3
            refine wp_region_held_drew (S := fun W => Blk W w1.heap.size 67 [.int .i64 t.kind, .string ⟨t.text.toArray⟩, .int .i64 t.num, .int .i64 (k : Int)]) (by kernel_rfl) H7d.out (fun hHeld => ?_)
            (refine htk 0 52 ?_ rfl ?_ ?_; rotate_left; (intro w hSw; clear hSw; go_simp); (try with_reducible rfl); simp only [lsz, lss])
            (refine htk 1 53 (.agg #[.int .i64 t.kind, .string ⟨t.text.toArray⟩, .int .i64 t.num, .int .i64 (k : Int)]) rfl ?_ ?_; (intro w hSw; have q0 := hSw.cell 0 _ rfl; have q1 := hSw.cell 1 _ rfl; have q2 := hSw.cell 2 _ rfl; have q3 := hSw.cell 3 _ rfl; go_simp); simp only [lsz, lss])
            (refine htk 4 56 (.agg #[.int .i64 t.kind, .string ⟨t.text.toArray⟩, .int .i64 t.num, .int .i64 (k : Int)]) rfl ?_ ?_; (intro w hSw; have q0 := hSw.cell 0 _ rfl; have q1 := hSw.cell 1 _ rfl; have q2 := hSw.cell 2 _ rfl; have q3 := hSw.cell 3 _ rfl; go_simp); simp only [lsz, lss])
            (refine htk 5 57 ?_ rfl ?_ ?_; rotate_left; (intro w hSw; clear hSw; go_simp); (try with_reducible rfl); simp only [lsz, lss])
            (refine hrd 2 rfl (fun K hK => ?_))
            rw [if_pos (by kernel_rfl)]
            go_simp
            refine hK.out _ _ (H7d.out.alloc _) (fun hHeld => ?_)
            clear hK K
            (try simp only [Act.put, lsa, lsz, lss])
            (refine hrd 3 rfl (fun K hK => ?_))
            rw [if_pos (by kernel_rfl)]
            refine wp_append_src _ _ _ _ rfl (w.heap.size + 2) 67 i0 _ 4 40 Tryd.underlying92 hi hz0 hz1 hz2 rfl (by decide) _ _ (l.map Tok.cells).flatten rfl (ownsRow_keep Hown7.out ((Below.refl _ _).drew.alloc (Nat.le_refl _) _)) _ 1 ({ t with pos := k } : Tok).cells rfl (src_new rfl rfl) (by intro u hu; exact cells_one [{ t with pos := k }] u (by simpa using hu)) (by unfold maxLen; omega) (by omega) (by show _ ≤ _; simp; omega) ?_
            intro v3 w3 hown3 hgr3 hat3
            have hb4 : Below (w.heap.size + 2) X7 w3 := below_app ((Below.refl _ _).drew.alloc (by show _ ≤ X7.heap.size; omega) _) (ownsRow_keep Hown7.out ((Below.refl _ _).drew.alloc (Nat.le_refl _) _)) hgr3 (Nat.le_refl _) (by simp; omega)
            have h7w3 : Blk w3 w1.heap.size 67 [.int .i64 t.kind, .string ⟨t.text.toArray⟩, .int .i64 t.num, .int .i64 (k : Int)] := (hgr3.block _ (by simp; have := H7.out.lt; omega) (fun e => by have := (ownsRow_block Hown.out _ e.symm).2; omega)).trans (H7d.out.alloc _)
            have hah3 := HAh7.out.mono hb4 (by omega)
            have H7w3 := Lib.hid h7w3; have Hah3 := Lib.hid hah3; have Hb4 := Lib.hid hb4; have Hown3 := Lib.hid hown3
            clear h7w3 hah3 hb4 hown3 hgr3 hat3
            refine hK.out _ _ H7w3.out (fun hHeld => ?_)
            clear hK K
            (try simp only [Act.put, lsa, lsz, lss])
            (refine htk 6 4 ?_ rfl ?_ ?_; rotate_left; (intro w hSw; clear hSw; go_simp); (try with_reducible rfl); simp only [lsz, lss])
            refine held_store 7 rfl (by kernel_rfl) (by kernel_rfl) (by kernel_rfl) 67 (.tmp 5) (.tmp 56) (by kernel_rfl) (w.heap.size + 1) [.int .i64 t.kind, .string ⟨t.text.toArray⟩, .int .i64 t.num, .int .i64 (k : Int)] _ _ (by kernel_rfl) (by kernel_rfl) Hah3.out infoSz4 rfl (tok_all _ _ _ _) (H7w3.out.far_row (by omega) _) (fun hS => ?_)
            (refine htk 8 6 ?_ rfl ?_ ?_; rotate_left; (intro w hSw; clear hSw; go_simp); (try with_reducible rfl); simp only [lsz, lss])
            refine wpAnyH_done (by kernel_rfl) ?_ _
            go_wp2
            exact ⟨⟨k + m, l ++ [{ t with pos := k }], { t with pos := k }, by omega, by go_num, by simp; omega, ownT_setRow (OwnT.app Hown3.out) (by omega) _, hl2.out, by rw [freeOf_snoc]; simp [frI, Tok.free, Hk0.out], (HBlk7.out.mono Hb4.out (by omega)).far_row (by omega) _, Hah3.out.row _, below_setRow (HB7.out.trans (Hb4.out.mono (by omega))) (by omega) _⟩, by simp [intOf]; omega⟩
    · have hk' : s.size = k := by omega
      have hend := Hli.out.done hs hk'
      rw [← hk'] at hend
      have Hend := Lib.hid hend; clear hend
      have hlti : ¬ (k : Int) < (s.size : Int) := by omega
      clear hk'
      obtain ⟨A, cap, rfl⟩ := ownsRow_slice Hown.out
      have hszw := Hb.out.size
      go_wp2_with (first
        | (at_builtin; refine wpList_append_src _ rfl _ _ _ rfl (w.heap.size + 2) 67 i0 _ 4 40 Tryd.underlying92 hi hz0 hz1 hz2 rfl (by decide) _ _ (l.map Tok.cells).flatten rfl (ownsRow_keep Hown.out ((Below.refl _ _).alloc (Nat.le_refl _) _)) _ 1 (⟨5, [], 0, (s.size : Int)⟩ : Tok).cells rfl (src_new rfl (by simp)) (by intro u hu; exact cells_one [⟨5, [], 0, (s.size : Int)⟩] u (by simpa using hu)) (by unfold maxLen; omega) (by omega) (by simp; omega) ?_; intro v3 w3 hown3 hgr3 hat3; have hb4 : Below (w.heap.size + 2) wr w3 := below_app ((Below.refl _ _).alloc (by omega) _) (ownsRow_keep Hown.out ((Below.refl _ _).alloc (Nat.le_refl _) _)) hgr3 (Nat.le_refl _) (by simp; omega); have HB5 := Lib.hid (Hblk.out.mono hb4 (by omega)); have HB4 := Lib.hid hb4; clear hb4; have Hown3 := Lib.hid hown3; clear hown3)
        | (refine wpList_store_row rfl 42 _ _ rfl w.heap.size #[.int .i64 0, .int .i64 0] rfl rfl 42 _ HB5.out (by kernel_rfl) rfl (by kernel_rfl) ?_))
      exact rallEnd v3 0 0 _ rfl (HB5.out.row [.int .i64 0, .int .i64 0]) rfl rfl Hend.out (ownsRow_base (ownT_setRow (OwnT.app Hown3.out) (by omega) _) (by omega)) (below_setRow (Hb.out.trans (HB4.out.mono (by omega))) (Nat.le_refl _) _)

/-- The reference's tokens of a text. -/
theorem rAll (s : ByteArray) (w : World) (hs : s.size ≤ maxLen) : Calls Tryd.prog 61 #[.string s] w (AllR s w) := by
  by_cases h : s.size ≤ 16384
  · exact rAll_short s w h
  · exact rAll_long s w hs (by omega)

end Go.Proofs.YtobelmipjanibaaDoor
