/- lex.next, whole. -/
import Derived.Test.YtpmbamfpmmdhcaaGreatK48
import Derived.Test.YtpmbamfpmmdhcaaGreatK49
import Derived.Test.YtpmbamfpmmdhcaaGreatK50
set_option maxRecDepth 100000
set_option maxHeartbeats 16000000
namespace Go.Proofs.YtpmbamfpmmdhcaaGreat
open Go.RowKit
set_option linter.unusedSimpArgs false
set_option linter.unusedVariables false
theorem lNext (s : ByteArray) (a : Nat) (l : List Tok) (v : Value) (N : Nat) (w : World) (hs : s.size ≤ 16384) (ha : a < s.size) (hN : N ≤ w.heap.size) (h : IsToks N w v l) :
    Calls Tryz.prog 87 #[.string s,.int .i64 a,v] w (NextR s a (freeOf l) w) := by
  have hb : ∀ wx,Below w.heap.size w wx → Calls Tryz.prog 104 #[v] wx fun e w' => e = .returned (.bool (freeOf l)) ∧ MayNew wx w' := fun wx hbx =>
    lBegins l v N wx (Nat.le_trans hN hbx.size) (h.mono (hbx.mono hN) (Nat.le_refl _))
  generalize freeOf l = free at *
  by_cases hc : letC s[a] = true
  · exact lNext_word s a free v w hs ha hc
  have hlt : letC s[a] = false := by simpa using hc
  by_cases hq : s[a] = 34
  · exact lNext_text s a free v w hs ha hq
  have h34 : ((s[a].toNat : Int) == 34) = false := u8ne (n := 34) (by omega) hq
  by_cases hd : dgC s[a] = true
  · have h45 : s[a] ≠ 45 := by intro e;rw [e] at hd;exact absurd hd (by decide)
    have h45' : ((s[a].toNat : Int) == 45) = false := u8ne (n := 45) (by omega) h45;have htk : tokAt free (sl s a) = numAt s a := tokAt_num ha hlt hq (.inl hd);rcases num_digit hs ha hd with ⟨x,hx⟩ | hx
    · exact lNext_digitYes s a _ x free v w hs ha hd hx htk hlt h45' h34
    · exact lNext_digitNo s a _ free v w hs ha hd hx htk hlt h45' h34
  have hd' : dgC s[a] = false := by simpa using hd
  by_cases h45 : s[a] = 45
  · have h45' : ((s[a].toNat : Int) == 45) = true := u8b (n := 45) (by omega) h45
    by_cases hyes : (∃ h1 : a + 1 < s.size,dgC s[a + 1] = true) ∧ free = true
    · obtain ⟨⟨h1,h2⟩,hf⟩ := hyes
      have hh : headIs dgC (sl s (a + 1)) = true := by rw [headIs_at h1];exact h2
      have htk : tokAt free (sl s a) = numAt s a := tokAt_num ha hlt hq (.inr ⟨h45,hf,hh⟩);rcases num_minus hs ha h45 hh with ⟨x,hx⟩ | hx
      · exact lNext_minusYes s a _ x free v w hs ha h1 h2 hf hb hx htk hlt h45' h34
      · exact lNext_minusNo s a _ free v w hs ha h1 h2 hf hb hx htk hlt h45' h34
    · have hno : ¬ (a + 1 < s.size) ∨ (∃ h : a + 1 < s.size,dgC s[a + 1] = false ∨ (dgC s[a + 1] = true ∧ free = false)) := by
        by_cases h1 : a + 1 < s.size
        · refine .inr ⟨h1,?_⟩
          cases h2 : dgC s[a + 1] with
          | false => exact .inl rfl
          | true =>
            refine .inr ⟨rfl,?_⟩;cases hf : free with
            | false => rfl
            | true => exact absurd ⟨⟨h1,h2⟩,hf⟩ hyes
        · exact .inl h1
      have hh : free = false ∨ headIs dgC (sl s (a + 1)) = false := by
        rcases hno with h1 | ⟨h1,h2 | ⟨_,h2⟩⟩
        · exact .inr (headIs_end (by omega))
        · exact .inr (by rw [headIs_at h1];exact h2)
        · exact .inl h2
      have htk : tokAt free (sl s a) = some (⟨4,[45],0,0⟩,1) := by
        rw [tokAt_sign ha hlt hq hd' (fun _ => hh),sl_cons ha,h45]
        simp [signAt,pairC,signC]
      exact lNext_minusSign s a free v w hs ha htk hlt h45' h34 hb hno
  · have h45' : ((s[a].toNat : Int) == 45) = false := u8ne (n := 45) (by omega) h45
    exact lNext_sign s a free v w hs ha (tokAt_sign ha hlt hq hd' (fun e => absurd e h45)) hlt hd' h45' h34
theorem nextYes {s : ByteArray} {a : Nat} {l : List Tok} {v : Value} {N : Nat} {w : World} {t : Tok} {m : Nat} (ht : tokAt (freeOf l) (sl s a) = some (t,m)) (hs : s.size ≤ 16384) (ha : a < s.size) (hN : N ≤ w.heap.size) (h : IsToks N w v l) :
    Calls Tryz.prog 87 #[.string s,.int .i64 a,v] w fun e w' => e = .returned (.tuple #[.agg #[.int .i64 t.kind,.string ⟨t.text.toArray⟩,.int .i64 t.num,.int .i64 a],.int .i64 m,.bool true]) ∧ Below w.heap.size w w' := by
  refine (lNext s a l v N w hs ha hN h).mono ?_
  rintro e w' ⟨k,x,u,p,n,ok,rfl,hi,hb⟩
  rw [ht] at hi
  obtain ⟨rfl,rfl,rfl,rfl,rfl,rfl⟩ := hi
  exact ⟨rfl,hb⟩
theorem nextNo {s : ByteArray} {a : Nat} {l : List Tok} {v : Value} {N : Nat} {w : World} (ht : tokAt (freeOf l) (sl s a) = none) (hs : s.size ≤ 16384) (ha : a < s.size) (hN : N ≤ w.heap.size) (h : IsToks N w v l) :
    Calls Tryz.prog 87 #[.string s,.int .i64 a,v] w fun e w' => ∃ (k : Int) (x : ByteArray) (u p n : Int),e = .returned (.tuple #[.agg #[.int .i64 k,.string x,.int .i64 u,.int .i64 p],.int .i64 n,.bool false]) ∧ Below w.heap.size w w' := by
  refine (lNext s a l v N w hs ha hN h).mono ?_
  rintro e w' ⟨k,x,u,p,n,ok,rfl,hi,hb⟩
  rw [ht] at hi
  obtain rfl : ok = false := hi
  exact ⟨k,x,u,p,n,rfl,hb⟩
theorem allEnd {s : ByteArray} {w W : World} {A : Act} (v : Value) (er at' : Int) (l : List Tok) (hp : A.tmps.getD 3 undef = .pointer (some ⟨w.heap.size,0,none⟩)) (hg : Blk W w.heap.size 31 [.int .i64 er,.int .i64 at'])
    (hv : A.tmps.getD 2 undef = v) (hdf : A.defers = []) (hl : lexAll s = (l,er,at')) (ho : OwnT w.heap.size W v l) (hb : Below w.heap.size w W) : bodyPost Tryz.prog Tryz.f53 (AllR s w) .ret A W :=
  bodyPost_tmp_agg rfl hp hg Tryz.underlying31 rfl (by kernel_rfl) hdf ⟨v,by rw [hv,hl],by rw [hl];exact ho,hb⟩
theorem lAll_long (s : ByteArray) (w : World) (hm : s.size ≤ maxLen) (hs : 16384 < s.size) : Calls Tryz.prog 53 #[.string s] w (AllR s w) := by
  unfold maxLen at hm
  have Hl : Hid (lexAll s = ([],3,0)) := by show _ = _;unfold lexAll;rw [if_pos hs]
  have h1 : (16384 : Int) < (s.size : Int) := by omega
  go_enter Tryz.func53,Tryz.ntmps53;(try simp only [List.append_eq,List.cons_append,List.nil_append])
  go_wp2
  go_step3
  go_wp2
  refine allEnd (.slice none 0 0) 3 0 [] rfl (Blk.new _ _ _) rfl rfl Hl.out (OwnT.nil _ _) ((Below.refl _ _).alloc (Nat.le_refl _) _)
theorem ownsRow_set {W : World} {base e sz n : Nat} {v : Value} {xs : List Value} (h : W.ownsRow base e sz v n xs) {p : Addr} (hp : p.block < base) (u : Value) : (W.setCell p u).ownsRow base e sz v n xs := by
  refine ⟨h.1,?_⟩
  rcases h.2 with h | ⟨g,cap,cur,hv,hg,hh,h1,h2,h3,h4⟩
  · exact .inl h
  · exact .inr ⟨g,cap,cur,hv,hg,(Below.heap_setCell W p u g (by omega)).trans hh,h1,h2,h3,h4⟩
theorem ownsT_set {w W : World} {v : Value} {l : List Tok} (h : OwnT (w.heap.size + 1) W v l) (u u' : Value) : OwnT w.heap.size ((W.setCell ⟨w.heap.size,0,none⟩ u).setCell ⟨w.heap.size,1,none⟩ u') v l :=
  ownsRow_base (ownsRow_set (ownsRow_set h (Nat.lt_succ_self _) u) (Nat.lt_succ_self _) u') (Nat.le_succ _)
theorem lAll_short (s : ByteArray) (w : World) (hs : s.size ≤ 16384) : Calls Tryz.prog 53 #[.string s] w (AllR s w) := by
  obtain ⟨i0,hi,hz0,hz1,hz2⟩ := info_parts infoT
  have h1 : ¬ (16384 : Int) < (s.size : Int) := by omega
  go_enter Tryz.func53,Tryz.ntmps53;(try simp only [List.append_eq,List.cons_append,List.nil_append])
  go_wp2
  go_step3
  go_wp2
  go_step3
  go_wp2
  go_loopw [4,5] (fun v i wr => ∃ (k : Nat) (l : List Tok),k ≤ s.size ∧ i = .int .i64 k ∧ l.length ≤ k ∧ OwnT (w.heap.size + 1) wr v l ∧ LexI s k l ∧ Blk wr w.heap.size 31 [.int .i64 0,.int .i64 0] ∧ Below w.heap.size w wr) (fun _ i _ => s.size - (intOf i).toNat)
  case atStart => exact ⟨0,[],by omega,rfl,by simp,OwnT.nil _ _,LexI.start s,Blk.new _ _ _,(Below.refl _ _).alloc (Nat.le_refl _) _⟩
  case round =>
    obtain ⟨k,l,hk,rfl,hlk,hown,hli,hblk,hb⟩ := hrel;have Hli := Lib.hid hli;clear hli;have Hb := Lib.hid hb;clear hb;have hbl := hblk.lt;have Hblk := Lib.hid hblk;clear hblk;have hlt' : l.length ≤ 16384 := by omega
    have Hown := Lib.hid hown;clear hown
    by_cases hlt : k < s.size
    · by_cases hbk : blankC s[k] = true
      · have hl2 := Lib.hid (Hli.out.blank hlt hbk)
        have hcs : ((s[k].toNat : Int) == 32) = true ∨ (((s[k].toNat : Int) == 32) = false ∧ ((s[k].toNat : Int) == 9) = true) ∨ (((s[k].toNat : Int) == 32) = false ∧ ((s[k].toNat : Int) == 9) = false ∧ ((s[k].toNat : Int) == 10) = true) ∨ (((s[k].toNat : Int) == 32) = false ∧ ((s[k].toNat : Int) == 9) = false ∧ ((s[k].toNat : Int) == 10) = false ∧ ((s[k].toNat : Int) == 13) = true) := by
          by_cases h1 : s[k] = 32
          · exact .inl (u8b (n := 32) (by omega) h1)
          · by_cases h2 : s[k] = 9
            · exact .inr (.inl ⟨u8ne (n := 32) (by omega) h1,u8b (n := 9) (by omega) h2⟩)
            · by_cases h3 : s[k] = 10
              · exact .inr (.inr (.inl ⟨u8ne (n := 32) (by omega) h1,u8ne (n := 9) (by omega) h2,u8b (n := 10) (by omega) h3⟩))
              · have h4 : s[k] = 13 := by simpa [blankC,h1,h2,h3] using hbk
                exact .inr (.inr (.inr ⟨u8ne (n := 32) (by omega) h1,u8ne (n := 9) (by omega) h2,u8ne (n := 10) (by omega) h3,u8b (n := 13) (by omega) h4⟩))
        clear hbk;rcases hcs with h1 | ⟨h1,h2⟩ | ⟨h1,h2,h3⟩ | ⟨h1,h2,h3,h4⟩
        all_goals
          go_wp2;exact ⟨⟨k + 1,l,by omega,by go_num,by omega,Hown.out,hl2.out,Hblk.out,Hb.out⟩,by simp [intOf];omega⟩
      · have hbk' : blankC s[k] = false := by simpa using hbk
        clear hbk;have hn : s[k] ≠ 32 ∧ s[k] ≠ 9 ∧ s[k] ≠ 10 ∧ s[k] ≠ 13 := by simpa [blankC,and_assoc] using hbk'
        have h1 : ((s[k].toNat : Int) == 32) = false := u8ne (n := 32) (by omega) hn.1;have h2 : ((s[k].toNat : Int) == 9) = false := u8ne (n := 9) (by omega) hn.2.1;have h3 : ((s[k].toNat : Int) == 10) = false := u8ne (n := 10) (by omega) hn.2.2.1;have h4 : ((s[k].toNat : Int) == 13) = false := u8ne (n := 13) (by omega) hn.2.2.2;clear hn
        by_cases hnt : s[k] = 35
        · have hl2 := Lib.hid (Hli.out.note hlt hnt)
          have h5 : ((s[k].toNat : Int) == 35) = true := u8b (n := 35) (by omega) hnt;have Hu := Lib.hid (fun wx => untilNote s k wx (by unfold maxLen;omega) (by omega));have hr1 := runN_le notNl (sl s k);rw [sl_length] at hr1;have hr0 : 0 < runN notNl (sl s k) := by rw [sl_cons hlt,hnt];simp [runN,notNl]
          obtain ⟨n,hn⟩ : ∃ n,runN notNl (sl s k) = n := ⟨_,rfl⟩;rw [hn] at Hu hr1 hr0 hl2;clear hn hnt hbk'
          go_wp2_with (go_at_call 85;refine (Hu.out _).mono ?_;rintro e w' ⟨rfl,rfl⟩)
          exact ⟨⟨k + n,l,by omega,by go_num,by omega,Hown.out,hl2.out,Hblk.out,Hb.out⟩,by simp [intOf];omega⟩
        · have h5 : ((s[k].toNat : Int) == 35) = false := u8ne (n := 35) (by omega) hnt
          have hT := Hown.out.toks (Nat.le_refl _);have HT := Lib.hid hT;clear hT;have hszw := Hb.out.size;obtain ⟨A,cap,rfl⟩ := ownsRow_slice Hown.out;cases htk : tokAt (freeOf l) (sl s k) with
          | none =>
            have Hno := Lib.hid (nextNo htk hs hlt (Nat.le_refl _) HT.out);have Hend := Lib.hid (Hli.out.bad hs hlt hbk' hnt htk);clear htk hnt hbk'
            go_wp2_with (go_at_call 87;refine Hno.out.mono ?_;rintro e w1 ⟨x1,x2,x3,x4,x5,rfl,hb1⟩;have hb2 := Hblk.out.keep hb1;have c0 := hb2.cell 0 _ rfl;have c1 := hb2.cell 1 _ rfl;have f0 := hb2.free 0;have f1 := hb2.free 1;have hbl2 := hb2.lt;have HB2 := Lib.hid hb2;clear hb2;have hz := hb1.size;have HB1 := Lib.hid hb1;clear hb1)
            try rw [Exit.noGoto_ret]
            exact allEnd (.slice none 0 0) 13 k [] rfl (((HB2.out.set_ 0 _).set_ 1 _).alloc _) rfl rfl Hend.out (OwnT.nil _ _) ((((Hb.out.trans (HB1.out.mono (by omega))).setCell (Nat.le_refl _) _).setCell (Nat.le_refl _) _).alloc (by simp;omega) _)
          | some tm =>
            obtain ⟨t,m⟩ := tm;have Hyes := Lib.hid (nextYes htk hs hlt (Nat.le_refl _) HT.out);have hl2 := Lib.hid (Hli.out.tok hlt hbk' hnt htk);have hm0 := tokAt_pos htk;have hm1 := tokAt_len htk;rw [sl_length] at hm1;clear htk hnt hbk'
            go_wp2_with (first
              | (go_at_call 87;refine Hyes.out.mono ?_;rintro e w1 ⟨rfl,hb1⟩;have hb2 := Hblk.out.keep hb1;have hbl2 := hb2.lt;have HB2 := Lib.hid hb2;clear hb2;have hz := hb1.size;have HB1 := Lib.hid hb1;clear hb1)
              | (at_builtin;refine wpList_append_src _ rfl _ _ _ rfl (w.heap.size + 1) 65 i0 _ 4 40 Tryz.underlying35 hi hz0 hz1 hz2 rfl (by decide) _ _ (l.map Tok.cells).flatten rfl (ownsRow_keep Hown.out ((HB1.out.alloc (by omega) _).alloc (by simp;omega) _)) _ 1 ({ t with pos := k } : Tok).cells rfl (src_new rfl (by simp)) (by intro u hu;exact cells_one [{ t with pos := k }] u (by simpa using hu)) (by unfold maxLen;omega) (by omega) (by simp;omega) ?_;intro v3 w3 hown3 hgr3 hat3))
            have hb4 : Below (w.heap.size + 1) wr w3 := below_app (((HB1.out.mono (by omega)).alloc (by omega) _).alloc (by simp;omega) _) (ownsRow_keep Hown.out ((HB1.out.alloc (by omega) _).alloc (by simp;omega) _)) hgr3 (Nat.le_refl _) (by simp;omega);exact ⟨⟨k + m,l ++ [{ t with pos := k }],by omega,by go_num,by simp;omega,OwnT.app hown3,hl2.out,Hblk.out.mono hb4 (Nat.lt_succ_self _),Hb.out.trans (hb4.mono (Nat.le_succ _))⟩,by simp [intOf];omega⟩
    · have hk' : s.size = k := by omega
      have hend := Hli.out.done hs hk';rw [← hk'] at hend;have Hend := Lib.hid hend;clear hend;clear hk';obtain ⟨A,cap,rfl⟩ := ownsRow_slice Hown.out;have hszw := Hb.out.size
      go_wp2_with (at_builtin;refine wpList_append_src _ rfl _ _ _ rfl (w.heap.size + 1) 65 i0 _ 4 40 Tryz.underlying35 hi hz0 hz1 hz2 rfl (by decide) _ _ (l.map Tok.cells).flatten rfl (ownsRow_keep Hown.out ((Below.refl _ _).alloc (Nat.le_refl _) _)) _ 1 (⟨5,[],0,(s.size : Int)⟩ : Tok).cells rfl (src_new rfl (by simp)) (by intro u hu;exact cells_one [⟨5,[],0,(s.size : Int)⟩] u (by simpa using hu)) (by unfold maxLen;omega) (by omega) (by simp;omega) ?_;intro v3 w3 hown3 hgr3 hat3;have hb4 : Below (w.heap.size + 1) wr w3 := below_app ((Below.refl _ _).alloc (by omega) _) (ownsRow_keep Hown.out ((Below.refl _ _).alloc (Nat.le_refl _) _)) hgr3 (Nat.le_refl _) (by simp;omega);have hb5 := Hblk.out.mono hb4 (Nat.lt_succ_self _);have d0 := hb5.cell 0 _ rfl;have d1 := hb5.cell 1 _ rfl;have g0 := hb5.free 0;have g1 := hb5.free 1;have HB5 := Lib.hid hb5;clear hb5;have HB4 := Lib.hid hb4;clear hb4;have Hown3 := Lib.hid hown3;clear hown3)
      try rw [Exit.noGoto_ret]
      exact allEnd v3 0 0 _ rfl ((HB5.out.set_ 0 _).set_ 1 _) rfl rfl Hend.out (ownsT_set (OwnT.app Hown3.out) _ _) (((Hb.out.trans (HB4.out.mono (Nat.le_succ _))).setCell (Nat.le_refl _) _).setCell (Nat.le_refl _) _)
theorem lAll (s : ByteArray) (w : World) (hs : s.size ≤ maxLen) : Calls Tryz.prog 53 #[.string s] w (AllR s w) := by
  by_cases h : s.size ≤ 16384
  · exact lAll_short s w h
  · exact lAll_long s w hs (by omega)
end Go.Proofs.YtpmbamfpmmdhcaaGreat
