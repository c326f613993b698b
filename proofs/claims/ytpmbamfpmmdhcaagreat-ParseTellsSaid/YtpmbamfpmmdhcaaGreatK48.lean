/- lex.next at a number. -/
import Derived.Test.YtpmbamfpmmdhcaaGreatK29
set_option maxRecDepth 100000
set_option maxHeartbeats 16000000
namespace Go.Proofs.YtpmbamfpmmdhcaaGreat
open Go.RowKit
set_option linter.unusedSimpArgs false
set_option linter.unusedVariables false
theorem lNext_digitNo (s : ByteArray) (a n : Nat) (free : Bool) (v : Value) (w : World) (hs : s.size ≤ 16384) (ha : a < s.size) (hd : dgC s[a] = true) (hn : NumNo s a n) (htk : tokAt free (sl s a) = numAt s a) (hlt : letC s[a] = false)
    (h45 : ((s[a].toNat : Int) == 45) = false) (h34 : ((s[a].toNat : Int) == 34) = false) : Calls Tryz.prog 87 #[.string s,.int .i64 a,v] w (NextR s a free w) := by
  have Hw := Lib.hid hn.whole
  have Hu := Lib.hid hn.untl
  have hle := hn.le
  have hpos := hn.pos
  have Ht := Lib.hid (htk.trans hn.tok)
  have Hl := Lib.hid (fun wx => lLetter s[a] wx)
  have Hd := Lib.hid (fun wx => lDigit s[a] wx)
  rw [hlt] at Hl
  rw [hd] at Hd
  have hle1 : (a : Int) + (n : Int) ≤ (s.size : Int) := by omega
  have tk1 : True := trivial
  have en : (1 : Int) + ((n : Int) - 1) = (n : Int) := by omega
  clear hn htk hlt hd
  go_enter Tryz.func87,Tryz.ntmps87;(try simp only [List.append_eq,List.cons_append,List.nil_append])
  go_upto_region 16 with (first
    | (go_at_call 100;have _t := tk1;clear tk1;refine (Hl.out _).mono ?_;rintro e w' ⟨rfl,rfl⟩)
    | (go_at_call 103;refine (Hd.out _).mono ?_;rintro e w' ⟨rfl,rfl⟩))
  go_cut [15] (fun s15 wx => s15 = .int .i64 n ∧ Below w.heap.size w wx ∧ Blk wx w.heap.size 65 [.int .i64 0,.string ⟨#[]⟩,.int .i64 0,.int .i64 0] ∧ Blk wx (w.heap.size + 1) 65 [.int .i64 0,.string ⟨#[]⟩,.int .i64 0,.int .i64 a])
  case first =>
    go_wp2_with (go_at_call 85;refine (Hu.out _).mono ?_;rintro e w' ⟨rfl,rfl⟩)
    go_meet
    exact ⟨rfl,two_below w _ _,two_at w _ _ _ _,two_at' w _ _ _⟩
  case rest =>
    obtain ⟨rfl,hbw,hb0,hb1⟩ := hcut;obtain ⟨W,rfl⟩ : ∃ W : World,W = wc := ⟨_,rfl⟩;have hsz := hb1.lt;have Hbw := Lib.hid hbw;clear hbw;have Hb0 := Lib.hid hb0;clear hb0;have Hb1 := Lib.hid hb1;clear hb1
    go_upto_region 18 with (go_at_call 105;refine (Hw.out _).mono ?_;rintro e w' ⟨x,rfl,rfl⟩)
    go_cut [] (fun wx => Below w.heap.size w wx ∧ Blk wx w.heap.size 65 [.int .i64 0,.string ⟨#[]⟩,.int .i64 0,.int .i64 0] ∧ Blk wx (w.heap.size + 1) 65 [.int .i64 2,.string (s.extract a (a + n)),.int .i64 x,.int .i64 a])
    case first =>
      have c0 := Hb1.out.cell 0 _ rfl;have c1 := Hb1.out.cell 1 _ rfl;have c2 := Hb1.out.cell 2 _ rfl;have f0 := Hb1.out.free 0;have f1 := Hb1.out.free 1;have f2 := Hb1.out.free 2
      go_region
      all_goals go_wp2
      all_goals go_meet
      all_goals exact ⟨(((Hbw.out.setCell (by simp) _).setCell (by simp) _).setCell (by simp) _).drew,(((Hb0.out.far (by simp) _).far (by simp) _).far (by simp) _).drew,(((Hb1.out.set_ 0 _).set_ 1 _).set_ 2 _).drew⟩
    case rest =>
      obtain ⟨hbw,hb0,hb1⟩ := hcut;obtain ⟨W1,rfl⟩ : ∃ W1 : World,W1 = wc := ⟨_,rfl⟩;have hsz1 := hb1.lt;have Hbw1 := Lib.hid hbw;clear hbw;have Hb01 := Lib.hid hb0;clear hb0;clear hsz
      go_upto_region 19 with fail
      have Hb1 := Lib.hid hb1;clear hb1;refine wp_region_held_drew (S := fun X => Blk X (w.heap.size + 1) 65 [.int .i64 2,.string (s.extract a (a + n)),.int .i64 x,.int .i64 a]) (by kernel_rfl) Hb1.out.drew (fun hS => ?_);refine htk 0 110 (.agg ([.int .i64 2,.string (s.extract a (a + n)),.int .i64 x,.int .i64 a]).toArray) rfl ?_ ?_
      · intro X hX
        have e0 := hX.cell 0 _ rfl;have e1 := hX.cell 1 _ rfl;have e2 := hX.cell 2 _ rfl;have e3 := hX.cell 3 _ rfl;clear hX
        go_simp
      simp only [lsz,lss]
      (refine htk 1 111 ?_ rfl ?_ ?_;rotate_left;(intro w hSw;clear hSw;go_simp);(try with_reducible rfl);simp only [lsz,lss])
      (refine htk 2 112 ?_ rfl ?_ ?_;rotate_left;(intro w hSw;clear hSw;go_simp);(try with_reducible rfl);simp only [lsz,lss])
      (refine htk 3 113 ?_ rfl ?_ ?_;rotate_left;(intro w hSw;clear hSw;go_simp);(try with_reducible rfl);simp only [lsz,lss])
      (refine held_skip 4 114 rfl (by kernel_rfl) (by kernel_rfl) (by kernel_rfl) (by kernel_rfl) (fun _ _ _ h => h) (by kernel_rfl) (by assumption) ?_;simp only [lsz,lss])
      (refine held_skip 5 115 rfl (by kernel_rfl) (by kernel_rfl) (by kernel_rfl) (by kernel_rfl) (fun _ _ _ h => h) (by kernel_rfl) (by assumption) ?_;simp only [lsz,lss])
      (refine held_skip 6 116 rfl (by kernel_rfl) (by kernel_rfl) (by kernel_rfl) (by kernel_rfl) (fun _ _ _ h => h) (by kernel_rfl) (by assumption) ?_;simp only [lsz,lss])
      (refine held_skip 7 117 rfl (by kernel_rfl) (by kernel_rfl) (by kernel_rfl) (by kernel_rfl) (fun _ _ _ h => h) (by kernel_rfl) (by assumption) ?_;simp only [lsz,lss])
      (refine held_skip 8 118 rfl (by kernel_rfl) (by kernel_rfl) (by kernel_rfl) (by kernel_rfl) (fun _ _ _ h => h) (by kernel_rfl) (by assumption) ?_;simp only [lsz,lss])
      (refine held_skip 9 119 rfl (by kernel_rfl) (by kernel_rfl) (by kernel_rfl) (by kernel_rfl) (fun _ _ _ h => h) (by kernel_rfl) (by assumption) ?_;simp only [lsz,lss])
      (refine held_skip 10 120 rfl (by kernel_rfl) (by kernel_rfl) (by kernel_rfl) (by kernel_rfl) (fun _ _ _ h => h) (by kernel_rfl) (by assumption) ?_;simp only [lsz,lss])
      (refine held_skip 11 121 rfl (by kernel_rfl) (by kernel_rfl) (by kernel_rfl) (by kernel_rfl) (fun _ _ _ h => h) (by kernel_rfl) (by assumption) ?_;simp only [lsz,lss])
      (refine held_skip 12 122 rfl (by kernel_rfl) (by kernel_rfl) (by kernel_rfl) (by kernel_rfl) (fun _ _ _ h => h) (by kernel_rfl) (by assumption) ?_;simp only [lsz,lss])
      (refine held_skip 13 123 rfl (by kernel_rfl) (by kernel_rfl) (by kernel_rfl) (by kernel_rfl) (fun _ _ _ h => h) (by kernel_rfl) (by assumption) ?_;simp only [lsz,lss])
      (refine held_skip 14 124 rfl (by kernel_rfl) (by kernel_rfl) (by kernel_rfl) (by kernel_rfl) (fun _ _ _ h => h) (by kernel_rfl) (by assumption) ?_;simp only [lsz,lss])
      (refine held_skip 15 125 rfl (by kernel_rfl) (by kernel_rfl) (by kernel_rfl) (by kernel_rfl) (fun _ _ _ h => h) (by kernel_rfl) (by assumption) ?_;simp only [lsz,lss])
      (refine held_skip 16 126 rfl (by kernel_rfl) (by kernel_rfl) (by kernel_rfl) (by kernel_rfl) (fun _ _ _ h => h) (by kernel_rfl) (by assumption) ?_;simp only [lsz,lss])
      (refine held_skip 17 127 rfl (by kernel_rfl) (by kernel_rfl) (by kernel_rfl) (by kernel_rfl) (fun _ _ _ h => h) (by kernel_rfl) (by assumption) ?_;simp only [lsz,lss])
      (refine held_skip 18 128 rfl (by kernel_rfl) (by kernel_rfl) (by kernel_rfl) (by kernel_rfl) (fun _ _ _ h => h) (by kernel_rfl) (by assumption) ?_;simp only [lsz,lss])
      (refine htk 19 129 ?_ rfl ?_ ?_;rotate_left;(intro w hSw;clear hSw;go_simp);(try with_reducible rfl);simp only [lsz,lss])
      refine held_store 20 rfl (by kernel_rfl) (by kernel_rfl) (by kernel_rfl) 65 (.tmp 6) (.tmp 110) (by kernel_rfl) w.heap.size [.int .i64 2,.string (s.extract a (a + n)),.int .i64 x,.int .i64 a] _ _ (by kernel_rfl) (by kernel_rfl) (Blk.drew Hb01.out) infoSz4 rfl (tok_all _ _ _ _) (Blk.far_row hS (by omega) _) (fun hS => ?_)
      (refine htk 21 7 ?_ rfl ?_ ?_;rotate_left;(intro w hSw;clear hSw;go_simp);(try with_reducible rfl);simp only [lsz,lss])
      (refine htk 22 8 ?_ rfl ?_ ?_;rotate_left;(intro w hSw;clear hSw;go_simp);(try with_reducible rfl);simp only [lsz,lss])
      refine wpAnyH_done (by kernel_rfl) ?_ _;go_wp2;refine nextEnd 2 (s.extract a (a + n)) x a n false rfl (Blk.row (Blk.drew Hb01.out) _) rfl rfl rfl ?_ (below_setRow Hbw1.out.drew (by omega) _);rw [Ht.out]
      rfl
theorem lNext_digitYes (s : ByteArray) (a n : Nat) (x : Int) (free : Bool) (v : Value) (w : World) (hs : s.size ≤ 16384) (ha : a < s.size) (hd : dgC s[a] = true) (hn : NumYes s a n x) (htk : tokAt free (sl s a) = numAt s a) (hlt : letC s[a] = false)
    (h45 : ((s[a].toNat : Int) == 45) = false) (h34 : ((s[a].toNat : Int) == 34) = false) : Calls Tryz.prog 87 #[.string s,.int .i64 a,v] w (NextR s a free w) := by
  have Hw := Lib.hid hn.whole
  have Hu := Lib.hid hn.untl
  have hle := hn.le
  have hpos := hn.pos
  have Ht := Lib.hid (htk.trans hn.tok)
  have Hl := Lib.hid (fun wx => lLetter s[a] wx)
  have Hd := Lib.hid (fun wx => lDigit s[a] wx)
  rw [hlt] at Hl
  rw [hd] at Hd
  have hle1 : (a : Int) + (n : Int) ≤ (s.size : Int) := by omega
  have tk1 : True := trivial
  have en : (1 : Int) + ((n : Int) - 1) = (n : Int) := by omega
  clear hn htk hlt hd
  go_enter Tryz.func87,Tryz.ntmps87;(try simp only [List.append_eq,List.cons_append,List.nil_append])
  go_upto_region 16 with (first
    | (go_at_call 100;have _t := tk1;clear tk1;refine (Hl.out _).mono ?_;rintro e w' ⟨rfl,rfl⟩)
    | (go_at_call 103;refine (Hd.out _).mono ?_;rintro e w' ⟨rfl,rfl⟩))
  go_cut [15] (fun s15 wx => s15 = .int .i64 n ∧ Below w.heap.size w wx ∧ Blk wx w.heap.size 65 [.int .i64 0,.string ⟨#[]⟩,.int .i64 0,.int .i64 0] ∧ Blk wx (w.heap.size + 1) 65 [.int .i64 0,.string ⟨#[]⟩,.int .i64 0,.int .i64 a])
  case first =>
    go_wp2_with (go_at_call 85;refine (Hu.out _).mono ?_;rintro e w' ⟨rfl,rfl⟩)
    go_meet
    exact ⟨rfl,two_below w _ _,two_at w _ _ _ _,two_at' w _ _ _⟩
  case rest =>
    obtain ⟨rfl,hbw,hb0,hb1⟩ := hcut;obtain ⟨W,rfl⟩ : ∃ W : World,W = wc := ⟨_,rfl⟩;have hsz := hb1.lt;have Hbw := Lib.hid hbw;clear hbw;have Hb0 := Lib.hid hb0;clear hb0;have Hb1 := Lib.hid hb1;clear hb1
    go_upto_region 18 with (go_at_call 105;refine (Hw.out _).mono ?_;rintro e w' ⟨rfl,rfl⟩)
    go_cut [] (fun wx => Below w.heap.size w wx ∧ Blk wx w.heap.size 65 [.int .i64 0,.string ⟨#[]⟩,.int .i64 0,.int .i64 0] ∧ Blk wx (w.heap.size + 1) 65 [.int .i64 2,.string (s.extract a (a + n)),.int .i64 x,.int .i64 a])
    case first =>
      have c0 := Hb1.out.cell 0 _ rfl;have c1 := Hb1.out.cell 1 _ rfl;have c2 := Hb1.out.cell 2 _ rfl;have f0 := Hb1.out.free 0;have f1 := Hb1.out.free 1;have f2 := Hb1.out.free 2
      go_region
      all_goals go_wp2
      all_goals go_meet
      all_goals exact ⟨(((Hbw.out.setCell (by simp) _).setCell (by simp) _).setCell (by simp) _).drew,(((Hb0.out.far (by simp) _).far (by simp) _).far (by simp) _).drew,(((Hb1.out.set_ 0 _).set_ 1 _).set_ 2 _).drew⟩
    case rest =>
      obtain ⟨hbw,hb0,hb1⟩ := hcut;obtain ⟨W1,rfl⟩ : ∃ W1 : World,W1 = wc := ⟨_,rfl⟩;have hsz1 := hb1.lt;have Hbw1 := Lib.hid hbw;clear hbw;have Hb01 := Lib.hid hb0;clear hb0;clear hsz
      go_upto_region 19 with fail
      have Hb1 := Lib.hid hb1;clear hb1;have hwr : IntKind.i64.wrap ((a : Int) + (n : Int)) = (a : Int) + (n : Int) := IntWalk.i64_in _ (by omega);have hq0 : (0 : Int) ≤ (a : Int) + (n : Int) := by omega
      have hq1 : ((a : Int) + (n : Int)).toNat = a + n := by omega
      by_cases hend : a + n = s.size
      · have hq : (IntKind.i64.wrap ((a : Int) + (n : Int)) == (s.size : Int)) = true := by rw [hwr,← hend];simp
        have he : ((a : Int) + (n : Int) == (s.size : Int)) = true := by rw [← hend];simp
        have Hh := Lib.hid (headIs_end (p := letC) (s := s) (k := a + n) (by omega));have Hend := Lib.hid hend;clear hend;refine wp_region_held_drew (S := fun X => Blk X (w.heap.size + 1) 65 [.int .i64 2,.string (s.extract a (a + n)),.int .i64 x,.int .i64 a]) (by kernel_rfl) Hb1.out.drew (fun hS => ?_);refine htk 0 110 (.agg ([.int .i64 2,.string (s.extract a (a + n)),.int .i64 x,.int .i64 a]).toArray) rfl ?_ ?_
        · intro X hX
          have e0 := hX.cell 0 _ rfl;have e1 := hX.cell 1 _ rfl;have e2 := hX.cell 2 _ rfl;have e3 := hX.cell 3 _ rfl;clear hX
          go_simp
        simp only [lsz,lss]
        (refine htk 1 111 ?_ rfl ?_ ?_;rotate_left;(intro w hSw;clear hSw;go_simp);(try with_reducible rfl);simp only [lsz,lss])
        (refine htk 2 112 ?_ rfl ?_ ?_;rotate_left;(intro w hSw;clear hSw;go_simp);(try with_reducible rfl);simp only [lsz,lss])
        (refine htk 3 113 ?_ rfl ?_ ?_;rotate_left;(intro w hSw;clear hSw;go_simp);(try with_reducible rfl);simp only [lsz,lss])
        (refine htk 4 114 ?_ rfl ?_ ?_;rotate_left;(intro w hSw;clear hSw;go_simp);(try with_reducible rfl);simp only [lsz,lss])
        (refine htk 5 115 ?_ rfl ?_ ?_;rotate_left;(intro w hSw;clear hSw;go_simp);(try with_reducible rfl);simp only [lsz,lss])
        (refine htk 6 116 ?_ rfl ?_ ?_;rotate_left;(intro w hSw;clear hSw;go_simp);(try with_reducible rfl);simp only [lsz,lss])
        (refine htk 7 117 ?_ rfl ?_ ?_;rotate_left;(intro w hSw;clear hSw;go_simp);(try with_reducible rfl);simp only [lsz,lss])
        (refine htk 8 118 ?_ rfl ?_ ?_;rotate_left;(intro w hSw;clear hSw;go_simp);(try with_reducible rfl);simp only [lsz,lss])
        (refine htk 9 119 ?_ rfl ?_ ?_;rotate_left;(intro w hSw;clear hSw;go_simp);(try with_reducible rfl);simp only [lsz,lss])
        (refine htk 10 120 ?_ rfl ?_ ?_;rotate_left;(intro w hSw;clear hSw;go_simp);(try with_reducible rfl);simp only [lsz,lss])
        (refine held_skip 11 121 rfl (by kernel_rfl) (by kernel_rfl) (by kernel_rfl) (by kernel_rfl) (fun _ _ _ h => h) (by kernel_rfl) (by assumption) ?_;simp only [lsz,lss])
        (refine held_skip 12 122 rfl (by kernel_rfl) (by kernel_rfl) (by kernel_rfl) (by kernel_rfl) (fun _ _ _ h => h) (by kernel_rfl) (by assumption) ?_;simp only [lsz,lss])
        (refine held_skip 13 123 rfl (by kernel_rfl) (by kernel_rfl) (by kernel_rfl) (by kernel_rfl) (fun _ _ _ h => h) (by kernel_rfl) (by assumption) ?_;simp only [lsz,lss])
        (refine held_skip 14 124 rfl (by kernel_rfl) (by kernel_rfl) (by kernel_rfl) (by kernel_rfl) (fun _ _ _ h => h) (by kernel_rfl) (by assumption) ?_;simp only [lsz,lss])
        (refine held_skip 15 125 rfl (by kernel_rfl) (by kernel_rfl) (by kernel_rfl) (by kernel_rfl) (fun _ _ _ h => h) (by kernel_rfl) (by assumption) ?_;simp only [lsz,lss])
        (refine held_skip 16 126 rfl (by kernel_rfl) (by kernel_rfl) (by kernel_rfl) (by kernel_rfl) (fun _ _ _ h => h) (by kernel_rfl) (by assumption) ?_;simp only [lsz,lss])
        (refine held_skip 17 127 rfl (by kernel_rfl) (by kernel_rfl) (by kernel_rfl) (by kernel_rfl) (fun _ _ _ h => h) (by kernel_rfl) (by assumption) ?_;simp only [lsz,lss])
        (refine htk 18 128 ?_ rfl ?_ ?_;rotate_left;(intro w hSw;clear hSw;go_simp);(try with_reducible rfl);simp only [lsz,lss])
        (refine htk 19 129 ?_ rfl ?_ ?_;rotate_left;(intro w hSw;clear hSw;go_simp);(try with_reducible rfl);simp only [lsz,lss])
        refine held_store 20 rfl (by kernel_rfl) (by kernel_rfl) (by kernel_rfl) 65 (.tmp 6) (.tmp 110) (by kernel_rfl) w.heap.size [.int .i64 2,.string (s.extract a (a + n)),.int .i64 x,.int .i64 a] _ _ (by kernel_rfl) (by kernel_rfl) (Blk.drew Hb01.out) infoSz4 rfl (tok_all _ _ _ _) (Blk.far_row hS (by omega) _) (fun hS => ?_)
        (refine htk 21 7 ?_ rfl ?_ ?_;rotate_left;(intro w hSw;clear hSw;go_simp);(try with_reducible rfl);simp only [lsz,lss])
        (refine htk 22 8 ?_ rfl ?_ ?_;rotate_left;(intro w hSw;clear hSw;go_simp);(try with_reducible rfl);simp only [lsz,lss])
        refine wpAnyH_done (by kernel_rfl) ?_ _;go_wp2;refine nextEnd 2 (s.extract a (a + n)) x a n true rfl (Blk.row (Blk.drew Hb01.out) _) rfl rfl rfl ?_ (below_setRow Hbw1.out.drew (by omega) _);rw [Ht.out,Hh.out];exact ⟨rfl,rfl,by rw [extract_sl],rfl,rfl,rfl⟩
      · have hq : (IntKind.i64.wrap ((a : Int) + (n : Int)) == (s.size : Int)) = false := by rw [hwr];simp;omega
        have he : ((a : Int) + (n : Int) == (s.size : Int)) = false := by simp;omega
        have hlt : a + n < s.size := by omega
        have hlt1 : (a : Int) + (n : Int) < (s.size : Int) := by omega
        have Hh := Lib.hid (headIs_at (p := letC) hlt);have Hl2 := Lib.hid (fun wx => lLetter s[a + n] wx);clear hend;cases hb2 : letC s[a + n]
        · rw [hb2] at Hl2 Hh
          clear hb2;refine wp_region_held_drew (S := fun X => Blk X (w.heap.size + 1) 65 [.int .i64 2,.string (s.extract a (a + n)),.int .i64 x,.int .i64 a]) (by kernel_rfl) Hb1.out.drew (fun hS => ?_);refine htk 0 110 (.agg ([.int .i64 2,.string (s.extract a (a + n)),.int .i64 x,.int .i64 a]).toArray) rfl ?_ ?_
          · intro X hX
            have e0 := hX.cell 0 _ rfl;have e1 := hX.cell 1 _ rfl;have e2 := hX.cell 2 _ rfl;have e3 := hX.cell 3 _ rfl;clear hX
            go_simp
          simp only [lsz,lss]
          (refine htk 1 111 ?_ rfl ?_ ?_;rotate_left;(intro w hSw;clear hSw;go_simp);(try with_reducible rfl);simp only [lsz,lss])
          (refine htk 2 112 ?_ rfl ?_ ?_;rotate_left;(intro w hSw;clear hSw;go_simp);(try with_reducible rfl);simp only [lsz,lss])
          (refine htk 3 113 ?_ rfl ?_ ?_;rotate_left;(intro w hSw;clear hSw;go_simp);(try with_reducible rfl);simp only [lsz,lss])
          (refine htk 4 114 ?_ rfl ?_ ?_;rotate_left;(intro w hSw;clear hSw;go_simp);(try with_reducible rfl);simp only [lsz,lss])
          (refine htk 5 115 ?_ rfl ?_ ?_;rotate_left;(intro w hSw;clear hSw;go_simp);(try with_reducible rfl);simp only [lsz,lss])
          (refine htk 6 116 ?_ rfl ?_ ?_;rotate_left;(intro w hSw;clear hSw;go_simp);(try with_reducible rfl);simp only [lsz,lss])
          (refine htk 7 117 ?_ rfl ?_ ?_;rotate_left;(intro w hSw;clear hSw;go_simp);(try with_reducible rfl);simp only [lsz,lss])
          (refine htk 8 118 ?_ rfl ?_ ?_;rotate_left;(intro w hSw;clear hSw;go_simp);(try with_reducible rfl);simp only [lsz,lss])
          (refine htk 9 119 ?_ rfl ?_ ?_;rotate_left;(intro w hSw;clear hSw;go_simp);(try with_reducible rfl);simp only [lsz,lss])
          (refine htk 10 120 ?_ rfl ?_ ?_;rotate_left;(intro w hSw;clear hSw;go_simp);(try with_reducible rfl);simp only [lsz,lss])
          (refine htk 11 121 ?_ rfl ?_ ?_;rotate_left;(intro w hSw;clear hSw;go_simp);(try with_reducible rfl);simp only [lsz,lss])
          (refine htk 12 122 ?_ rfl ?_ ?_;rotate_left;(intro w hSw;clear hSw;go_simp);(try with_reducible rfl);simp only [lsz,lss])
          (refine htk 13 123 ?_ rfl ?_ ?_;rotate_left;(intro w hSw;clear hSw;go_simp);(try with_reducible rfl);simp only [lsz,lss])
          (refine htk 14 124 ?_ rfl ?_ ?_;rotate_left;(intro w hSw;clear hSw;go_simp);(try with_reducible rfl);simp only [lsz,lss])
          (refine htk 15 125 ?_ rfl ?_ ?_;rotate_left;(intro w hSw;clear hSw;go_simp);(try with_reducible rfl);simp only [lsz,lss])
          refine wpAnyH_ready (rs := [16]) (by kernel_rfl) (by simp) ?_;refine AllReadyH.cons rfl ?_ ?_
          rotate_left
          exact AllReadyH.nil;intro K hK;rw [if_pos (by kernel_rfl)]
          go_simp
          go_at_call 100;refine (Hl2.out _).mono ?_;rintro e w' ⟨rfl,rfl⟩
          go_simp
          refine hK.out _ _ hS (fun hS => ?_);clear hK K
          (refine htk 17 127 ?_ rfl ?_ ?_;rotate_left;(intro w hSw;clear hSw;go_simp);(try with_reducible rfl);simp only [lsz,lss])
          (refine htk 18 128 ?_ rfl ?_ ?_;rotate_left;(intro w hSw;clear hSw;go_simp);(try with_reducible rfl);simp only [lsz,lss])
          (refine htk 19 129 ?_ rfl ?_ ?_;rotate_left;(intro w hSw;clear hSw;go_simp);(try with_reducible rfl);simp only [lsz,lss])
          refine held_store 20 rfl (by kernel_rfl) (by kernel_rfl) (by kernel_rfl) 65 (.tmp 6) (.tmp 110) (by kernel_rfl) w.heap.size [.int .i64 2,.string (s.extract a (a + n)),.int .i64 x,.int .i64 a] _ _ (by kernel_rfl) (by kernel_rfl) (Blk.drew Hb01.out) infoSz4 rfl (tok_all _ _ _ _) (Blk.far_row hS (by omega) _) (fun hS => ?_)
          (refine htk 21 7 ?_ rfl ?_ ?_;rotate_left;(intro w hSw;clear hSw;go_simp);(try with_reducible rfl);simp only [lsz,lss])
          (refine htk 22 8 ?_ rfl ?_ ?_;rotate_left;(intro w hSw;clear hSw;go_simp);(try with_reducible rfl);simp only [lsz,lss])
          refine wpAnyH_done (by kernel_rfl) ?_ _;go_wp2;refine nextEnd 2 (s.extract a (a + n)) x a n true rfl (Blk.row (Blk.drew Hb01.out) _) rfl rfl rfl ?_ (below_setRow Hbw1.out.drew (by omega) _);rw [Ht.out,Hh.out];exact ⟨rfl,rfl,by rw [extract_sl],rfl,rfl,rfl⟩
        · rw [hb2] at Hl2 Hh
          clear hb2;refine wp_region_held_drew (S := fun X => Blk X (w.heap.size + 1) 65 [.int .i64 2,.string (s.extract a (a + n)),.int .i64 x,.int .i64 a]) (by kernel_rfl) Hb1.out.drew (fun hS => ?_);refine htk 0 110 (.agg ([.int .i64 2,.string (s.extract a (a + n)),.int .i64 x,.int .i64 a]).toArray) rfl ?_ ?_
          · intro X hX
            have e0 := hX.cell 0 _ rfl;have e1 := hX.cell 1 _ rfl;have e2 := hX.cell 2 _ rfl;have e3 := hX.cell 3 _ rfl;clear hX
            go_simp
          simp only [lsz,lss]
          (refine htk 1 111 ?_ rfl ?_ ?_;rotate_left;(intro w hSw;clear hSw;go_simp);(try with_reducible rfl);simp only [lsz,lss])
          (refine htk 2 112 ?_ rfl ?_ ?_;rotate_left;(intro w hSw;clear hSw;go_simp);(try with_reducible rfl);simp only [lsz,lss])
          (refine htk 3 113 ?_ rfl ?_ ?_;rotate_left;(intro w hSw;clear hSw;go_simp);(try with_reducible rfl);simp only [lsz,lss])
          (refine htk 4 114 ?_ rfl ?_ ?_;rotate_left;(intro w hSw;clear hSw;go_simp);(try with_reducible rfl);simp only [lsz,lss])
          (refine htk 5 115 ?_ rfl ?_ ?_;rotate_left;(intro w hSw;clear hSw;go_simp);(try with_reducible rfl);simp only [lsz,lss])
          (refine htk 6 116 ?_ rfl ?_ ?_;rotate_left;(intro w hSw;clear hSw;go_simp);(try with_reducible rfl);simp only [lsz,lss])
          (refine htk 7 117 ?_ rfl ?_ ?_;rotate_left;(intro w hSw;clear hSw;go_simp);(try with_reducible rfl);simp only [lsz,lss])
          (refine htk 8 118 ?_ rfl ?_ ?_;rotate_left;(intro w hSw;clear hSw;go_simp);(try with_reducible rfl);simp only [lsz,lss])
          (refine htk 9 119 ?_ rfl ?_ ?_;rotate_left;(intro w hSw;clear hSw;go_simp);(try with_reducible rfl);simp only [lsz,lss])
          (refine htk 10 120 ?_ rfl ?_ ?_;rotate_left;(intro w hSw;clear hSw;go_simp);(try with_reducible rfl);simp only [lsz,lss])
          (refine htk 11 121 ?_ rfl ?_ ?_;rotate_left;(intro w hSw;clear hSw;go_simp);(try with_reducible rfl);simp only [lsz,lss])
          (refine htk 12 122 ?_ rfl ?_ ?_;rotate_left;(intro w hSw;clear hSw;go_simp);(try with_reducible rfl);simp only [lsz,lss])
          (refine htk 13 123 ?_ rfl ?_ ?_;rotate_left;(intro w hSw;clear hSw;go_simp);(try with_reducible rfl);simp only [lsz,lss])
          (refine htk 14 124 ?_ rfl ?_ ?_;rotate_left;(intro w hSw;clear hSw;go_simp);(try with_reducible rfl);simp only [lsz,lss])
          (refine htk 15 125 ?_ rfl ?_ ?_;rotate_left;(intro w hSw;clear hSw;go_simp);(try with_reducible rfl);simp only [lsz,lss])
          refine wpAnyH_ready (rs := [16]) (by kernel_rfl) (by simp) ?_;refine AllReadyH.cons rfl ?_ ?_
          rotate_left
          exact AllReadyH.nil;intro K hK;rw [if_pos (by kernel_rfl)]
          go_simp
          go_at_call 100;refine (Hl2.out _).mono ?_;rintro e w' ⟨rfl,rfl⟩
          go_simp
          refine hK.out _ _ hS (fun hS => ?_);clear hK K
          (refine htk 17 127 ?_ rfl ?_ ?_;rotate_left;(intro w hSw;clear hSw;go_simp);(try with_reducible rfl);simp only [lsz,lss])
          (refine htk 18 128 ?_ rfl ?_ ?_;rotate_left;(intro w hSw;clear hSw;go_simp);(try with_reducible rfl);simp only [lsz,lss])
          (refine htk 19 129 ?_ rfl ?_ ?_;rotate_left;(intro w hSw;clear hSw;go_simp);(try with_reducible rfl);simp only [lsz,lss])
          refine held_store 20 rfl (by kernel_rfl) (by kernel_rfl) (by kernel_rfl) 65 (.tmp 6) (.tmp 110) (by kernel_rfl) w.heap.size [.int .i64 2,.string (s.extract a (a + n)),.int .i64 x,.int .i64 a] _ _ (by kernel_rfl) (by kernel_rfl) (Blk.drew Hb01.out) infoSz4 rfl (tok_all _ _ _ _) (Blk.far_row hS (by omega) _) (fun hS => ?_)
          (refine htk 21 7 ?_ rfl ?_ ?_;rotate_left;(intro w hSw;clear hSw;go_simp);(try with_reducible rfl);simp only [lsz,lss])
          (refine htk 22 8 ?_ rfl ?_ ?_;rotate_left;(intro w hSw;clear hSw;go_simp);(try with_reducible rfl);simp only [lsz,lss])
          refine wpAnyH_done (by kernel_rfl) ?_ _;go_wp2;refine nextEnd 2 (s.extract a (a + n)) x a n false rfl (Blk.row (Blk.drew Hb01.out) _) rfl rfl rfl ?_ (below_setRow Hbw1.out.drew (by omega) _);rw [Ht.out,Hh.out]
          rfl
theorem lNext_minusNo (s : ByteArray) (a n : Nat) (free : Bool) (v : Value) (w : World) (hs : s.size ≤ 16384) (ha : a < s.size) (ha1 : a + 1 < s.size) (hd : dgC s[a + 1] = true) (hfree : free = true) (hb : ∀ wx,Below w.heap.size w wx → Calls Tryz.prog 104 #[v] wx fun e w' => e = .returned (.bool free) ∧ MayNew wx w') (hn : NumNo s a n) (htk : tokAt free (sl s a) = numAt s a) (hlt : letC s[a] = false)
    (h45 : ((s[a].toNat : Int) == 45) = true) (h34 : ((s[a].toNat : Int) == 34) = false) : Calls Tryz.prog 87 #[.string s,.int .i64 a,v] w (NextR s a free w) := by
  have Hw := Lib.hid hn.whole
  have Hu := Lib.hid hn.untl
  have hle := hn.le
  have hpos := hn.pos
  have Ht := Lib.hid (htk.trans hn.tok)
  have Hl := Lib.hid (fun wx => lLetter s[a] wx)
  have Hd := Lib.hid (fun wx => lDigit s[a + 1] wx)
  rw [hfree] at hb
  have Hb := Lib.hid hb;clear hb
  have Hfr := Lib.hid hfree;clear hfree
  have ha2 : (a : Int) + 1 < (s.size : Int) := by omega
  rw [hlt] at Hl
  rw [hd] at Hd
  have hle1 : (a : Int) + (n : Int) ≤ (s.size : Int) := by omega
  have tk1 : True := trivial
  have en : (1 : Int) + ((n : Int) - 1) = (n : Int) := by omega
  clear hn htk hlt hd
  go_enter Tryz.func87,Tryz.ntmps87;(try simp only [List.append_eq,List.cons_append,List.nil_append])
  go_upto_region 16 with (first
    | (go_at_call 100;have _t := tk1;clear tk1;refine (Hl.out _).mono ?_;rintro e w' ⟨rfl,rfl⟩)
    | (go_at_call 103;refine (Hd.out _).mono ?_;rintro e w' ⟨rfl,rfl⟩)
    | (go_at_call 104;refine (Hb.out _ (two_below w _ _)).mono ?_;rintro e wb ⟨rfl,hmn⟩))
  go_cut [15] (fun s15 wx => s15 = .int .i64 n ∧ Below w.heap.size w wx ∧ Blk wx w.heap.size 65 [.int .i64 0,.string ⟨#[]⟩,.int .i64 0,.int .i64 0] ∧ Blk wx (w.heap.size + 1) 65 [.int .i64 0,.string ⟨#[]⟩,.int .i64 0,.int .i64 a])
  case first =>
    go_wp2_with (go_at_call 85;refine (Hu.out _).mono ?_;rintro e w' ⟨rfl,rfl⟩)
    go_meet
    rcases hmn with rfl | ⟨o,rfl⟩
    · exact ⟨rfl,two_below w _ _,two_at w _ _ _ _,two_at' w _ _ _⟩
    · exact ⟨rfl,(two_below w _ _).alloc (by simp;omega) _,(two_at w _ _ _ _).alloc _,(two_at' w _ _ _).alloc _⟩
  case rest =>
    obtain ⟨rfl,hbw,hb0,hb1⟩ := hcut;obtain ⟨W,rfl⟩ : ∃ W : World,W = wc := ⟨_,rfl⟩;have hsz := hb1.lt;have Hbw := Lib.hid hbw;clear hbw;have Hb0 := Lib.hid hb0;clear hb0;have Hb1 := Lib.hid hb1;clear hb1
    go_upto_region 18 with (go_at_call 105;refine (Hw.out _).mono ?_;rintro e w' ⟨x,rfl,rfl⟩)
    go_cut [] (fun wx => Below w.heap.size w wx ∧ Blk wx w.heap.size 65 [.int .i64 0,.string ⟨#[]⟩,.int .i64 0,.int .i64 0] ∧ Blk wx (w.heap.size + 1) 65 [.int .i64 2,.string (s.extract a (a + n)),.int .i64 x,.int .i64 a])
    case first =>
      have c0 := Hb1.out.cell 0 _ rfl;have c1 := Hb1.out.cell 1 _ rfl;have c2 := Hb1.out.cell 2 _ rfl;have f0 := Hb1.out.free 0;have f1 := Hb1.out.free 1;have f2 := Hb1.out.free 2
      go_region
      all_goals go_wp2
      all_goals go_meet
      all_goals exact ⟨(((Hbw.out.setCell (by simp) _).setCell (by simp) _).setCell (by simp) _).drew,(((Hb0.out.far (by simp) _).far (by simp) _).far (by simp) _).drew,(((Hb1.out.set_ 0 _).set_ 1 _).set_ 2 _).drew⟩
    case rest =>
      obtain ⟨hbw,hb0,hb1⟩ := hcut;obtain ⟨W1,rfl⟩ : ∃ W1 : World,W1 = wc := ⟨_,rfl⟩;have hsz1 := hb1.lt;have Hbw1 := Lib.hid hbw;clear hbw;have Hb01 := Lib.hid hb0;clear hb0;clear hsz
      go_upto_region 19 with fail
      have Hb1 := Lib.hid hb1;clear hb1;refine wp_region_held_drew (S := fun X => Blk X (w.heap.size + 1) 65 [.int .i64 2,.string (s.extract a (a + n)),.int .i64 x,.int .i64 a]) (by kernel_rfl) Hb1.out.drew (fun hS => ?_);refine htk 0 110 (.agg ([.int .i64 2,.string (s.extract a (a + n)),.int .i64 x,.int .i64 a]).toArray) rfl ?_ ?_
      · intro X hX
        have e0 := hX.cell 0 _ rfl;have e1 := hX.cell 1 _ rfl;have e2 := hX.cell 2 _ rfl;have e3 := hX.cell 3 _ rfl;clear hX
        go_simp
      simp only [lsz,lss]
      (refine htk 1 111 ?_ rfl ?_ ?_;rotate_left;(intro w hSw;clear hSw;go_simp);(try with_reducible rfl);simp only [lsz,lss])
      (refine htk 2 112 ?_ rfl ?_ ?_;rotate_left;(intro w hSw;clear hSw;go_simp);(try with_reducible rfl);simp only [lsz,lss])
      (refine htk 3 113 ?_ rfl ?_ ?_;rotate_left;(intro w hSw;clear hSw;go_simp);(try with_reducible rfl);simp only [lsz,lss])
      (refine held_skip 4 114 rfl (by kernel_rfl) (by kernel_rfl) (by kernel_rfl) (by kernel_rfl) (fun _ _ _ h => h) (by kernel_rfl) (by assumption) ?_;simp only [lsz,lss])
      (refine held_skip 5 115 rfl (by kernel_rfl) (by kernel_rfl) (by kernel_rfl) (by kernel_rfl) (fun _ _ _ h => h) (by kernel_rfl) (by assumption) ?_;simp only [lsz,lss])
      (refine held_skip 6 116 rfl (by kernel_rfl) (by kernel_rfl) (by kernel_rfl) (by kernel_rfl) (fun _ _ _ h => h) (by kernel_rfl) (by assumption) ?_;simp only [lsz,lss])
      (refine held_skip 7 117 rfl (by kernel_rfl) (by kernel_rfl) (by kernel_rfl) (by kernel_rfl) (fun _ _ _ h => h) (by kernel_rfl) (by assumption) ?_;simp only [lsz,lss])
      (refine held_skip 8 118 rfl (by kernel_rfl) (by kernel_rfl) (by kernel_rfl) (by kernel_rfl) (fun _ _ _ h => h) (by kernel_rfl) (by assumption) ?_;simp only [lsz,lss])
      (refine held_skip 9 119 rfl (by kernel_rfl) (by kernel_rfl) (by kernel_rfl) (by kernel_rfl) (fun _ _ _ h => h) (by kernel_rfl) (by assumption) ?_;simp only [lsz,lss])
      (refine held_skip 10 120 rfl (by kernel_rfl) (by kernel_rfl) (by kernel_rfl) (by kernel_rfl) (fun _ _ _ h => h) (by kernel_rfl) (by assumption) ?_;simp only [lsz,lss])
      (refine held_skip 11 121 rfl (by kernel_rfl) (by kernel_rfl) (by kernel_rfl) (by kernel_rfl) (fun _ _ _ h => h) (by kernel_rfl) (by assumption) ?_;simp only [lsz,lss])
      (refine held_skip 12 122 rfl (by kernel_rfl) (by kernel_rfl) (by kernel_rfl) (by kernel_rfl) (fun _ _ _ h => h) (by kernel_rfl) (by assumption) ?_;simp only [lsz,lss])
      (refine held_skip 13 123 rfl (by kernel_rfl) (by kernel_rfl) (by kernel_rfl) (by kernel_rfl) (fun _ _ _ h => h) (by kernel_rfl) (by assumption) ?_;simp only [lsz,lss])
      (refine held_skip 14 124 rfl (by kernel_rfl) (by kernel_rfl) (by kernel_rfl) (by kernel_rfl) (fun _ _ _ h => h) (by kernel_rfl) (by assumption) ?_;simp only [lsz,lss])
      (refine held_skip 15 125 rfl (by kernel_rfl) (by kernel_rfl) (by kernel_rfl) (by kernel_rfl) (fun _ _ _ h => h) (by kernel_rfl) (by assumption) ?_;simp only [lsz,lss])
      (refine held_skip 16 126 rfl (by kernel_rfl) (by kernel_rfl) (by kernel_rfl) (by kernel_rfl) (fun _ _ _ h => h) (by kernel_rfl) (by assumption) ?_;simp only [lsz,lss])
      (refine held_skip 17 127 rfl (by kernel_rfl) (by kernel_rfl) (by kernel_rfl) (by kernel_rfl) (fun _ _ _ h => h) (by kernel_rfl) (by assumption) ?_;simp only [lsz,lss])
      (refine held_skip 18 128 rfl (by kernel_rfl) (by kernel_rfl) (by kernel_rfl) (by kernel_rfl) (fun _ _ _ h => h) (by kernel_rfl) (by assumption) ?_;simp only [lsz,lss])
      (refine htk 19 129 ?_ rfl ?_ ?_;rotate_left;(intro w hSw;clear hSw;go_simp);(try with_reducible rfl);simp only [lsz,lss])
      refine held_store 20 rfl (by kernel_rfl) (by kernel_rfl) (by kernel_rfl) 65 (.tmp 6) (.tmp 110) (by kernel_rfl) w.heap.size [.int .i64 2,.string (s.extract a (a + n)),.int .i64 x,.int .i64 a] _ _ (by kernel_rfl) (by kernel_rfl) (Blk.drew Hb01.out) infoSz4 rfl (tok_all _ _ _ _) (Blk.far_row hS (by omega) _) (fun hS => ?_)
      (refine htk 21 7 ?_ rfl ?_ ?_;rotate_left;(intro w hSw;clear hSw;go_simp);(try with_reducible rfl);simp only [lsz,lss])
      (refine htk 22 8 ?_ rfl ?_ ?_;rotate_left;(intro w hSw;clear hSw;go_simp);(try with_reducible rfl);simp only [lsz,lss])
      refine wpAnyH_done (by kernel_rfl) ?_ _;go_wp2;refine nextEnd 2 (s.extract a (a + n)) x a n false rfl (Blk.row (Blk.drew Hb01.out) _) rfl rfl rfl ?_ (below_setRow Hbw1.out.drew (by omega) _);rw [Ht.out]
      rfl
end Go.Proofs.YtpmbamfpmmdhcaaGreat
