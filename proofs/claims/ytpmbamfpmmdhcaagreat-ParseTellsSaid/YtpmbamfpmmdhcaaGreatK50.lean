/- lex.next at a sign. -/
import Derived.Test.YtpmbamfpmmdhcaaGreatK29
set_option maxRecDepth 100000
set_option maxHeartbeats 16000000
namespace Go.Proofs.YtpmbamfpmmdhcaaGreat
open Go.RowKit
set_option linter.unusedSimpArgs false
set_option linter.unusedVariables false
theorem MayNew.below {w w' : World} (h : MayNew w w') : Below w.heap.size w w' := by
  rcases h with rfl | ⟨o,rfl⟩
  · exact Below.refl _ _
  · exact (Below.refl _ _).alloc (Nat.le_refl _) _
theorem lNext_minusSign (s : ByteArray) (a : Nat) (free : Bool) (v : Value) (w : World) (hs : s.size ≤ 16384) (ha : a < s.size) (htk : tokAt free (sl s a) = some (⟨4,[45],0,0⟩,1)) (hlt : letC s[a] = false)
    (h45 : ((s[a].toNat : Int) == 45) = true) (h34 : ((s[a].toNat : Int) == 34) = false)
    (hb : ∀ wx,Below w.heap.size w wx → Calls Tryz.prog 104 #[v] wx fun e w' => e = .returned (.bool free) ∧ MayNew wx w')
    (hno : ¬ (a + 1 < s.size) ∨ (∃ h : a + 1 < s.size,dgC s[a + 1] = false ∨ (dgC s[a + 1] = true ∧ free = false))) : Calls Tryz.prog 87 #[.string s,.int .i64 a,v] w (NextR s a free w) := by
  have Ht := Lib.hid htk
  have Hl := Lib.hid (fun wx => lLetter s[a] wx)
  have tk1 : True := trivial
  have Hb := Lib.hid hb;clear hb
  rw [hlt] at Hl
  clear htk hlt
  rcases hno with h1 | ⟨h1,h2 | ⟨h2,h3⟩⟩
  · have ha2 : ¬ ((a : Int) + 1 < (s.size : Int)) := by omega
    have ha3 : (s.size : Int) ≤ (a : Int) + 1 := by omega
    clear h1
    go_enter Tryz.func87,Tryz.ntmps87;(try simp only [List.append_eq,List.cons_append,List.nil_append])
    go_wp2_with (go_at_call 100;have _t := tk1;clear tk1;refine (Hl.out _).mono ?_;rintro e w' ⟨rfl,rfl⟩)
    refine nextEnd 4 ⟨#[45]⟩ 0 a 1 true rfl (two_at w [.int .i64 4,.string ⟨#[45]⟩,.int .i64 0,.int .i64 a] _ _ _) rfl rfl rfl ?_ (two_below w _ _);rw [Ht.out];exact ⟨rfl,rfl,rfl,rfl,rfl,rfl⟩
  · have ha2 : ((a : Int) + 1 < (s.size : Int)) := by omega
    have ha3 : ¬ (s.size : Int) ≤ (a : Int) + 1 := by omega
    have Hd := Lib.hid (fun wx => lDigit s[a + 1] wx);rw [h2] at Hd;clear h2
    go_enter Tryz.func87,Tryz.ntmps87;(try simp only [List.append_eq,List.cons_append,List.nil_append])
    go_wp2_with (first
      | (go_at_call 100;have _t := tk1;clear tk1;refine (Hl.out _).mono ?_;rintro e w' ⟨rfl,rfl⟩)
      | (go_at_call 103;refine (Hd.out _).mono ?_;rintro e w' ⟨rfl,rfl⟩))
    refine nextEnd 4 ⟨#[45]⟩ 0 a 1 true rfl (two_at w [.int .i64 4,.string ⟨#[45]⟩,.int .i64 0,.int .i64 a] _ _ _) rfl rfl rfl ?_ (two_below w _ _);rw [Ht.out];exact ⟨rfl,rfl,rfl,rfl,rfl,rfl⟩
  · have ha2 : ((a : Int) + 1 < (s.size : Int)) := by omega
    have ha3 : ¬ (s.size : Int) ≤ (a : Int) + 1 := by omega
    have Hd := Lib.hid (fun wx => lDigit s[a + 1] wx);rw [h2] at Hd;rw [h3] at Hb;clear h2 h3
    go_enter Tryz.func87,Tryz.ntmps87;(try simp only [List.append_eq,List.cons_append,List.nil_append])
    go_wp2_with (first
      | (go_at_call 100;have _t := tk1;clear tk1;refine (Hl.out _).mono ?_;rintro e w' ⟨rfl,rfl⟩)
      | (go_at_call 103;refine (Hd.out _).mono ?_;rintro e w' ⟨rfl,rfl⟩)
      | (go_at_call 104;refine (Hb.out _ (two_below w _ _)).mono ?_;rintro e w1 ⟨rfl,hmn⟩;have hb := (MayNew.below hmn);obtain ⟨hc,hf⟩ := bcell hb;have hz := hb.size;simp at hz;have HB := Lib.hid hb;clear hb hmn))
    all_goals first | (exfalso;omega) | skip
    have hB := (two_at w [.int .i64 0,.string ⟨#[]⟩,.int .i64 0,.int .i64 0] [.int .i64 0,.string ⟨#[]⟩,.int .i64 0,.int .i64 a] 65 65).keep HB.out;have hlt : w.heap.size ≠ w.heap.size + 1 := Nat.ne_of_lt (Nat.lt_succ_self _);exact nextEnd 4 ⟨#[45]⟩ 0 a 1 true rfl ((((((hB.far hlt _).far hlt _).set_ 0 _).set_ 1 _).set_ 2 _).set_ 3 _) rfl rfl rfl (by rw [Ht.out];exact ⟨rfl,rfl,rfl,rfl,rfl,rfl⟩)
      (((((((two_below w _ _).trans (HB.out.mono (by simp;omega))).setCell (by simp) _).setCell (by simp) _).setCell (by simp) _).setCell (by simp) _).setCell (by simp) _ |>.setCell (by simp) _)
theorem signAt_pos {l : List UInt8} (h : 0 < signN l) : signAt l = some (⟨4,l.take (signN l),0,0⟩,signN l) ∧ signN l ≤ l.length := by
  match l,h with
  | [],h => exact absurd h (by decide)
  | c :: r,h =>
    unfold signN at h ⊢;unfold signAt at h ⊢
    by_cases h1 : (pairC c && headIs (· == 61) r) = true
    · simp only [h1,if_true] at h ⊢
      match r,h1 with
      | [],h1 => simp [headIs] at h1
      | d :: r',h1 =>
        simp [headIs] at h1
        simp [h1]
    · simp only [h1,if_false] at h ⊢
      by_cases h2 : signC c = true
      · simp [h2]
      · simp [h2] at h
theorem signAt_none {l : List UInt8} (h : signN l = 0) : signAt l = none := by
  match l,h with
  | [],h => rfl
  | c :: r,h =>
    unfold signN at h;unfold signAt at h ⊢
    by_cases h1 : (pairC c && headIs (· == 61) r) = true
    · simp [h1] at h
    · simp only [h1,if_false] at h ⊢
      by_cases h2 : signC c = true
      · simp [h2] at h
      · simp [h2]
theorem lNext_sign (s : ByteArray) (a : Nat) (free : Bool) (v : Value) (w : World) (hs : s.size ≤ 16384) (ha : a < s.size) (htk : tokAt free (sl s a) = signAt (sl s a)) (hlt : letC s[a] = false) (hd : dgC s[a] = false)
    (h45 : ((s[a].toNat : Int) == 45) = false) (h34 : ((s[a].toNat : Int) == 34) = false) : Calls Tryz.prog 87 #[.string s,.int .i64 a,v] w (NextR s a free w) := by
  have Hl := Lib.hid (fun wx => lLetter s[a] wx)
  have Hd := Lib.hid (fun wx => lDigit s[a] wx)
  have Hs := Lib.hid (fun wx => lSign s a wx (by unfold maxLen;omega) ha)
  have tk1 : True := trivial
  rw [hlt] at Hl
  rw [hd] at Hd
  by_cases h0 : signN (sl s a) = 0
  · have Ht := Lib.hid (htk.trans (signAt_none h0))
    rw [h0] at Hs;clear htk hlt hd h0
    go_enter Tryz.func87,Tryz.ntmps87;(try simp only [List.append_eq,List.cons_append,List.nil_append])
    go_wp2_with (first
      | (go_at_call 100;have _t := tk1;clear tk1;refine (Hl.out _).mono ?_;rintro e w' ⟨rfl,rfl⟩)
      | (go_at_call 103;refine (Hd.out _).mono ?_;rintro e w' ⟨rfl,rfl⟩)
      | (go_at_call 106;refine (Hs.out _).mono ?_;rintro e w1 ⟨rfl,hb⟩;obtain ⟨hc,hf⟩ := bcell hb;have hz := hb.size;simp at hz;have HB := Lib.hid hb;clear hb))
    have hB := (two_at w [.int .i64 0,.string ⟨#[]⟩,.int .i64 0,.int .i64 0] [.int .i64 0,.string ⟨#[]⟩,.int .i64 0,.int .i64 a] 65 65).keep HB.out;have hlt : w.heap.size ≠ w.heap.size + 1 := Nat.ne_of_lt (Nat.lt_succ_self _);exact nextEnd 0 ⟨#[]⟩ 0 0 0 false rfl ((((hB.set_ 0 _).set_ 1 _).set_ 2 _).set_ 3 _) rfl rfl rfl (by rw [Ht.out];exact rfl)
      (((((two_below w _ _).trans (HB.out.mono (by simp;omega))).setCell (by simp) _).setCell (by simp) _).setCell (by simp) _ |>.setCell (by simp) _)
  · have hp : 0 < signN (sl s a) := by omega
    have hsn := signAt_pos hp;have hle := hsn.2;rw [sl_length] at hle;have Ht := Lib.hid (htk.trans hsn.1);have Hx := Lib.hid (extract_sl s a (signN (sl s a)));obtain ⟨n,hn⟩ : ∃ n,signN (sl s a) = n := ⟨_,rfl⟩;rw [hn] at Hs Ht Hx hle hp;have hle1 : (a : Int) + (n : Int) ≤ (s.size : Int) := by omega
    have hne : ((n : Int) == 0) = false := by simp;omega
    clear htk hlt hd h0 hsn hn hle
    go_enter Tryz.func87,Tryz.ntmps87;(try simp only [List.append_eq,List.cons_append,List.nil_append])
    go_wp2_with (first
      | (go_at_call 100;have _t := tk1;clear tk1;refine (Hl.out _).mono ?_;rintro e w' ⟨rfl,rfl⟩)
      | (go_at_call 103;refine (Hd.out _).mono ?_;rintro e w' ⟨rfl,rfl⟩)
      | (go_at_call 106;refine (Hs.out _).mono ?_;rintro e w1 ⟨rfl,hb⟩;obtain ⟨hc,hf⟩ := bcell hb;have hz := hb.size;simp at hz;have HB := Lib.hid hb;clear hb))
    go_region
    all_goals go_wp2
    have hB := (two_at w [.int .i64 0,.string ⟨#[]⟩,.int .i64 0,.int .i64 0] [.int .i64 0,.string ⟨#[]⟩,.int .i64 0,.int .i64 a] 65 65).keep HB.out;have hlt : w.heap.size ≠ w.heap.size + 1 := Nat.ne_of_lt (Nat.lt_succ_self _);exact nextEnd 4 (s.extract a (a + n)) 0 a n true rfl ((((((hB.far hlt _).far hlt _).set_ 0 _).set_ 1 _).set_ 2 _).set_ 3 _).drew rfl rfl rfl (by rw [Ht.out,Hx.out];exact ⟨rfl,rfl,rfl,rfl,rfl,rfl⟩)
      (((((((two_below w _ _).trans (HB.out.mono (by simp;omega))).setCell (by simp) _).setCell (by simp) _).setCell (by simp) _).setCell (by simp) _).setCell (by simp) _ |>.setCell (by simp) _).drew
end Go.Proofs.YtpmbamfpmmdhcaaGreat
