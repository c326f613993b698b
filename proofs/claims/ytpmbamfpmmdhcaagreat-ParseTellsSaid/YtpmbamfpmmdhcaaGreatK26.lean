/- lex: tokens in memory; word, half, sign, begins. -/
import Derived.Test.YtpmbamfpmmdhcaaGreatK12
import Derived.Test.YtpmbamfpmmdhcaaGreatK53
import Derived.Deep.QuietTactic
import Derived.BigQuiet
set_option maxRecDepth 100000
set_option maxHeartbeats 16000000
namespace Go.Proofs.YtpmbamfpmmdhcaaGreat
open Go.RowKit
set_option linter.unusedSimpArgs false
set_option linter.unusedVariables false
theorem lWordN (s : ByteArray) (a : Nat) (w : World) (hs : s.size ≤ maxLen) (ha : a < s.size) :
    Calls Tryz.prog 101 #[.string s,.int .i64 a] w fun e w' => e = .returned (.int .i64 (if letC s[a] then runN wordC (sl s a) else 0)) ∧ w = w' := by
  have hl := fun wx => lLetter s[a] wx
  have Hu := Lib.hid (fun wx => untilWord s a wx hs (by omega))
  unfold maxLen at hs
  generalize letC s[a] = b at hl ⊢
  have Hl := Lib.hid hl;clear hl
  cases b
  all_goals
    go_enter Tryz.func101,Tryz.ntmps101;(try simp only [List.append_eq,List.cons_append,List.nil_append])
    go_wp2_with (first
      | (go_at_call 100;refine (Hl.out _).mono ?_;rintro e w' ⟨rfl,rfl⟩)
      | (go_at_call 85;refine (Hu.out _).mono ?_;rintro e w' ⟨rfl,rfl⟩))
    go_ret;exact ⟨rfl,rfl⟩
theorem lHalf (c : UInt8) (w : World) : Calls Tryz.prog 113 #[.int .u8 c.toNat] w fun e w' => ∃ x : Int,e = .returned (.tuple #[.int .u8 x,.bool (hexC c)]) ∧ (hexC c = true → x = hexV c) ∧ w = w' := by
  have hl := fun wx => lDigit c wx
  have hc : (c.toNat : Int) < 256 := by have := c.toNat_lt;omega
  have hc0 : (0 : Int) ≤ (c.toNat : Int) := by omega
  by_cases hd : dgC c = true
  · have hx : hexC c = true := by unfold hexC;rw [hd];rfl
    have hv : hexV c = c.toNat - 48 := by unfold hexV;rw [hd];rfl
    rw [hx];rw [hd] at hl;have Hl := Lib.hid hl;clear hl;have h1 : 48 ≤ (c.toNat : Int) ∧ (c.toNat : Int) ≤ 57 := by rw [dgC_iff] at hd;simpa using hd
    obtain ⟨h1,h2⟩ := h1;have Hv := Lib.hid hv;clear hv hx hd
    go_enter Tryz.func113,Tryz.ntmps113;(try simp only [List.append_eq,List.cons_append,List.nil_append])
    go_wp2_with (go_at_call 103;refine (Hl.out _).mono ?_;rintro e w' ⟨rfl,rfl⟩)
    go_ret2
    exact ⟨_,rfl,fun _ => by rw [Hv.out];omega,rfl⟩
  · have hd' : dgC c = false := by simpa using hd
    clear hd;rw [hd'] at hl;have Hl := Lib.hid hl;clear hl
    by_cases hx : 97 ≤ (c.toNat : Int) ∧ (c.toNat : Int) ≤ 102
    · have hh : hexC c = true := by
        unfold hexC;rw [hd'];simp [UInt8.le_iff_toNat_le];omega
      have Hv : Hid (hexV c = c.toNat - 87) := by show _ = _;unfold hexV;rw [hd'];rfl
      rw [hh];obtain ⟨h1,h2⟩ := hx;clear hh hd'
      go_enter Tryz.func113,Tryz.ntmps113;(try simp only [List.append_eq,List.cons_append,List.nil_append])
      go_wp2_with (go_at_call 103;refine (Hl.out _).mono ?_;rintro e w' ⟨rfl,rfl⟩)
      go_ret2
      exact ⟨_,rfl,fun _ => by rw [Hv.out];omega,rfl⟩
    · have hh : hexC c = false := by
        unfold hexC;rw [hd'];simp [UInt8.le_iff_toNat_le];omega
      rw [hh];clear hh hd'
      go_enter Tryz.func113,Tryz.ntmps113;(try simp only [List.append_eq,List.cons_append,List.nil_append])
      go_wp2_with (go_at_call 103;refine (Hl.out _).mono ?_;rintro e w' ⟨rfl,rfl⟩)
      all_goals go_ret2
      all_goals first
        | exact ⟨_,rfl,fun h => Bool.noConfusion h,rfl⟩
        | exact ⟨⟨_,rfl⟩,rfl⟩
        | (exfalso;omega)
def signN (l : List UInt8) : Nat := match signAt l with
  | some (_,n) => n
  | none => 0
theorem signN_two {l : List UInt8} {c : UInt8} (hc : pairC c = true) (h : Lib.hasPrefix l [c,61] = true) : signN l = 2 := by
  unfold Lib.hasPrefix at h
  match l,h with
  | [],h => simp at h
  | [x],h => simp at h
  | x :: y :: r,h =>
    simp at h
    obtain ⟨rfl,rfl⟩ := h
    simp [signN,signAt,hc,headIs]
theorem pref_no {l : List UInt8} {c : UInt8} (h : Lib.hasPrefix l [c,61] = false) : ∀ r,l ≠ c :: 61 :: r := by
  rintro r rfl
  simp [Lib.hasPrefix] at h
theorem signN_one {c : UInt8} {r : List UInt8} (h1 : Lib.hasPrefix (c :: r) [61,61] = false) (h2 : Lib.hasPrefix (c :: r) [33,61] = false) (h3 : Lib.hasPrefix (c :: r) [60,61] = false) (h4 : Lib.hasPrefix (c :: r) [62,61] = false) :
    signN (c :: r) = if signC c then 1 else 0 := by
  have hp : (pairC c && headIs (· == 61) r) = false := by
    cases hh : headIs (· == 61) r with
    | false => simp
    | true =>
      match r,hh with
      | d :: r',hh =>
        simp [headIs] at hh
        subst hh;have a1 := pref_no h1 r';have a2 := pref_no h2 r';have a3 := pref_no h3 r';have a4 := pref_no h4 r'
        simp at a1 a2 a3 a4
        simp [pairC,a1,a2,a3,a4]
  simp only [signN,signAt,hp,Bool.false_eq_true,if_false]
  by_cases hc : signC c = true
  · simp [hc]
  · simp [hc]
theorem indexByte_pos : ∀ (l : List UInt8) (c : UInt8),decide (0 ≤ Lib.indexByte l c) = l.contains c
  | [],c => rfl
  | b :: l,c => by
    have ih := indexByte_pos l c;have hge := Lib.indexByte_ge l c;unfold Lib.indexByte;rw [List.contains_cons,← ih]
    by_cases h : (b == c) = true
    · have : (c == b) = true := by simp only [beq_iff_eq] at h ⊢;exact h.symm
      simp [h,this]
    · have : (c == b) = false := by
        rw [Bool.eq_false_iff];intro e;apply h;simp only [beq_iff_eq] at e ⊢;exact e.symm
      simp only [h,this,Bool.false_eq_true,if_false,Bool.false_or]
      split
      · rename_i h1
        simp only [beq_iff_eq] at h1;rw [h1]
      · rename_i h1
        simp only [beq_iff_eq] at h1;rw [decide_eq_decide];omega
theorem signC_index (c : UInt8) : signC c = decide (0 ≤ Lib.indexByte [60,62,43,45,42,61,40,41,123,125,91,93,44,58] c) := by
  rw [indexByte_pos]
  simp only [signC,List.contains_cons,List.contains_nil,Bool.or_false,Bool.or_assoc]
theorem lSign (s : ByteArray) (a : Nat) (w : World) (hs : s.size ≤ maxLen) (ha : a < s.size) :
    Calls Tryz.prog 106 #[.string s,.int .i64 a] w fun e w' => e = .returned (.int .i64 (signN (sl s a))) ∧ Below w.heap.size w w' := by
  unfold maxLen at hs
  have hx : (s.extract a s.size).data.toList = sl s a := by
    have e : s.size = a + (s.size - a) := by omega
    rw [e,extract_sl];simp only [List.toList_toArray];exact List.take_of_length_le (by rw [sl_length];exact Nat.le_refl _)
  go_enter Tryz.func106,Tryz.ntmps106;(try simp only [List.append_eq,List.cons_append,List.nil_append])
  go_wp2
  go_loop [9] (fun i => ∃ k : Nat,k ≤ 4 ∧ i = .int .i64 k ∧ (0 < k → Lib.hasPrefix (sl s a) [61,61] = false) ∧ (1 < k → Lib.hasPrefix (sl s a) [33,61] = false) ∧ (2 < k → Lib.hasPrefix (sl s a) [60,61] = false) ∧ (3 < k → Lib.hasPrefix (sl s a) [62,61] = false)) (fun i => 4 - (intOf i).toNat)
  case atStart => exact ⟨0,by omega,rfl,by simp,by simp,by simp,by simp⟩
  case round =>
    obtain ⟨k,hk,rfl,h1,h2,h3,h4⟩ := hrel;have H1 := Lib.hid h1;clear h1;have H2 := Lib.hid h2;clear h2;have H3 := Lib.hid h3;clear h3;have H4 := Lib.hid h4;clear h4;have Hx := Lib.hid hx;clear hx
    by_cases hlt : k < 4
    · have hk' : k = 0 ∨ k = 1 ∨ k = 2 ∨ k = 3 := by omega
      have hpre : ∀ (p : ByteArray) (wx : World),Calls Tryz.prog 117 #[.string (s.extract a s.size),.string p] wx fun e w' => e = .returned (.bool (Lib.hasPrefix (sl s a) p.data.toList)) ∧ w' = wx := fun p wx => by
        have := Tryz.strings_HasPrefix (s.extract a s.size) p wx;rw [Hx.out] at this;exact this
      have Hp := Lib.hid hpre;clear hpre;clear hk hlt;rcases hk' with rfl | rfl | rfl | rfl
      · go_wp2_with (go_at_call 117;refine (Hp.out _ _).mono ?_;rintro e w' ⟨rfl,rfl⟩)
        · go_ret
          exact ⟨ret_int (by rw [signN_two (c := 61) rfl (by assumption)];rfl),(Below.refl _ _).alloc (Nat.le_refl _) _⟩
        · have hno : Lib.hasPrefix (sl s a) [61,61] = false := by assumption
          go_round
          case rel => exact ⟨1,by omega,rfl,fun _ => hno,fun h => absurd h (by omega),fun h => absurd h (by omega),fun h => absurd h (by omega)⟩
          case measure => simp [intOf]
      · go_wp2_with (go_at_call 117;refine (Hp.out _ _).mono ?_;rintro e w' ⟨rfl,rfl⟩)
        · go_ret
          exact ⟨ret_int (by rw [signN_two (c := 33) rfl (by assumption)];rfl),(Below.refl _ _).alloc (Nat.le_refl _) _⟩
        · have hno : Lib.hasPrefix (sl s a) [33,61] = false := by assumption
          go_round
          case rel => exact ⟨2,by omega,rfl,fun _ => H1.out (by omega),fun _ => hno,fun h => absurd h (by omega),fun h => absurd h (by omega)⟩
          case measure => simp [intOf]
      · go_wp2_with (go_at_call 117;refine (Hp.out _ _).mono ?_;rintro e w' ⟨rfl,rfl⟩)
        · go_ret
          exact ⟨ret_int (by rw [signN_two (c := 60) rfl (by assumption)];rfl),(Below.refl _ _).alloc (Nat.le_refl _) _⟩
        · have hno : Lib.hasPrefix (sl s a) [60,61] = false := by assumption
          go_round
          case rel => exact ⟨3,by omega,rfl,fun _ => H1.out (by omega),fun _ => H2.out (by omega),fun _ => hno,fun h => absurd h (by omega)⟩
          case measure => simp [intOf]
      · go_wp2_with (go_at_call 117;refine (Hp.out _ _).mono ?_;rintro e w' ⟨rfl,rfl⟩)
        · go_ret
          exact ⟨ret_int (by rw [signN_two (c := 62) rfl (by assumption)];rfl),(Below.refl _ _).alloc (Nat.le_refl _) _⟩
        · have hno : Lib.hasPrefix (sl s a) [62,61] = false := by assumption
          go_round
          case rel => exact ⟨4,by omega,rfl,fun _ => H1.out (by omega),fun _ => H2.out (by omega),fun _ => H3.out (by omega),fun _ => hno⟩
          case measure => simp [intOf]
    · obtain rfl : k = 4 := by omega
      have hf := Lib.hid (Tryz.strings_IndexByte ⟨#[60,62,43,45,42,61,40,41,123,125,91,93,44,58]⟩ s[a].toNat)
      go_wp2_with (go_at_call 118;refine (hf.out _).mono ?_;rintro e w' ⟨rfl,rfl⟩)
      all_goals go_ret
      all_goals
        refine ⟨ret_int ?_,(Below.refl _ _).alloc (Nat.le_refl _) _⟩;rw [sl_cons ha] at H1 H2 H3 H4 ⊢;rw [signN_one (H1.out (by omega)) (H2.out (by omega)) (H3.out (by omega)) (H4.out (by omega))]
      · rw [if_pos (by rw [signC_index];exact decide_eq_true (by assumption))];rfl
      · rw [if_neg (by rw [signC_index];simp;assumption)];rfl
theorem lBegins (l : List Tok) (v : Value) (n : Nat) (w : World) (hn : n ≤ w.heap.size) (h : IsToks n w v l) :
    Calls Tryz.prog 104 #[v] w fun e w' => e = .returned (.bool (freeOf l)) ∧ MayNew w w' := by
  obtain ⟨p,cap,rfl,_,_,hl⟩ := h.open
  unfold maxLen at hl
  by_cases h0 : l = []
  · subst h0
    go_enter Tryz.func104,Tryz.ntmps104;(try simp only [List.append_eq,List.cons_append,List.nil_append])
    go_wp2;go_ret;exact ⟨rfl,.inl rfl⟩
  · have hlt : 0 < l.length := List.length_pos_iff.2 h0
    have Hf : Hid (freeOf l = (l[l.length - 1]'(by omega)).free) := by
      show _ = _
      unfold freeOf;rw [List.getLast?_eq_getElem?,List.getElem?_eq_getElem (by omega)]
    obtain ⟨b,off,rfl,hbn,h1,h2,h3,h4⟩ := h.get (k := l.length - 1) (by omega);generalize l[l.length - 1]'(by omega) = t at *;have Hh := Lib.hid h;clear h;clear h0;rw [Hf.out]
    go_enter Tryz.func104,Tryz.ntmps104;(try simp only [List.append_eq,List.cons_append,List.nil_append])
    go_wp2
    all_goals go_ret
    all_goals refine ⟨ret_bool ?_,.inr ⟨_,rfl⟩⟩
    all_goals
      rw [Bool.eq_iff_iff];simp only [Tok.free,Bool.and_eq_true,Bool.not_eq_true',beq_iff_eq,bne_iff_ne,ne_eq,beq_eq_false_iff_ne]
      simp [*]
end Go.Proofs.YtpmbamfpmmdhcaaGreat
