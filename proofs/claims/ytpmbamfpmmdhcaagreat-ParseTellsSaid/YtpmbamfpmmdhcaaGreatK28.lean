/- lex.next: the token at a place. -/
import Derived.Test.YtpmbamfpmmdhcaaGreatK27
import Derived.ChangeAlike
import Derived.Test.YtpmbamfpmmdhcaaGreatK1
set_option maxRecDepth 100000
set_option maxHeartbeats 16000000
namespace Go.Proofs.YtpmbamfpmmdhcaaGreat
open Go.RowKit
set_option linter.unusedSimpArgs false
set_option linter.unusedVariables false
def NextR (s : ByteArray) (a : Nat) (free : Bool) (w : World) (e : Ending) (w' : World) : Prop :=
  ∃ (k : Int) (x : ByteArray) (v p n : Int) (ok : Bool),e = .returned (.tuple #[.agg #[.int .i64 k,.string x,.int .i64 v,.int .i64 p],.int .i64 n,.bool ok]) ∧ TokIs (tokAt free (sl s a)) a k x v p n ok ∧ Below w.heap.size w w'
theorem nextEnd {s : ByteArray} {a : Nat} {free : Bool} {w W : World} {A : Act} (k : Int) (x : ByteArray) (v p n : Int) (ok : Bool) (hp : A.tmps.getD 6 undef = .pointer (some ⟨w.heap.size,0,none⟩))
    (hg : W.heap[w.heap.size]? = some (.cells #[.int .i64 k,.string x,.int .i64 v,.int .i64 p] 65 (0,0))) (h7 : A.tmps.getD 7 undef = .int .i64 n) (h8 : A.tmps.getD 8 undef = .bool ok) (hdf : A.defers = [])
    (ht : TokIs (tokAt free (sl s a)) a k x v p n ok) (hb : Below w.heap.size w W) : bodyPost Tryz.prog Tryz.f87 (NextR s a free w) .ret A W :=
  bodyPost_agg_tmp2 (u := 7) (v := 8) rfl hp hg Tryz.underlying65 rfl (by kernel_rfl) hdf ⟨k,x,v,p,n,ok,by rw [h7,h8],ht,hb⟩
theorem lNext_word (s : ByteArray) (a : Nat) (free : Bool) (v : Value) (w : World) (hs : s.size ≤ 16384) (ha : a < s.size) (hc : letC s[a] = true) :
    Calls Tryz.prog 87 #[.string s,.int .i64 a,v] w (NextR s a free w) := by
  have Hw := Lib.hid (fun wx => lWordN s a wx (by unfold maxLen;omega) ha)
  have hl := Lib.hid (fun wx => lLetter s[a] wx)
  have Ht := Lib.hid (tokAt_word free ha hc)
  rw [hc] at hl Hw
  simp only [if_true] at Hw
  have Hx := Lib.hid (extract_sl s a (runN wordC (sl s a)))
  obtain ⟨n,hn⟩ : ∃ n,runN wordC (sl s a) = n := ⟨_,rfl⟩
  rw [hn] at Hw Ht Hx
  have hle : a + n ≤ s.size := by have := runN_le wordC (sl s a);rw [sl_length,hn] at this;omega
  have hle1 : (a : Int) + (n : Int) ≤ (s.size : Int) := by omega
  clear hn
  go_enter Tryz.func87,Tryz.ntmps87;(try simp only [List.append_eq,List.cons_append,List.nil_append])
  go_wp2_with (first
    | (go_at_call 100;refine (hl.out _).mono ?_;rintro e w' ⟨rfl,rfl⟩)
    | (go_at_call 101;refine (Hw.out _).mono ?_;rintro e w' ⟨rfl,rfl⟩))
  go_region
  all_goals go_wp2
  refine nextEnd 1 (s.extract a (a + n)) 0 a n (decide ((n : Int) ≤ 24)) rfl (two_at w [.int .i64 1,.string (s.extract a (a + n)),.int .i64 0,.int .i64 a] _ _ _).drew rfl rfl rfl ?_ (two_below w _ _).drew
  rw [Ht.out,Hx.out]
  by_cases h : n ≤ 24
  · rw [if_pos h];exact ⟨decide_eq_true (by omega),rfl,rfl,rfl,rfl,rfl⟩
  · rw [if_neg h];exact decide_eq_false (by omega)
theorem lNext_text (s : ByteArray) (a : Nat) (free : Bool) (v : Value) (w : World) (hs : s.size ≤ 16384) (ha : a < s.size) (hc : s[a] = 34) :
    Calls Tryz.prog 87 #[.string s,.int .i64 a,v] w (NextR s a free w) := by
  have Ht := Lib.hid (fun wx => lText s a wx hs ha)
  have hl := Lib.hid (fun wx => lLetter s[a] wx)
  rw [show letC s[a] = false by rw [hc];rfl] at hl
  have hq : ((s[a].toNat : Int) == 34) = true := by rw [hc];rfl
  have htk : tokAt free (sl s a) = (textR (sl s (a + 1))).map fun x => (⟨3,x.1,0,0⟩,x.2) := by
    rw [sl_cons ha,hc];simp only [tokAt,show letC 34 = false from rfl,Bool.false_eq_true,if_false,beq_self_eq_true,if_true];unfold textR;cases textAt (sl s (a + 1)) with
    | none => rfl
    | some x => obtain ⟨x,n⟩ := x;simp only;split <;> rfl
  have Htk := Lib.hid htk;clear htk hc
  cases ho : textR (sl s (a + 1)) with
  | none =>
    rw [ho] at Ht Htk;simp only [textV] at Ht;clear ho
    go_enter Tryz.func87,Tryz.ntmps87;(try simp only [List.append_eq,List.cons_append,List.nil_append])
    go_wp2_with (first
      | (go_at_call 100;refine (hl.out _).mono ?_;rintro e w' ⟨rfl,rfl⟩)
      | (go_at_call 102;refine (Ht.out _).mono ?_;rintro e w1 ⟨rfl,hb⟩;obtain ⟨hc,hf⟩ := bcell hb;have hz := hb.size;simp at hz;have Hb := Lib.hid hb;clear hb))
    have hB := (two_at w [.int .i64 0,.string ⟨#[]⟩,.int .i64 0,.int .i64 0] [.int .i64 0,.string ⟨#[]⟩,.int .i64 0,.int .i64 a] 65 65).keep Hb.out;have hlt : w.heap.size ≠ w.heap.size + 1 := Nat.ne_of_lt (Nat.lt_succ_self _);exact nextEnd 3 ⟨#[]⟩ 0 a 0 false rfl ((((((hB.far hlt _).far hlt _).set_ 0 _).set_ 1 _).set_ 2 _).set_ 3 _) rfl rfl rfl (by rw [Htk.out];exact rfl)
      (((((((two_below w _ _).trans (Hb.out.mono (by simp;omega))).setCell (by simp) _).setCell (by simp) _).setCell (by simp) _).setCell (by simp) _).setCell (by simp) _ |>.setCell (by simp) _)
  | some x =>
    obtain ⟨x,n⟩ := x;rw [ho] at Ht Htk;simp only [textV] at Ht;clear ho
    go_enter Tryz.func87,Tryz.ntmps87;(try simp only [List.append_eq,List.cons_append,List.nil_append])
    go_wp2_with (first
      | (go_at_call 100;refine (hl.out _).mono ?_;rintro e w' ⟨rfl,rfl⟩)
      | (go_at_call 102;refine (Ht.out _).mono ?_;rintro e w1 ⟨rfl,hb⟩;obtain ⟨hc,hf⟩ := bcell hb;have hz := hb.size;simp at hz;have Hb := Lib.hid hb;clear hb))
    have hB := (two_at w [.int .i64 0,.string ⟨#[]⟩,.int .i64 0,.int .i64 0] [.int .i64 0,.string ⟨#[]⟩,.int .i64 0,.int .i64 a] 65 65).keep Hb.out;have hlt : w.heap.size ≠ w.heap.size + 1 := Nat.ne_of_lt (Nat.lt_succ_self _);exact nextEnd 3 ⟨x.toArray⟩ 0 a n true rfl ((((((hB.far hlt _).far hlt _).set_ 0 _).set_ 1 _).set_ 2 _).set_ 3 _) rfl rfl rfl (by rw [Htk.out];exact ⟨rfl,rfl,rfl,rfl,rfl,rfl⟩)
      (((((((two_below w _ _).trans (Hb.out.mono (by simp;omega))).setCell (by simp) _).setCell (by simp) _).setCell (by simp) _).setCell (by simp) _).setCell (by simp) _ |>.setCell (by simp) _)
end Go.Proofs.YtpmbamfpmmdhcaaGreat
