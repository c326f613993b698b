/- lex.next at a number or a sign. -/
import Derived.Test.YtpmbamfpmmdhcaaGreatK28
import Derived.Deep.DeepCutAuto
set_option maxRecDepth 100000
set_option maxHeartbeats 16000000
namespace Go.Proofs.YtpmbamfpmmdhcaaGreat
open Go.RowKit
set_option linter.unusedSimpArgs false
set_option linter.unusedVariables false
theorem wholeOk_pos {l : List UInt8} (h : headIs dgC l = true) : wholeOk l = wokD false l ∧ wholeV l = decV l := by
  match l,h with
  | c :: r,h =>
    simp only [headIs] at h;have hc : (c == 45) = false := by
      rw [Bool.eq_false_iff];intro e;simp only [beq_iff_eq] at e;subst e;exact absurd h (by decide)
    constructor
    · simp only [wholeOk,wokD,hc,Bool.false_eq_true,if_false,headIs,Bool.false_or]
      congr 1
      cases r <;> simp
    · simp [wholeV,hc]
theorem wholeOk_neg {r : List UInt8} (h : r ≠ []) : wholeOk (45 :: r) = wokD true r ∧ wholeV (45 :: r) = -(decV r : Int) := by
  constructor
  · have hr : (r != []) = true := by simpa using h
    simp only [wholeOk,wokD,hr,beq_self_eq_true,if_true,Bool.true_and,Bool.true_or,Bool.and_true]
  · simp [wholeV]
structure NumF (s : ByteArray) (a n : Nat) : Prop where
  le : a + n ≤ s.size
  pos : 0 < n
  untl : ∀ wx : World,Calls Tryz.prog 85 #[.string s,.int .i64 ((a : Int) + 1),.func (.func 103) #[] #[]] wx fun e w' => e = .returned (.int .i64 ((n : Int) - 1)) ∧ wx = w'
structure NumYes (s : ByteArray) (a n : Nat) (x : Int) : Prop extends NumF s a n where
  whole : ∀ wx : World,Calls Tryz.prog 105 #[.string (s.extract a (a + n))] wx fun e w' => e = .returned (.tuple #[.int .i64 x,.bool true]) ∧ wx = w'
  tok : numAt s a = if headIs letC (sl s (a + n)) then none else some (⟨2,(sl s a).take n,x,0⟩,n)
structure NumNo (s : ByteArray) (a n : Nat) : Prop extends NumF s a n where
  whole : ∀ wx : World,Calls Tryz.prog 105 #[.string (s.extract a (a + n))] wx fun e w' => ∃ x : Int,e = .returned (.tuple #[.int .i64 x,.bool false]) ∧ wx = w'
  tok : numAt s a = none
theorem numF {s : ByteArray} {a : Nat} (hs : s.size ≤ 16384) (ha : a < s.size) : NumF s a (runN dgC (sl s (a + 1)) + 1) := by
  have h1 := runN_le dgC (sl s (a + 1))
  rw [sl_length] at h1
  refine ⟨by omega,by omega,fun wx => ?_⟩
  have := untilDigit s (a + 1) wx (by unfold maxLen;omega) (by omega)
  rw [show ((a + 1 : Nat) : Int) = (a : Int) + 1 by omega] at this
  refine this.mono fun e w' ⟨he,hw⟩ => ⟨?_,hw⟩
  rw [he,show (((runN dgC (sl s (a + 1)) + 1 : Nat) : Int) - 1) = (runN dgC (sl s (a + 1)) : Int) by omega]
theorem num_any {s : ByteArray} {a : Nat} (neg : Bool) (dl : List UInt8) (hs : s.size ≤ 16384) (ha : a < s.size) (hl : (sl s a).take (runN dgC (sl s (a + 1)) + 1) = if neg then 45 :: dl else dl)
    (h0 : dl ≠ []) (hdig : dl.all dgC = true) (hw : wholeOk ((sl s a).take (runN dgC (sl s (a + 1)) + 1)) = wokD neg dl ∧ wholeV ((sl s a).take (runN dgC (sl s (a + 1)) + 1)) = if neg then -(decV dl : Int) else decV dl) :
    (∃ x,NumYes s a (runN dgC (sl s (a + 1)) + 1) x) ∨ NumNo s a (runN dgC (sl s (a + 1)) + 1) := by
  have hF := numF hs ha
  have hx := extract_sl s a (runN dgC (sl s (a + 1)) + 1)
  have hsz : (s.extract a (a + (runN dgC (sl s (a + 1)) + 1))).size ≤ maxLen := by
    rw [ByteArray.size_extract];unfold maxLen;omega
  have hdl : (s.extract a (a + (runN dgC (sl s (a + 1)) + 1))).data.toList = if neg then 45 :: dl else dl := by rw [hx];exact hl
  have hW := fun wx => lWhole _ neg dl wx hsz hdl h0 hdig
  cases hok : wokD neg dl with
  | true =>
    refine .inl ⟨if neg then -(decV dl : Int) else decV dl,hF,fun wx => (hW wx).mono fun e w' ⟨x,he,hx,hw'⟩ => ⟨by rw [he,hx hok,hok],hw'⟩,?_⟩;unfold numAt;rw [hw.1,hw.2,hok];cases headIs letC (sl s (a + (runN dgC (sl s (a + 1)) + 1))) <;> rfl
  | false =>
    refine .inr ⟨hF,fun wx => (hW wx).mono fun e w' ⟨x,he,_,hw'⟩ => ⟨x,by rw [he,hok],hw'⟩,?_⟩;unfold numAt;rw [hw.1,hok];rfl
theorem num_digit {s : ByteArray} {a : Nat} (hs : s.size ≤ 16384) (ha : a < s.size) (hd : dgC s[a] = true) : (∃ x,NumYes s a (runN dgC (sl s (a + 1)) + 1) x) ∨ NumNo s a (runN dgC (sl s (a + 1)) + 1) := by
  have e : (sl s a).take (runN dgC (sl s (a + 1)) + 1) = s[a] :: (sl s (a + 1)).take (runN dgC (sl s (a + 1))) := by
    conv => lhs;arg 2;rw [sl_cons ha]
    rw [List.take_succ_cons]
  have hall : (s[a] :: (sl s (a + 1)).take (runN dgC (sl s (a + 1)))).all dgC = true := by rw [List.all_cons,hd,runN_all];rfl
  have hh := wholeOk_pos (l := s[a] :: (sl s (a + 1)).take (runN dgC (sl s (a + 1)))) hd
  refine num_any false (s[a] :: (sl s (a + 1)).take (runN dgC (sl s (a + 1)))) hs ha e (by simp) hall ?_
  rw [e]
  exact hh
theorem num_minus {s : ByteArray} {a : Nat} (hs : s.size ≤ 16384) (ha : a < s.size) (hm : s[a] = 45) (hd : headIs dgC (sl s (a + 1)) = true) : (∃ x,NumYes s a (runN dgC (sl s (a + 1)) + 1) x) ∨ NumNo s a (runN dgC (sl s (a + 1)) + 1) := by
  have e : (sl s a).take (runN dgC (sl s (a + 1)) + 1) = 45 :: (sl s (a + 1)).take (runN dgC (sl s (a + 1))) := by
    conv => lhs;arg 2;rw [sl_cons ha]
    rw [List.take_succ_cons,hm]
  have hne : (sl s (a + 1)).take (runN dgC (sl s (a + 1))) ≠ [] := by
    cases hh : sl s (a + 1) with
    | nil => rw [hh] at hd;simp [headIs] at hd
    | cons c r => rw [hh] at hd;simp only [headIs] at hd;simp [runN,hd]
  refine num_any true ((sl s (a + 1)).take (runN dgC (sl s (a + 1)))) hs ha e hne (runN_all _ _) ?_
  rw [e]
  exact wholeOk_neg hne
end Go.Proofs.YtpmbamfpmmdhcaaGreat
