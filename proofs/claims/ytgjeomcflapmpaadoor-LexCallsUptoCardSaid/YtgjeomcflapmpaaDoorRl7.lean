/- LexCalls: the walk. -/
import Derived.Test.YtgjeomcflapmpaaDoorRl4
import Derived.Test.YtgjeomcflapmpaaDoorRl5
import Derived.Test.YtgjeomcflapmpaaDoorRl6
namespace Go.Proofs.YtgjeomcflapmpaaDoor
open Go.RowKit
set_option linter.unusedSimpArgs false
set_option linter.unusedVariables false

theorem lexAll_facts (s : ByteArray) : ∃ (l : List Tok) (er at' : Int), lexAll s = (l, er, at') ∧ (∀ t ∈ l, TokOk t) ∧ l.length ≤ 20000 := by
  by_cases h : 16384 < s.size
  · exact ⟨[], 3, 0, by unfold lexAll; rw [if_pos h], by simp, by simp⟩
  · have hls : (sl s 0).length = s.size := by simp [sl]
    cases hlx : lexL true 0 (sl s 0) with
    | error a => exact ⟨[], 13, a, by unfold lexAll; rw [if_neg h, hlx], by simp, by simp⟩
    | ok l =>
      obtain ⟨hok, hln⟩ := lex_ok (sl s 0).length (sl s 0) true 0 l (Nat.le_refl _) (by omega) hlx
      exact ⟨l, 0, 0, by unfold lexAll; rw [if_neg h, hlx], hok, by omega⟩
theorem unqV_parts (o : Option (List UInt8)) : ∃ (x : ByteArray) (b : Bool), unqV o = .tuple #[.string x, .bool b] := by
  cases o with
  | none => exact ⟨_, _, rfl⟩
  | some x => exact ⟨_, _, rfl⟩

set_option maxRecDepth 100000 in
set_option maxHeartbeats 8000000 in
theorem wCalls (s : ByteArray) (w : World) (hT : TB w.heap.size w) (hs : s.size ≤ 2000000) : Calls Tryd.prog 4 #[.string s] w fun e w' => e = .returned (.bool true) ∧ Below w.heap.size w w' := by
  have HT := Lib.hid hT; clear hT
  by_cases hmid : 3000 < s.size ∧ s.size ≤ 16384
  · have h1 : (3000 : Int) < (s.size : Int) := by omega
    have h2 : (s.size : Int) ≤ 16384 := by omega
    clear hmid
    go_enter Tryd.func4, Tryd.ntmps4; (try simp only [List.append_eq, List.cons_append, List.nil_append])
    go_wp2_with fail
    refine (lLives _).mono ?_
    rintro e w1 ⟨rfl, hb1⟩
    have HB := Lib.hid hb1; clear hb1
    go_wp2
    go_ret
    exact ⟨rfl, HB.out⟩
  · have hcase : ¬ (3000 : Int) < (s.size : Int) ∨ ((3000 : Int) < (s.size : Int) ∧ ¬ (s.size : Int) ≤ 16384) := by omega
    obtain ⟨l, er, at', hl, hok, hlen⟩ := lexAll_facts s
    obtain ⟨x, b, hx⟩ := unqV_parts (unq s)
    have hsm : s.size ≤ maxLen := by unfold maxLen; omega
    have HLA := Lib.hid (fun wx => lAll s wx hsm)
    have HRA := Lib.hid (fun wx => rAll s wx hsm)
    unfold AllR at HLA HRA
    rw [hl] at HLA HRA
    have HLU := Lib.hid (fun wx => lUnquoteB s wx hs)
    have HRU := Lib.hid (fun wx => rUnquote s wx hs)
    rw [hx] at HLU HRU
    have HLW := Lib.hid (fun wx => lWord s wx hsm)
    have HRW := Lib.hid (fun wx => show Calls Tryd.prog 14 #[.string s] wx (fun e w' => e = .returned (.bool (wordY (sl s 0))) ∧ wx = w') from rWord5 s wx hsm)
    have HLQ := Lib.hid (fun wx => lQuote s wx hs)
    have HRQ := Lib.hid (fun wx => rQuote s wx hs)
    obtain ⟨q, hq⟩ : ∃ q : ByteArray, (⟨(quoteL s.data.toList).toArray⟩ : ByteArray) = q := ⟨_, rfl⟩
    obtain ⟨wd, hwd⟩ : ∃ wd, wordY (sl s 0) = wd := ⟨_, rfl⟩
    rw [hq] at HLQ HRQ
    rw [hwd] at HLW HRW
    have Hok := Lib.hid hok
    have Hlen := Lib.hid hlen
    have hteq : toksEq true l l = true := by rw [toksEq_true]; simp
    have Hteq := Lib.hid hteq
    clear hmid hl hok hlen hx hsm hs hq hwd hteq
    have qq : (q.toList == q.toList) = true := by simp
    have xx : (x.toList == x.toList) = true := by simp
    rcases hcase with h1 | ⟨h1, h2⟩
    all_goals
      go_enter Tryd.func4, Tryd.ntmps4; (try simp only [List.append_eq, List.cons_append, List.nil_append])
      go_wp2_with fail
      refine (lLives _).mono ?_
      rintro e w1 ⟨rfl, hb1⟩
      have HB1 := Lib.hid hb1; clear hb1
      go_wp2_with fail
      refine (HLA.out _).mono ?_
      rintro e w2 ⟨v, rfl, ho, hb2⟩
      have hI := ho.toks (Nat.le_refl _)
      obtain ⟨p, cap, rfl, -, -, -⟩ := hI.open
      have HI := Lib.hid hI; clear hI ho
      have HB2 := Lib.hid (HB1.out.trans (hb2.mono HB1.out.size)); clear hb2 HB1
      go_upto_region 6 with fail
      obtain ⟨W2, hW2⟩ : ∃ W2, w2.alloc (.cells #[.int .i64 er, .int .i64 at'] 29) = W2 := ⟨_, rfl⟩
      have hf : Blk W2 w2.heap.size 29 [.int .i64 er, .int .i64 at'] := by rw [← hW2]; exact Blk.new w2 [.int .i64 er, .int .i64 at'] _
      have hb2 : Below w2.heap.size w2 W2 := by rw [← hW2]; exact (Below.refl _ _).alloc (Nat.le_refl _) _
      rw [hW2]
      have HF := Lib.hid hf
      have HI2 := Lib.hid (HI.out.mono hb2 (Nat.le_refl _))
      have HB3 := Lib.hid (HB2.out.trans (hb2.mono HB2.out.size)); clear hb2 HB2 hf hW2 HI
      go_wp2_with fail
      refine (HRA.out _).mono ?_
      rintro e w3 ⟨v2, rfl, ho, hb3⟩
      have hI := ho.toks (Nat.le_refl _)
      obtain ⟨p2, cap2, rfl, -, -, -⟩ := hI.open
      have HJ := Lib.hid hI; clear hI ho
      have hf3 := HF.out.keep hb3
      have HI3 := Lib.hid (HI2.out.mono (hb3.mono (by have := HF.out.lt; omega)) (Nat.le_refl _))
      have HB4 := Lib.hid (HB3.out.trans (hb3.mono HB3.out.size))
      have hn3 : w2.heap.size < w3.heap.size := hf3.lt
      have HF3 := Lib.hid hf3; clear hb3 HB3 hf3 HF HI2
      go_upto_region 7 with fail
      obtain ⟨W3, hW3⟩ : ∃ W3, w3.alloc (.cells #[.int .i64 er, .int .i64 at'] 29) = W3 := ⟨_, rfl⟩
      have hg : Blk W3 w3.heap.size 29 [.int .i64 er, .int .i64 at'] := by rw [← hW3]; exact Blk.new w3 [.int .i64 er, .int .i64 at'] _
      have hb3 : Below w3.heap.size w3 W3 := by rw [← hW3]; exact (Below.refl _ _).alloc (Nat.le_refl _) _
      rw [hW3]
      have HG := Lib.hid hg
      have hn4 : w3.heap.size < W3.heap.size := hg.lt
      have HF4 := Lib.hid (HF3.out.keep hb3)
      have HI4 := Lib.hid (HI3.out.mono (hb3.mono (by omega)) (Nat.le_refl _))
      have HJ4 := Lib.hid (HJ.out.mono hb3 (Nat.le_refl _))
      have HB5 := Lib.hid (HB4.out.trans (hb3.mono HB4.out.size)); clear hb3 HB4 hg hW3 HI3 HJ HF3
      go_wp2_with fail
      refine (HLU.out _).mono ?_
      rintro e w5 ⟨rfl, hb5⟩
      have Hb5 := Lib.hid hb5; clear hb5
      go_wp2_with fail
      refine (HRU.out _).mono ?_
      rintro e w6 ⟨rfl, hb6⟩
      have Hb6 := Lib.hid (Hb5.out.trans (hb6.mono Hb5.out.size)); clear hb6 Hb5
      have HF6 := Lib.hid (HF4.out.keep Hb6.out)
      have HG6 := Lib.hid (HG.out.keep Hb6.out)
      have HI6 := Lib.hid (HI4.out.mono (Hb6.out.mono (by omega)) (Nat.le_refl _))
      have HJ6 := Lib.hid (HJ4.out.mono (Hb6.out.mono (by omega)) (Nat.le_refl _))
      have HB6 := Lib.hid (HB5.out.trans (Hb6.out.mono HB5.out.size))
      have hs6 := Hb6.out.size
      clear HF4 HG HI4 HJ4 HB5 Hb6
      go_wp2_with fail
      refine (kTokens true l l _ _ w3.heap.size w6 (by omega) (HI6.out.mono (Below.refl _ _) (by omega)) HJ6.out).mono ?_
      rintro e w7 ⟨rfl, hb7⟩
      rw [Hteq.out]
      have hF7 := HF6.out.keep hb7
      have hG7 := HG6.out.keep hb7
      have c0 := hF7.cell 0 _ rfl; have c1 := hF7.cell 1 _ rfl
      have d0 := hG7.cell 0 _ rfl; have d1 := hG7.cell 1 _ rfl
      have HI7 := Lib.hid (HI6.out.mono (hb7.mono (by omega)) (Nat.le_refl _))
      have HB7 := Lib.hid (HB6.out.trans (hb7.mono HB6.out.size))
      have hs7 := hb7.size
      clear hb7 hF7 hG7 HF6 HG6 HI6 HJ6 HB6
      go_wp2_with fail
      refine (HLW.out _).mono ?_
      rintro e w' ⟨rfl, rfl⟩
      go_wp2_with fail
      refine (HRW.out _).mono ?_
      rintro e w' ⟨rfl, rfl⟩
      go_wp2_with fail
      refine (HLQ.out _).mono ?_
      rintro e w8 ⟨rfl, hb8⟩
      have HI8 := Lib.hid (HI7.out.mono (hb8.mono (by omega)) (Nat.le_refl _))
      have HB8 := Lib.hid (HB7.out.trans (hb8.mono HB7.out.size))
      have hs8 := hb8.size
      clear hb8 c0 c1 d0 d1 HI7 HB7
      go_wp2_with fail
      refine (HRQ.out _).mono ?_
      rintro e w9 ⟨rfl, hb9⟩
      have HI9 := Lib.hid (HI8.out.mono (hb9.mono (by omega)) (Nat.le_refl _))
      have HB9 := Lib.hid (HB8.out.trans (hb9.mono HB8.out.size))
      have hs9 := hb9.size
      clear hb9 HI8 HB8
      go_wp2_with fail
      refine (lJoin l _ w2.heap.size w9 (by omega) ((HT.out.on HB9.out).less HB9.out.size) HI9.out Hok.out (by have := Hlen.out; omega)).mono ?_
      rintro e w10 ⟨rfl, hb10⟩
      have HI10 := Lib.hid (HI9.out.mono (hb10.mono (by omega)) (Nat.le_refl _))
      have HB10 := Lib.hid (HB9.out.trans (hb10.mono HB9.out.size))
      have hs10 := hb10.size
      clear hb10 HI9 HB9
      obtain ⟨j, hj⟩ : ∃ j : ByteArray, (⟨(joinToks l).toArray⟩ : ByteArray) = j := ⟨_, rfl⟩
      have HJn := Lib.hid hj
      rw [hj]
      have jj : (j.toList == j.toList) = true := by simp
      clear hj
      go_wp2_with fail
      refine (rJoin l _ w2.heap.size w10 (by omega) HI10.out Hok.out (by have := Hlen.out; omega)).mono ?_
      rintro e w11 ⟨rfl, hb11⟩
      rw [HJn.out]
      have HB11 := Lib.hid (HB10.out.trans (hb11.mono HB10.out.size))
      clear hb11
      go_wp2_with fail
      go_ret
      exact ⟨rfl, HB11.out⟩
end Go.Proofs.YtgjeomcflapmpaaDoor
