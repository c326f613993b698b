/- lex.Join. -/
import Derived.Test.YtgjeomcflapmpaaDoorLz1a
import Derived.Test.YtgjeomcflapmpaaDoorLb0
import Derived.Test.YtgjeomcflapmpaaDoorBd1
import Derived.Test.YtgjeomcflapmpaaDoorOws
namespace Go.Proofs.YtgjeomcflapmpaaDoor
open Go.RowKit
set_option linter.unusedSimpArgs false
set_option linter.unusedVariables false

def tokB (t : Tok) : ByteArray := ⟨(tokText t).toArray⟩
/-- Tokens that a text has: short, their numbers within bounds. -/
def TokOk (t : Tok) : Prop := t.text.length ≤ 20000 ∧ -9223372036854775808 ≤ t.num ∧ t.num ≤ 9223372036854775807
theorem tokText_len {t : Tok} (h : TokOk t) : (tokText t).length ≤ 80002 := by
  unfold tokText
  have h1 := quoteL_length t.text
  have h2 := Lib.itoa_length_le t.num h.2.1 h.2.2
  have h3 := h.1
  split
  · omega
  · split <;> omega
theorem join_le (sep : List UInt8) (b : Nat) : ∀ l : List (List UInt8), (∀ x ∈ l, x.length ≤ b) → (Lib.join l sep).length ≤ l.length * (b + sep.length)
  | [], _ => by simp [Lib.join_nil]
  | [x], h => by have := h x (by simp); rw [Lib.join_one]; simp; omega
  | x :: y :: r, h => by
    have ih := join_le sep b (y :: r) (fun z hz => h z (by simp [hz]))
    have h1 := h x (by simp)
    have e : (Lib.join (x :: y :: r) sep).length = x.length + sep.length + (Lib.join (y :: r) sep).length := by
      rw [Lib.join_cons, Lib.join_cons]; simp [Lib.joinTail]; omega
    rw [e, List.length_cons (a := x), Nat.succ_mul]; omega
theorem joinToks_len {l : List Tok} (h : ∀ t ∈ l, TokOk t) : (joinToks l).length ≤ l.length * 80003 := by
  have := join_le [32] 80002 (l.map tokText) (fun x hx => by obtain ⟨t, ht, rfl⟩ := List.mem_map.1 hx; exact tokText_len (h t ht))
  simpa [joinToks] using this

theorem whole_bd {l : List UInt8} (h : wholeOk l = true) : -9223372036854775808 ≤ wholeV l ∧ wholeV l ≤ 9223372036854775807 := by
  match l, h with
  | c :: r, h =>
    simp only [wholeOk, wholeV] at h ⊢
    by_cases h1 : (c == 45) = true
    · rw [if_pos h1] at h ⊢
      simp only [Bool.and_eq_true, decide_eq_true_eq] at h
      have := h.2; omega
    · rw [if_neg h1] at h ⊢
      simp only [Bool.and_eq_true, decide_eq_true_eq] at h
      have := h.2; omega
theorem num0 : -9223372036854775808 ≤ (0 : Int) ∧ (0 : Int) ≤ 9223372036854775807 := by decide
theorem tokAt_ok {free : Bool} {l : List UInt8} {t : Tok} {n : Nat} (h : tokAt free l = some (t, n)) (hl : l.length ≤ 20000) : TokOk t := by
  match l, h with
  | [], h => cases h
  | c :: r, h =>
    simp only [tokAt] at h
    split at h
    · split at h
      · cases h
        refine ⟨?_, num0⟩
        show (List.take _ _).length ≤ _
        rw [List.length_take]; omega
      · cases h
    · split at h
      · cases hh : textAt r with
        | none => rw [hh] at h; cases h
        | some y =>
          obtain ⟨y, m⟩ := y
          rw [hh] at h
          simp only at h
          split at h
          · rename_i h64
            cases h
            exact ⟨by show y.length ≤ _; omega, num0⟩
          · cases h
      · split at h
        · split at h
          · rename_i hw
            cases h
            simp only [Bool.and_eq_true] at hw
            obtain ⟨h1, h2⟩ := whole_bd hw.1
            refine ⟨?_, h1, h2⟩
            show (List.take _ _).length ≤ _
            rw [List.length_take]; omega
          · cases h
        · simp only [signAt] at h
          split at h
          · cases h; exact ⟨by simp, num0⟩
          · split at h
            · cases h; exact ⟨by simp, num0⟩
            · cases h
theorem lex_ok : ∀ (n : Nat) (r : List UInt8) (free : Bool) (k : Nat) (l : List Tok), r.length ≤ n → r.length ≤ 20000 → lexL free k r = .ok l → (∀ t ∈ l, TokOk t) ∧ l.length ≤ r.length + 1 := by
  intro n
  induction n with
  | zero =>
    intro r free k l h _ e
    have : r = [] := List.eq_nil_of_length_eq_zero (by omega)
    subst this
    rw [lexL_nil] at e; cases e
    exact ⟨by simp [TokOk], by simp⟩
  | succ n ih =>
    intro r free k l h h2 e
    match r, h, h2, e with
    | [], _, _, e =>
      rw [lexL_nil] at e; cases e
      exact ⟨by simp [TokOk], by simp⟩
    | c :: r, h, h2, e =>
      simp only [List.length_cons] at h h2 ⊢
      by_cases hb : blankC c = true
      · rw [lexL_blank _ _ _ hb] at e
        obtain ⟨a, b⟩ := ih r free _ l (by omega) (by omega) e
        exact ⟨a, by omega⟩
      · have hb : blankC c = false := by simpa using hb
        by_cases hc : c = 35
        · subst hc
          rw [lexL_note] at e
          have hl := runN_le notNl r
          obtain ⟨a, b⟩ := ih _ free _ l (by simp; omega) (by simp; omega) e
          exact ⟨a, by simp at b; omega⟩
        · cases ht : tokAt free (c :: r) with
          | none => rw [lexL_bad k hb hc ht] at e; cases e
          | some x =>
            obtain ⟨t, m⟩ := x
            have q1 := tokAt_pos ht
            have q2 := tokAt_len ht
            have q3 := tokAt_ok ht (by simpa using h2)
            simp only [List.length_cons] at q2
            rw [lexL_tok k hb hc ht] at e
            cases e' : lexL t.free (k + m) ((c :: r).drop m) with
            | error a' => rw [e'] at e; cases e
            | ok l1 =>
              rw [e'] at e; cases e
              obtain ⟨a, b⟩ := ih _ t.free _ l1 (by simp; omega) (by simp; omega) e'
              refine ⟨fun x hx => ?_, by simp at b ⊢; omega⟩
              rcases List.mem_cons.1 hx with rfl | hx
              · exact q3
              · exact a x hx

set_option maxRecDepth 100000 in
set_option maxHeartbeats 4000000 in
theorem lJoin (l : List Tok) (v : Value) (n : Nat) (w : World) (hn : n ≤ w.heap.size) (hT : TB w.heap.size w) (hv : IsToks n w v l) (hok : ∀ t ∈ l, TokOk t) (hl : l.length ≤ 1000000) :
    Calls Tryd.prog 9 #[v] w fun e w' => e = .returned (.string ⟨(joinToks l).toArray⟩) ∧ Below w.heap.size w w' := by
  obtain ⟨i0, hi, hz0, hz1, hz2⟩ := info_parts infoS
  obtain ⟨p, cap, rfl, _, _, hlm⟩ := hv.open
  unfold maxLen at hlm
  have Hok := Lib.hid hok; clear hok
  have HT := Lib.hid hT; clear hT
  go_enter Tryd.func9, Tryd.ntmps9; (try simp only [List.append_eq, List.cons_append, List.nil_append])
  go_upto_region 3 with fail
  go_loopw [3, 8] (fun v i wr => ∃ k : Nat, k ≤ l.length ∧ i = .int .i64 k ∧ OwnS w.heap.size wr v ((l.take k).map tokB) ∧ Below w.heap.size w wr) (fun _ i _ => l.length - (intOf i).toNat)
  case atStart => exact ⟨0, Nat.zero_le _, rfl, World.ownsRow_nil _ _ _ _, Below.refl _ _⟩
  case round =>
    obtain ⟨k, hk, rfl, hown, hb⟩ := hrel
    have Hb := Lib.hid hb; clear hb
    by_cases hlt : k < l.length
    · obtain ⟨b, off, rfl, hbn, g1, g2, g3, g4⟩ := (hv.mono (Hb.out.mono hn) (Nat.le_refl n)).get hlt
      have hstep : (l.take (k + 1)).map tokB = (l.take k).map tokB ++ [tokB l[k]] := by rw [List.take_succ_eq_append_getElem hlt, List.map_append]; rfl
      obtain ⟨q, hq⟩ : ∃ q, (l.take k).map tokB = q := ⟨_, rfl⟩
      have hqn : q.length ≤ 1000000 := by rw [← hq]; simp; omega
      have hOk := Hok.out _ (List.getElem_mem hlt)
      rw [hq] at hown hstep
      have Hst := Lib.hid hstep; clear hstep hq
      obtain ⟨A, cp, rfl⟩ := ownS_slice hown
      have Hown := Lib.hid hown; clear hown
      have HL : q.length + 1 ≤ maxLen ∧ (q.length + 1) * 16 ≤ 140737488355328 := by unfold maxLen; omega
      have Hv := Lib.hid hv; clear hv
      generalize l[k] = t at *
      go_upto_region 5 with fail
      have hblk := Blk.new wr [.int .i64 t.kind, .string ⟨t.text.toArray⟩, .int .i64 t.num, .int .i64 t.pos] 33
      have hbw : Below wr.heap.size wr (wr.alloc (.cells #[.int .i64 t.kind, .string ⟨t.text.toArray⟩, .int .i64 t.num, .int .i64 t.pos] 33)) := (Below.refl _ _).alloc (Nat.le_refl _) _
      obtain ⟨W1, hW1⟩ : ∃ W1, wr.alloc (.cells #[.int .i64 t.kind, .string ⟨t.text.toArray⟩, .int .i64 t.num, .int .i64 t.pos] 33) = W1 := ⟨_, rfl⟩
      have hblk' : Blk W1 wr.heap.size 33 [.int .i64 t.kind, .string ⟨t.text.toArray⟩, .int .i64 t.num, .int .i64 t.pos] := by rw [← hW1]; exact hblk
      rw [hW1] at hbw ⊢
      clear hblk hW1
      have HB1 := Lib.hid (Hb.out.trans (hbw.mono Hb.out.size))
      have HO1 := Lib.hid (ownsRow_keep Hown.out hbw)
      have hs1 := HB1.out.size
      clear g1 g2 g3 g4 hbw
      have d0 := hblk'.cell 0 _ rfl; have d1 := hblk'.cell 1 _ rfl; have d2 := hblk'.cell 2 _ rfl; have d3 := hblk'.cell 3 _ rfl
      by_cases h3 : t.kind = 3
      · have hx : tokB t = ⟨(quoteL t.text).toArray⟩ := by unfold tokB tokText; rw [if_pos h3]
        have h3b : (t.kind == 3) = true := by simpa using h3
        have CQ := Lib.hid (fun X => lQuote ⟨t.text.toArray⟩ X (by show t.text.length ≤ _; have := hOk.1; omega))
        obtain ⟨x, hxx⟩ : ∃ x : ByteArray, (⟨(quoteL t.text).toArray⟩ : ByteArray) = x := ⟨_, rfl⟩
        have hxx' : (⟨(quoteL (⟨t.text.toArray⟩ : ByteArray).data.toList).toArray⟩ : ByteArray) = x := hxx
        rw [hxx'] at CQ
        rw [hxx] at hx
        rw [hx] at Hst
        clear hx hxx hxx' h3 hOk hblk'
        go_wp2_with (first
          | (go_at_call 7; refine (CQ.out _).mono ?_; rintro e w2 ⟨rfl, hb2⟩; have HB2 := Lib.hid hb2; clear hb2)
          | (at_builtin; refine wpList_append_own_at _ rfl _ _ 58 rfl w.heap.size 9 i0 _ 1 16 Tryd.underlying58 hi hz0 hz1 hz2 rfl (by decide) _ q.length (q.map .string) rfl (ownsRow_keep HO1.out (HB2.out.alloc HB2.out.size _)) ⟨w2.heap.size, 0, none⟩ 1 1 [.string x] rfl rfl (one_new _ _ _) (by simp [Value.oneCell']) HL.1 HL.2 (Nat.le_trans hs1 (Nat.le_trans HB2.out.size (by simp))) ?_; intro v1 w3 hown3 hgr3 _ _))
        exact ⟨⟨k + 1, by omega, by go_num, by rw [Hst.out]; exact ownS_add hown3, below_app (HB1.out.trans ((HB2.out.alloc HB2.out.size _).mono hs1)) (ownsRow_keep HO1.out (HB2.out.alloc HB2.out.size _)) hgr3 (Nat.le_refl _) (Nat.le_trans hs1 (Nat.le_trans HB2.out.size (by simp)))⟩, by simp [intOf]; omega⟩
      · have h3b : (t.kind == 3) = false := by simpa using h3
        by_cases h2 : t.kind = 2
        · have hx : tokB t = ⟨(Lib.itoa t.num).toArray⟩ := by unfold tokB tokText; rw [if_neg h3, if_pos h2]
          have h2b : (t.kind == 2) = true := by simpa using h2
          have CF := Lib.hid (bFmt t.num hOk.2 _ W1 ((HT.out.on HB1.out).less hs1))
          obtain ⟨x, hxx⟩ : ∃ x : ByteArray, (⟨(Lib.itoa t.num).toArray⟩ : ByteArray) = x := ⟨_, rfl⟩
          rw [hxx] at CF hx
          rw [hx] at Hst
          clear hx hxx h3 h2 hOk hblk'
          go_wp2_with (first
            | (go_at_call 26; refine CF.out.mono ?_; rintro e w2 ⟨rfl, hb2⟩; have HB2 := Lib.hid hb2; clear hb2)
            | (at_builtin; refine wpList_append_own_at _ rfl _ _ 58 rfl w.heap.size 9 i0 _ 1 16 Tryd.underlying58 hi hz0 hz1 hz2 rfl (by decide) _ q.length (q.map .string) rfl (ownsRow_keep HO1.out (HB2.out.alloc HB2.out.size _)) ⟨w2.heap.size, 0, none⟩ 1 1 [.string x] rfl rfl (one_new _ _ _) (by simp [Value.oneCell']) HL.1 HL.2 (Nat.le_trans hs1 (Nat.le_trans HB2.out.size (by simp))) ?_; intro v1 w3 hown3 hgr3 _ _))
          exact ⟨⟨k + 1, by omega, by go_num, by rw [Hst.out]; exact ownS_add hown3, below_app (HB1.out.trans ((HB2.out.alloc HB2.out.size _).mono hs1)) (ownsRow_keep HO1.out (HB2.out.alloc HB2.out.size _)) hgr3 (Nat.le_refl _) (Nat.le_trans hs1 (Nat.le_trans HB2.out.size (by simp)))⟩, by simp [intOf]; omega⟩
        · have hx : tokB t = ⟨t.text.toArray⟩ := by unfold tokB tokText; rw [if_neg h3, if_neg h2]
          have h2b : (t.kind == 2) = false := by simpa using h2
          rw [hx] at Hst
          have HB2 := Lib.hid (Below.refl W1.heap.size W1)
          clear hx h3 h2 hOk hblk'
          go_wp2_with (at_builtin; refine wpList_append_own_at _ rfl _ _ 58 rfl w.heap.size 9 i0 _ 1 16 Tryd.underlying58 hi hz0 hz1 hz2 rfl (by decide) _ q.length (q.map .string) rfl (ownsRow_keep HO1.out (HB2.out.alloc HB2.out.size _)) ⟨W1.heap.size, 0, none⟩ 1 1 [.string ⟨t.text.toArray⟩] rfl rfl (one_new _ _ _) (by simp [Value.oneCell']) HL.1 HL.2 (Nat.le_trans hs1 (Nat.le_trans HB2.out.size (by simp))) ?_; intro v1 w3 hown3 hgr3 _ _)
          exact ⟨⟨k + 1, by omega, by go_num, by rw [Hst.out]; exact ownS_add hown3, below_app (HB1.out.trans ((HB2.out.alloc HB2.out.size _).mono hs1)) (ownsRow_keep HO1.out (HB2.out.alloc HB2.out.size _)) hgr3 (Nat.le_refl _) (Nat.le_trans hs1 (Nat.le_trans HB2.out.size (by simp)))⟩, by simp [intOf]; omega⟩
    · have hk' : k = l.length := by omega
      subst hk'
      rw [List.take_of_length_le (Nat.le_refl _)] at hown
      have hjl := joinToks_len Hok.out
      have hjn : (l.map tokB).map (fun s : ByteArray => s.data.toList) = l.map tokText := by simp [tokB, Function.comp_def]
      have hjl2 : (Lib.join (l.map tokText) [32]).length ≤ 140737488355328 := by
        have : (Lib.join (l.map tokText) [32]).length = (joinToks l).length := rfl
        omega
      have hjl3 : (Lib.join ((l.map tokB).map (fun s : ByteArray => s.data.toList)) (⟨#[32]⟩ : ByteArray).data.toList).length ≤ 140737488355328 := by rw [hjn]; exact hjl2
      have CJ := ownS_join w.heap.size (l.map tokB) _ ⟨#[32]⟩ wr hown (by simp; omega) hjl3
      rw [hjn] at CJ
      have HJ := Lib.hid CJ; clear CJ hjn hjl hjl2 hjl3 hown
      go_wp2_with (go_at_call 27; refine HJ.out.mono ?_; rintro e w2 ⟨rfl, hb2⟩; have HB2 := Lib.hid (Hb.out.trans (hb2.mono Hb.out.size)); clear hb2)
      go_ret
      exact ⟨rfl, HB2.out⟩
end Go.Proofs.YtgjeomcflapmpaaDoor
