/- waterwheelkit.Tokens and Ints. -/
import Derived.Test.YtgjeomcflapmpaaDoorLx2
import Derived.Deep.QuietTactic
import Derived.BigQuiet
namespace Go.Proofs.YtgjeomcflapmpaaDoor
open Go.RowKit
set_option linter.unusedSimpArgs false
set_option linter.unusedVariables false

theorem eq_of_upto {α : Type} {a b : List α} (hl : a.length = b.length) (h : a.take a.length = b.take a.length) : a = b := by
  rwa [List.take_of_length_le (Nat.le_refl _), List.take_of_length_le (by omega)] at h
theorem take_eq_step {α : Type} {a b : List α} {k : Nat} (h : a.take k = b.take k) (ha : k < a.length) (hb : k < b.length) (he : a[k] = b[k]) : a.take (k + 1) = b.take (k + 1) := by
  rw [List.take_succ_eq_append_getElem ha, List.take_succ_eq_append_getElem hb, h, he]
theorem ne_of_at {α : Type} {a b : List α} {k : Nat} (ha : k < a.length) (hb : k < b.length) (he : ¬ a[k] = b[k]) : ¬ a = b := by
  intro e; subst e; exact he rfl

/-- A token, with its place or without. -/
def Tok.bare (wh : Bool) (t : Tok) : Tok := if wh then t else { t with pos := 0 }
/-- Are tokens the same? -/
def toksEq (wh : Bool) (la lb : List Tok) : Bool := decide (la.map (Tok.bare wh) = lb.map (Tok.bare wh))
theorem toksEq_true (la lb : List Tok) : toksEq true la lb = decide (la = lb) := by
  unfold toksEq
  have : Tok.bare true = id := by funext t; rfl
  rw [this]; simp
theorem bare_eq {wh : Bool} {a b : Tok} : a.bare wh = b.bare wh ↔ a.kind = b.kind ∧ a.text = b.text ∧ a.num = b.num ∧ (wh = true → a.pos = b.pos) := by
  cases a; cases b; cases wh <;> simp [Tok.bare]
theorem bytesBeq (a b : List UInt8) : ((⟨a.toArray⟩ : ByteArray).toList == (⟨b.toArray⟩ : ByteArray).toList) = decide (a = b) := by
  rw [ByteArray.toList_eq, ByteArray.toList_eq]
  show (a == b) = _
  rw [Bool.eq_iff_iff]; simp

set_option maxRecDepth 100000 in
set_option maxHeartbeats 4000000 in
theorem kTokens (wh : Bool) (la lb : List Tok) (va vb : Value) (n : Nat) (w : World) (hn : n ≤ w.heap.size) (ha : IsToks n w va la) (hb : IsToks n w vb lb) :
    Calls Tryd.prog 10 #[va, vb, .bool wh] w fun e w' => e = .returned (.bool (toksEq wh la lb)) ∧ Below w.heap.size w w' := by
  obtain ⟨p, cap, rfl, _, _, hla⟩ := ha.open
  obtain ⟨q, cbp, rfl, _, _, hlb⟩ := hb.open
  unfold maxLen at hla hlb
  by_cases hl : la.length = lb.length
  · have Hl := Lib.hid hl; clear hl
    have hl : ((la.length : Int) != (lb.length : Int)) = false := by simp [Hl.out]
    go_enter Tryd.func10, Tryd.ntmps10; (try simp only [List.append_eq, List.cons_append, List.nil_append])
    go_wp2
    go_loopw [7] (fun i wr => ∃ k : Nat, k ≤ la.length ∧ i = .int .i64 k ∧ (la.map (Tok.bare wh)).take k = (lb.map (Tok.bare wh)).take k ∧ Below w.heap.size w wr) (fun i _ => la.length - (intOf i).toNat)
    case atStart => exact ⟨0, Nat.zero_le _, rfl, by simp, Below.refl _ _⟩
    case round =>
      obtain ⟨k, hk, rfl, hr, hbl⟩ := hrel
      have Hr := Lib.hid hr; clear hr
      have Hb := Lib.hid hbl; clear hbl
      by_cases hlt : k < la.length
      · have hltb : k < lb.length := by have := Hl.out; omega
        obtain ⟨b, off, rfl, hbn, h1, h2, h3, h4⟩ := (ha.mono (Hb.out.mono hn) (Nat.le_refl _)).get hlt
        obtain ⟨b', off', rfl, hbn', h1', h2', h3', h4'⟩ := (hb.mono (Hb.out.mono hn) (Nat.le_refl _)).get hltb
        have Ha := Lib.hid ha; clear ha
        have Hbb := Lib.hid hb; clear hb
        have Heq := Lib.hid (bare_eq (wh := wh) (a := la[k]) (b := lb[k]))
        have Hno := Lib.hid (fun h => ne_of_at (a := la.map (Tok.bare wh)) (b := lb.map (Tok.bare wh)) (k := k) (by simpa using hlt) (by simpa using hltb) h)
        have Hyes := Lib.hid (fun h => take_eq_step (a := la.map (Tok.bare wh)) (b := lb.map (Tok.bare wh)) (k := k) Hr.out (by simpa using hlt) (by simpa using hltb) h)
        rw [List.getElem_map, List.getElem_map] at Hno Hyes
        generalize la[k] = x at *
        generalize lb[k] = y at *
        by_cases e1 : x.kind = y.kind
        · have g1 : (x.kind != y.kind) = false := by simp [e1]
          have E1 := Lib.hid e1; clear e1
          by_cases e2 : x.text = y.text
          · have g2 : (x.text == y.text) = true := by simp [e2]
            have E2 := Lib.hid e2; clear e2
            by_cases e3 : x.num = y.num
            · have g3 : (x.num != y.num) = false := by simp [e3]
              have E3 := Lib.hid e3; clear e3
              cases wh
              · have Hk : Hid ((false = true) → x.pos = y.pos) := fun h => Bool.noConfusion h
                go_wp2
                go_quiet (fail)
                go_wp2
                exact ⟨⟨k + 1, by omega, by go_num, Hyes.out (Heq.out.2 ⟨E1.out, E2.out, E3.out, Hk.out⟩), below_drewN Hb.out _⟩, by simp [intOf]; omega⟩
              · by_cases e4 : x.pos = y.pos
                · have g4 : (x.pos != y.pos) = false := by simp [e4]
                  have E4 := Lib.hid e4; clear e4
                  go_wp2
                  go_quiet (fail)
                  go_wp2
                  exact ⟨⟨k + 1, by omega, by go_num, Hyes.out (Heq.out.2 ⟨E1.out, E2.out, E3.out, fun _ => E4.out⟩), below_drewN Hb.out _⟩, by simp [intOf]; omega⟩
                · have g4 : (x.pos != y.pos) = true := by simp [e4]
                  have E4 := Lib.hid e4; clear e4
                  go_wp2
                  go_quiet (fail)
                  go_wp2
                  go_ret
                  exact ⟨ret_bool (Eq.symm (decide_eq_false (Hno.out fun e => E4.out ((Heq.out.1 e).2.2.2 (by first | rfl | trivial))))), below_drewN Hb.out _⟩
            · have g3 : (x.num != y.num) = true := by simp [e3]
              have E3 := Lib.hid e3; clear e3
              go_wp2
              go_quiet (fail)
              go_wp2
              go_ret
              exact ⟨ret_bool (Eq.symm (decide_eq_false (Hno.out fun e => E3.out (Heq.out.1 e).2.2.1))), below_drewN Hb.out _⟩
          · have g2 : (x.text == y.text) = false := by simpa using e2
            have E2 := Lib.hid e2; clear e2
            go_wp2
            go_quiet (fail)
            go_wp2
            go_ret
            exact ⟨ret_bool (Eq.symm (decide_eq_false (Hno.out fun e => E2.out (Heq.out.1 e).2.1))), below_drewN Hb.out _⟩
        · have g1 : (x.kind != y.kind) = true := by simp [e1]
          have E1 := Lib.hid e1; clear e1
          go_wp2
          go_quiet (fail)
          go_wp2
          go_ret
          exact ⟨ret_bool (Eq.symm (decide_eq_false (Hno.out fun e => E1.out (Heq.out.1 e).1))), below_drewN Hb.out _⟩
      · go_wp2
        go_ret
        refine ⟨ret_bool (Eq.symm (decide_eq_true ?_)), Hb.out⟩
        have hk' : k = la.length := by omega
        subst hk'
        exact eq_of_upto (by simpa using Hl.out) (by simpa using Hr.out)
  · have hl' : ((la.length : Int) != (lb.length : Int)) = true := by simp; omega
    go_enter Tryd.func10, Tryd.ntmps10; (try simp only [List.append_eq, List.cons_append, List.nil_append])
    go_wp2
    go_ret
    exact ⟨ret_bool (Eq.symm (decide_eq_false (fun e => hl (by simpa using congrArg List.length e)))), Below.refl _ _⟩

/-- A slice of numbers. -/
def IsInts (n : Nat) (w : World) (v : Value) (l : List Int) : Prop := Arr n w v 1 (l.map fun i => [.int .i64 i])
theorem IsInts.mono {n m : Nat} {w w' : World} {v : Value} {l : List Int} (h : IsInts n w v l) (hb : Below n w w') (hm : n ≤ m) : IsInts m w' v l := Arr.mono h hb hm
theorem IsInts.open {n : Nat} {w : World} {v : Value} {l : List Int} (h : IsInts n w v l) : ∃ p cap, v = .slice p l.length cap ∧ l.length ≤ cap ∧ cap ≤ maxLen ∧ l.length ≤ maxLen := by
  obtain ⟨p, cap, hv, h1, h2, _⟩ := h
  simp only [List.length_map] at hv h1
  exact ⟨p, cap, hv, h1, h2, by omega⟩
theorem IsInts.get {n : Nat} {w : World} {p : Option Addr} {len cap : Nat} {l : List Int} (h : IsInts n w (.slice p len cap) l) {k : Nat} (hk : k < l.length) :
    ∃ b off, p = some ⟨b, off, none⟩ ∧ b < n ∧ w.cell? ⟨b, off + k, none⟩ = some (.int .i64 l[k]) := by
  obtain ⟨b, off, hp, hb, hc⟩ := h.at k [.int .i64 l[k]] (by simp [hk])
  exact ⟨b, off, hp, hb, by simpa using hc 0 _ rfl⟩

set_option maxHeartbeats 1000000 in
theorem kInts (la lb : List Int) (va vb : Value) (n : Nat) (w : World) (hn : n ≤ w.heap.size) (ha : IsInts n w va la) (hb : IsInts n w vb lb) :
    Calls Tryd.prog 17 #[va, vb] w fun e w' => e = .returned (.bool (decide (la = lb))) ∧ Below w.heap.size w w' := by
  obtain ⟨p, cap, rfl, _, _, hla⟩ := ha.open
  obtain ⟨q, cbp, rfl, _, _, hlb⟩ := hb.open
  unfold maxLen at hla hlb
  by_cases hl : la.length = lb.length
  · have Hl := Lib.hid hl; clear hl
    have hl : ((la.length : Int) != (lb.length : Int)) = false := by simp [Hl.out]
    go_enter Tryd.func17, Tryd.ntmps17; (try simp only [List.append_eq, List.cons_append, List.nil_append])
    go_wp2
    go_loopw [5] (fun i wr => ∃ k : Nat, k ≤ la.length ∧ i = .int .i64 k ∧ la.take k = lb.take k ∧ Below w.heap.size w wr) (fun i _ => la.length - (intOf i).toNat)
    case atStart => exact ⟨0, Nat.zero_le _, rfl, by simp, Below.refl _ _⟩
    case round =>
      obtain ⟨k, hk, rfl, hr, hbl⟩ := hrel
      have Hr := Lib.hid hr; clear hr
      have Hb := Lib.hid hbl; clear hbl
      by_cases hlt : k < la.length
      · have hltb : k < lb.length := by have := Hl.out; omega
        obtain ⟨b, off, rfl, hbn, h1⟩ := (ha.mono (Hb.out.mono hn) (Nat.le_refl _)).get hlt
        obtain ⟨b', off', rfl, hbn', h1'⟩ := (hb.mono (Hb.out.mono hn) (Nat.le_refl _)).get hltb
        have Ha := Lib.hid ha; clear ha
        have Hbb := Lib.hid hb; clear hb
        have Hno := Lib.hid (fun h => ne_of_at (a := la) (b := lb) (k := k) hlt hltb h)
        have Hyes := Lib.hid (fun h => take_eq_step (a := la) (b := lb) (k := k) Hr.out hlt hltb h)
        generalize la[k] = x at *
        generalize lb[k] = y at *
        by_cases e1 : x = y
        · have g1 : (x != y) = false := by simp [e1]
          have E1 := Lib.hid e1; clear e1
          go_wp2
          go_quiet (fail)
          go_wp2
          exact ⟨⟨k + 1, by omega, by go_num, Hyes.out E1.out, below_drewN Hb.out _⟩, by simp [intOf]; omega⟩
        · have g1 : (x != y) = true := by simp [e1]
          have E1 := Lib.hid e1; clear e1
          go_wp2
          go_quiet (fail)
          go_wp2
          go_ret
          exact ⟨ret_bool (Eq.symm (decide_eq_false (Hno.out E1.out))), below_drewN Hb.out _⟩
      · go_wp2
        go_ret
        refine ⟨ret_bool (Eq.symm (decide_eq_true ?_)), Hb.out⟩
        have hk' : k = la.length := by omega
        subst hk'
        exact eq_of_upto Hl.out Hr.out
  · have hl' : ((la.length : Int) != (lb.length : Int)) = true := by simp; omega
    go_enter Tryd.func17, Tryd.ntmps17; (try simp only [List.append_eq, List.cons_append, List.nil_append])
    go_wp2
    go_ret
    exact ⟨ret_bool (Eq.symm (decide_eq_false (fun e => hl (by rw [e])))), Below.refl _ _⟩

end Go.Proofs.YtgjeomcflapmpaaDoor
