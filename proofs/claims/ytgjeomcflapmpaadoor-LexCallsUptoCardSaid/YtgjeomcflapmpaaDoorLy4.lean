/- The law's lives. -/
import Derived.Test.YtgjeomcflapmpaaDoorLy3
namespace Go.Proofs.YtgjeomcflapmpaaDoor
open Go.RowKit
set_option linter.unusedSimpArgs false
set_option linter.unusedVariables false

theorem allLit {s : ByteArray} {l : List Tok} (n : Nat) (h : lexAll s = (l, 0, 0)) (hn : l.length = n) (hs : s.size ≤ maxLen) (w : World) :
    Calls Tryd.prog 8 #[.string s] w fun e w' => ∃ p cap, e = .returned (.tuple #[.slice p n cap, .agg #[.int .i64 0, .int .i64 0]]) ∧ OwnT w.heap.size w' (.slice p l.length cap) l ∧ Below w.heap.size w w' := by
  subst hn; exact allOf h hs w
theorem kindsLit {s : ByteArray} {l : List Tok} (ks : List Int) (h : lexAll s = (l, 0, 0)) (hk : l.map Tok.kind = ks) (hl : l.length ≤ 1000) (hs : s.size ≤ maxLen) (w : World) :
    Calls Tryd.prog 18 #[.string s] w fun e w' => ∃ v, e = .returned v ∧ OwnI w.heap.size w' v ks ∧ Below w.heap.size w w' := by
  subst hk; exact lKinds s l w hs h hl
theorem intsYes (l : List Int) (va vb : Value) (n : Nat) (w : World) (hn : n ≤ w.heap.size) (ha : IsInts n w va l) (hb : IsInts n w vb l) :
    Calls Tryd.prog 17 #[va, vb] w fun e w' => e = .returned (.bool true) ∧ Below w.heap.size w w' := by
  have := kInts l l va vb n w hn ha hb
  rwa [decide_eq_true rfl] at this

theorem litA : lexAll ⟨#[97, 32, 42, 32, 45, 50]⟩ = ((lexAll ⟨#[97, 32, 42, 32, 45, 50]⟩).1, 0, 0) ∧ (lexAll ⟨#[97, 32, 42, 32, 45, 50]⟩).1.map Tok.kind = [1, 4, 2, 5] ∧ (lexAll ⟨#[97, 32, 42, 32, 45, 50]⟩).1.length ≤ 1000 := by decide +kernel
theorem litB : lexAll ⟨#[97, 32, 45, 50]⟩ = ((lexAll ⟨#[97, 32, 45, 50]⟩).1, 0, 0) ∧ (lexAll ⟨#[97, 32, 45, 50]⟩).1.map Tok.kind = [1, 4, 2, 5] ∧ (lexAll ⟨#[97, 32, 45, 50]⟩).1.length ≤ 1000 := by decide +kernel

set_option maxRecDepth 100000 in
set_option maxHeartbeats 2000000 in
theorem lLives (w : World) : Calls Tryd.prog 5 #[] w fun e w' => e = .returned (.bool true) ∧ Below w.heap.size w w' := by
  have HA := Lib.hid (fun wx => allLit 13 lit1_eq.1 lit1_eq.2.1 (by unfold maxLen; decide +kernel) wx)
  have HKa := Lib.hid (fun wx => kindsLit _ litA.1 litA.2.1 litA.2.2 (by unfold maxLen; decide +kernel) wx)
  have HKb := Lib.hid (fun wx => kindsLit _ litB.1 litB.2.1 litB.2.2 (by unfold maxLen; decide +kernel) wx)
  unfold lit1 at HA
  have H6 := Lib.hid lit1_eq
  go_enter Tryd.func5, Tryd.ntmps5; (try simp only [List.append_eq, List.cons_append, List.nil_append])
  go_wp2_with (first
    | (go_at_call 8; refine (HA.out _).mono ?_; rintro e w1 ⟨p, cap, rfl, ho, hb⟩; have HT := Lib.hid (ho.toks (Nat.le_refl _)); clear ho; obtain ⟨b, off, rfl, hbn, h1, h2, -⟩ := HT.out.get (k := 6) (by have := H6.out.2.1; unfold lit1 at this; omega); have HB := Lib.hid hb; clear hb)
    | (go_at_call 18; (with_reducible refine (HKa.out _).mono ?_); rintro e w2 ⟨v2, rfl, ho2, hb2⟩; have HO := Lib.hid ho2; clear ho2; have HB := Lib.hid ((HB.out.alloc (by have := HB.out.size; omega) _).trans (hb2.mono (by have := HB.out.size; simp; omega))); clear hb2)
    | (go_at_call 18; (with_reducible refine (HKb.out _).mono ?_); rintro e w3 ⟨v3, rfl, ho2, hb2⟩; have HO := Lib.hid ho2; clear ho2; have HB := Lib.hid (HB.out.trans (hb2.mono (by have := HB.out.size; omega))); clear hb2)
    | (go_at_call 17; refine (intsYes [1, 4, 2, 5] _ _ _ _ (by simp) ((HO.out.ints (Nat.le_refl _)).mono ((Below.refl _ _).alloc (Nat.le_refl _) _) (Nat.le_succ _)) (arr4 _)).mono ?_; rintro e w4 ⟨rfl, hb2⟩; have HB := Lib.hid ((HB.out.alloc (by have := HB.out.size; omega) _).trans (hb2.mono (by have := HB.out.size; simp; omega))); clear hb2))
  go_ret
  exact ⟨rfl, HB.out⟩

end Go.Proofs.YtgjeomcflapmpaaDoor
