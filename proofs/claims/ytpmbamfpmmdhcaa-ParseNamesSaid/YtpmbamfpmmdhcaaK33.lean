/- The reference's lexer: letter, digit, blank, half, Word. -/
import Derived.Test.YtpmbamfpmmdhcaaK12
import Derived.Deep.CutRange
import Derived.Deep.CutBlock
import Derived.Test.YtpmbamfpmmdhcaaK1
import Derived.IntWalk
import Derived.RegionTactic
import Derived.ChangeAlike
import Derived.Deep.RegionHeld3
import Derived.Deep.DeepCutAuto
import Derived.Deep.QuietTactic
import Derived.BigQuiet
import Derived.StillTailTactics
import Derived.Maps.AppendAt
set_option maxRecDepth 100000
set_option maxHeartbeats 16000000
namespace Go.Proofs.Ytpmbamfpmmdhcaa
open Go.RowKit
set_option linter.unusedSimpArgs false
set_option linter.unusedVariables false
theorem blankC_iff (c : UInt8) : blankC c = decide ((c.toNat : Int) = 32 ∨ (c.toNat : Int) = 9 ∨ (c.toNat : Int) = 10 ∨ (c.toNat : Int) = 13) := by
  rw [Bool.eq_iff_iff]
  have h := fun n hn => u8_eq_iff c n hn
  have h32 : (c == 32) = true ↔ (c.toNat : Int) = 32 := by rw [beq_iff_eq]; exact h 32 (by omega)
  have h9 : (c == 9) = true ↔ (c.toNat : Int) = 9 := by rw [beq_iff_eq]; exact h 9 (by omega)
  have h10 : (c == 10) = true ↔ (c.toNat : Int) = 10 := by rw [beq_iff_eq]; exact h 10 (by omega)
  have h13 : (c == 13) = true ↔ (c.toNat : Int) = 13 := by rw [beq_iff_eq]; exact h 13 (by omega)
  simp only [blankC, Bool.or_eq_true, h32, h9, h10, h13, decide_eq_true_eq]
  omega
set_option maxRecDepth 100000
def halfI (c : UInt8) : Int := if hexC c then (hexV c : Int) else -1
def wordS (l : List UInt8) : Bool := headIs letC l && runN wordC l == l.length && decide (l.length ≤ 24)
theorem word_take (l : List UInt8) (h : headIs letC l = true) (h2 : l.all wordC = true) : wordS l = decide (l.length ≤ 24) := by
  unfold wordS
  rw [h]
  have : runN wordC l = l.length := by
    have := runN_eq (p := wordC) (l := l) (n := l.length) (Nat.le_refl _) (by simpa using h2) (by simp [headIs]); exact this
  rw [this]; simp
theorem word_not (l : List UInt8) (k : Nat) (hk : k < l.length) (h : wordC l[k] = false ∨ (k = 0 ∧ letC l[k] = false)) : wordS l = false := by
  unfold wordS
  cases hh : headIs letC l with
  | false => rfl
  | true =>
    have hne : runN wordC l ≠ l.length := by
      intro e; have := runN_all wordC l; rw [e, List.take_of_length_le (Nat.le_refl _), List.all_eq_true] at this; have h1 := this _ (List.getElem_mem hk); rcases h with h | ⟨rfl, h⟩
      · rw [h] at h1; cases h1
      · match l, hk, hh, h with
        | c :: r, _, hh, h => simp [headIs] at hh h; rw [hh] at h; cases h
    simp [hne]
end Go.Proofs.Ytpmbamfpmmdhcaa
namespace Go.Proofs.Ytpmbamfpmmdhcaa
open Go.RowKit
set_option linter.unusedSimpArgs false
set_option linter.unusedVariables false
def txt5 (s : ByteArray) (a : Nat) : Value := match textAt (sl s (a + 1)) with
  | some (x, n) => .tuple #[.string ⟨x.toArray⟩, .int .i64 ((a + 1 + n : Nat) : Int), .bool (decide ((x.length : Int) ≤ 64))]
  | none => .tuple #[.string ⟨#[]⟩, .int .i64 0, .bool false]
theorem txt5_quote {s : ByteArray} {a k : Nat} {l : List UInt8} (h : TxtI s a k l) (hk : k < s.size) (hak : a + 1 ≤ k) (hc : s[k] = 34) : txt5 s a = .tuple #[.string ⟨l.toArray⟩, .int .i64 ((k : Int) + 1), .bool (decide ((l.length : Int) ≤ 64))] := by
  unfold TxtI at h
  rw [sl_cons hk, hc, textAt_quote] at h
  unfold txt5
  rw [h]
  simp
  omega
theorem txt5_none {s : ByteArray} {a k : Nat} {l : List UInt8} (h : TxtI s a k l) (hn : textAt (sl s k) = none) : txt5 s a = .tuple #[.string ⟨#[]⟩, .int .i64 0, .bool false] := by
  unfold TxtI at h
  unfold txt5
  rw [h, hn]; rfl
theorem halfI_yes {c : UInt8} (h : hexC c = true) : halfI c = (hexV c : Int) := by unfold halfI; rw [h]; rfl
theorem halfI_no {c : UInt8} (h : hexC c = false) : halfI c = -1 := by unfold halfI; rw [h]; rfl
theorem hex16 {A B : Nat} (ha : A ≤ 15) (hb : B ≤ 15) : (16 * (A : Int) + (B : Int)) % 256 = ((UInt8.ofNat (16 * A + B)).toNat : Int) := by
  rw [UInt8.toNat_ofNat']; omega
end Go.Proofs.Ytpmbamfpmmdhcaa
namespace Go.Proofs.Ytpmbamfpmmdhcaa
open Go.RowKit
set_option linter.unusedSimpArgs false
set_option linter.unusedVariables false
def NumR (ok : Bool) (v : Int) (w : World) (e : Ending) (w' : World) : Prop := (∃ x : Int, e = .returned (.tuple #[.int .i64 x, .bool ok]) ∧ (ok = true → x = v)) ∧ w = w'
theorem numR_yes {ok : Bool} {v x : Int} {w : World} {e : Ending} (he : e = .returned (.tuple #[.int .i64 x, .bool true])) (hok : ok = true) (hx : x = v) : NumR ok v w e w := by
  subst hok; exact ⟨⟨x, he, fun _ => hx⟩, rfl⟩
theorem numR_no {ok : Bool} {v x : Int} {w : World} {e : Ending} (he : e = .returned (.tuple #[.int .i64 x, .bool false])) (hok : ok = false) : NumR ok v w e w := by
  subst hok; exact ⟨⟨x, he, fun h => Bool.noConfusion h⟩, rfl⟩
theorem dg_range' {c : UInt8} (h : dgC c = true) : 48 ≤ c.toNat ∧ c.toNat ≤ 57 := by
  simp [dgC, UInt8.le_iff_toNat_le] at h; exact h
theorem decV_lt (l : List UInt8) (h : l.all dgC = true) : decV l < 10 ^ l.length := by
  have key : ∀ (r : List UInt8) (n : Nat), r.all dgC = true → r.foldl (fun n c => n * 10 + (c.toNat - 48)) n < (n + 1) * 10 ^ r.length := by
    intro r
    induction r with
    | nil => intro n _; simp
    | cons d r ih =>
      intro n hr; simp only [List.all_cons, Bool.and_eq_true] at hr; obtain ⟨h1, h2⟩ := dg_range' hr.1; refine Nat.lt_of_lt_of_le (ih (n * 10 + (d.toNat - 48)) hr.2) ?_; rw [List.length_cons, Nat.pow_succ, Nat.mul_comm (10 ^ r.length) 10, ← Nat.mul_assoc]; exact Nat.mul_le_mul_right _ (by omega)
  have := key l 0 h
  simpa [decV] using this
theorem decV_ge {c : UInt8} {r : List UInt8} (hc : dgC c = true) (h : c ≠ 48) : 10 ^ r.length ≤ decV (c :: r) := by
  have key : ∀ (r : List UInt8) (n : Nat), 1 ≤ n → n * 10 ^ r.length ≤ r.foldl (fun n c => n * 10 + (c.toNat - 48)) n := by
    intro r
    induction r with
    | nil => intro n _; simp
    | cons d r ih =>
      intro n hn; have := ih (n * 10 + (d.toNat - 48)) (by omega); refine Nat.le_trans ?_ this; rw [List.length_cons, Nat.pow_succ, Nat.mul_comm (10 ^ r.length) 10, ← Nat.mul_assoc]; exact Nat.mul_le_mul_right _ (by omega)
  obtain ⟨h1, h2⟩ := dg_range' hc
  have hne : c.toNat ≠ 48 := fun e => h (UInt8.toNat_inj.1 e)
  have := key r (0 * 10 + (c.toNat - 48)) (by omega)
  refine Nat.le_trans ?_ this
  exact Nat.le_mul_of_pos_left _ (by omega)
end Go.Proofs.Ytpmbamfpmmdhcaa
namespace Go.Proofs.Ytpmbamfpmmdhcaa
open Go.RowKit
set_option linter.unusedSimpArgs false
set_option linter.unusedVariables false
def frI (t : Tok) : Bool := t.kind == 0 || t.free
def OneR (s : ByteArray) (a : Nat) (free : Bool) (w : World) (e : Ending) (w' : World) : Prop :=
  ∃ (k : Int) (x : ByteArray) (v p n : Int) (ok : Bool), e = .returned (.tuple #[.agg #[.int .i64 k, .string x, .int .i64 v, .int .i64 p], .int .i64 (a + n), .bool ok]) ∧ TokIs (tokAt free (sl s a)) a k x v p n ok ∧ Below w.heap.size w w'
end Go.Proofs.Ytpmbamfpmmdhcaa
namespace Go.Proofs.Ytpmbamfpmmdhcaa
open Go.RowKit
set_option linter.unusedSimpArgs false
set_option linter.unusedVariables false
/-! ### signs -/
def signsB : List ByteArray := [⟨#[61, 61]⟩, ⟨#[33, 61]⟩, ⟨#[60, 61]⟩, ⟨#[62, 61]⟩, ⟨#[60]⟩, ⟨#[62]⟩, ⟨#[43]⟩, ⟨#[45]⟩, ⟨#[42]⟩, ⟨#[61]⟩, ⟨#[40]⟩, ⟨#[41]⟩, ⟨#[123]⟩, ⟨#[125]⟩, ⟨#[91]⟩, ⟨#[93]⟩, ⟨#[44]⟩, ⟨#[58]⟩]
theorem belowN {b : Nat} {a w : World} (n : Nat) (h : Below b a w) : Below b a (w.drewN n) := ⟨h.os, h.tape, h.output, h.size, h.block⟩
theorem signsB_small : ∀ x ∈ signsB, 1 ≤ x.size ∧ x.size ≤ 2 := by decide
theorem sign_hit (l : List UInt8) (k : Nat) (hk : k < signsB.length) (h : ∀ j (hj : j < signsB.length), j < k → ¬ signsB[j].data.toList <+: l) (hp : signsB[k].data.toList <+: l) :
    signAt l = some (⟨4, signsB[k].data.toList, 0, 0⟩, signsB[k].size) := by
  obtain ⟨r, rfl⟩ := hp
  have h0 := h 0 (by decide); have h1 := h 1 (by decide); have h2 := h 2 (by decide); have h3 := h 3 (by decide)
  clear h
  have hk18 : k < 18 := hk
  have hc : k = 0 ∨ k = 1 ∨ k = 2 ∨ k = 3 ∨ k = 4 ∨ k = 5 ∨ k = 6 ∨ k = 7 ∨ k = 8 ∨ k = 9 ∨ k = 10 ∨ k = 11 ∨ k = 12 ∨ k = 13 ∨ k = 14 ∨ k = 15 ∨ k = 16 ∨ k = 17 := by omega
  rcases hc with rfl | rfl | rfl | rfl | rfl | rfl | rfl | rfl | rfl | rfl | rfl | rfl | rfl | rfl | rfl | rfl | rfl | rfl
  all_goals first
    | (show signAt (_ :: 61 :: r) = _; rfl)
    | (cases r with
       | nil => rfl
       | cons d r =>
         by_cases hd : d = 61
         · subst hd
           exfalso
           first | exact h0 (by omega) ⟨r, rfl⟩ | exact h2 (by omega) ⟨r, rfl⟩ | exact h3 (by omega) ⟨r, rfl⟩ | exact h1 (by omega) ⟨r, rfl⟩
         · have hb : (d == 61) = false := by simp [hd]
           simp [signAt, signsB, pairC, signC, headIs, hb, ByteArray.size])
    | (simp [signAt, signsB, pairC, signC, ByteArray.size])
theorem sign_miss (l : List UInt8) (h : ∀ j (hj : j < signsB.length), ¬ signsB[j].data.toList <+: l) : signAt l = none := by
  match l with
  | [] => rfl
  | c :: r =>
    have hp : (pairC c && headIs (· == 61) r) = false := by
      cases r with
      | nil => simp [headIs]
      | cons d r =>
        cases hc : pairC c with
        | false => rfl
        | true =>
          cases hd : (d == 61) with
          | false => simp [headIs, hd]
          | true =>
            exfalso
            obtain rfl : d = 61 := by simpa using hd
            simp only [pairC, Bool.or_eq_true, beq_iff_eq] at hc; rcases hc with ((rfl | rfl) | rfl) | rfl
            · exact h 0 (by decide) ⟨r, rfl⟩
            · exact h 1 (by decide) ⟨r, rfl⟩
            · exact h 2 (by decide) ⟨r, rfl⟩
            · exact h 3 (by decide) ⟨r, rfl⟩
    have hs : signC c = false := by
      cases hc : signC c with
      | false => rfl
      | true =>
        exfalso
        simp only [signC, Bool.or_eq_true, beq_iff_eq] at hc; rcases hc with ((((((((((((rfl | rfl) | rfl) | rfl) | rfl) | rfl) | rfl) | rfl) | rfl) | rfl) | rfl) | rfl) | rfl) | rfl
        · exact h 4 (by decide) ⟨r, rfl⟩
        · exact h 5 (by decide) ⟨r, rfl⟩
        · exact h 6 (by decide) ⟨r, rfl⟩
        · exact h 7 (by decide) ⟨r, rfl⟩
        · exact h 8 (by decide) ⟨r, rfl⟩
        · exact h 9 (by decide) ⟨r, rfl⟩
        · exact h 10 (by decide) ⟨r, rfl⟩
        · exact h 11 (by decide) ⟨r, rfl⟩
        · exact h 12 (by decide) ⟨r, rfl⟩
        · exact h 13 (by decide) ⟨r, rfl⟩
        · exact h 14 (by decide) ⟨r, rfl⟩
        · exact h 15 (by decide) ⟨r, rfl⟩
        · exact h 16 (by decide) ⟨r, rfl⟩
        · exact h 17 (by decide) ⟨r, rfl⟩
    simp [signAt, hp, hs]
theorem pref_extract {s x : ByteArray} {a : Nat} (ha : a ≤ s.size) : x.data.toList <+: sl s a ↔ x.size ≤ s.size - a ∧ s.extract a (a + x.size) = x := by
  rw [extract_sl]
  have hxl : x.data.toList.length = x.size := by simp
  constructor
  · intro h
    have hl := h.length_le; rw [hxl, sl_length] at hl; refine ⟨hl, ?_⟩; have := List.prefix_iff_eq_take.1 h; rw [hxl] at this; rw [← this]
  · rintro ⟨h1, h2⟩
    have : x.data.toList = (sl s a).take x.size := by
      conv => lhs; rw [← h2]
    rw [this]; exact List.take_prefix _ _
end Go.Proofs.Ytpmbamfpmmdhcaa
namespace Go.Proofs.Ytpmbamfpmmdhcaa
open Go.RowKit
set_option linter.unusedSimpArgs false
set_option linter.unusedVariables false
theorem ownsRow_setRow {W : World} {base e sz n : Nat} {v : Value} {xs : List Value} (h : W.ownsRow base e sz v n xs) {g : Nat} (hg : g < base) (us : Array Value) : (W.setRow g us).ownsRow base e sz v n xs := by
  refine ⟨h.1, ?_⟩
  rcases h.2 with h | ⟨b, cap, cur, hv, hb, hh, h1, h2, h3, h4⟩
  · exact .inl h
  · exact .inr ⟨b, cap, cur, hv, hb, (setRow_other W g b us (by omega)).trans hh, h1, h2, h3, h4⟩
theorem ownT_setRow {W : World} {base : Nat} {v : Value} {l : List Tok} (h : OwnT base W v l) {g : Nat} (hg : g < base) (us : Array Value) : OwnT base (W.setRow g us) v l := ownsRow_setRow h hg us
theorem tokAt_kindR {free : Bool} {l : List UInt8} {t : Tok} {n : Nat} (h : tokAt free l = some (t, n)) : t.kind ≠ 0 := by
  match l, h with
  | [], h => cases h
  | c :: r, h =>
    simp only [tokAt] at h
    split at h
    · split at h
      · cases h; simp
      · cases h
    · split at h
      · cases hh : textAt r with
        | none => rw [hh] at h; cases h
        | some y =>
          obtain ⟨y, m⟩ := y; rw [hh] at h; simp only at h
          split at h
          · cases h; simp
          · cases h
      · split at h
        · split at h
          · cases h; simp
          · cases h
        · simp only [signAt] at h
          split at h
          · cases h; simp
          · split at h
            · cases h; simp
            · cases h
end Go.Proofs.Ytpmbamfpmmdhcaa
