/- A vector in memory; number.Check, sample.right, sample.CheckVector. -/
import Derived.Test.YtgmdlnobajmjfaaDoorSm1
import Derived.IntWalk
namespace Go.Proofs.YtgmdlnobajmjfaaDoor
open Go.RowKit
set_option linter.unusedSimpArgs false
set_option linter.unusedVariables false

def i64 (x : Int) : Prop := -9223372036854775808 ≤ x ∧ x ≤ 9223372036854775807
/-- A result's three cells. -/
def RsRow (n : Nat) (w : World) (r : Rs) (cs : List Value) : Prop := ∃ p c, cs = [.slice p r.labs.length c, .int .i64 r.n, .bool r.over] ∧ IsLabs n w (.slice p r.labs.length c) r.labs ∧ i64 r.n
theorem RsRow.mono {n m : Nat} {w w' : World} {r : Rs} {cs : List Value} (h : RsRow n w r cs) (hb : Below n w w') (hm : n ≤ m) : RsRow m w' r cs := by
  obtain ⟨p, c, h1, h2, h3⟩ := h
  exact ⟨p, c, h1, h2.mono hb hm, h3⟩
/-- A slice of results. -/
def IsRes (n : Nat) (w : World) (v : Value) (l : List Rs) : Prop := ∃ rows, Arr n w v 3 rows ∧ rows.length = l.length ∧ ∀ (k : Nat) (row : List Value) (r : Rs), rows[k]? = some row → l[k]? = some r → RsRow n w r row
theorem IsRes.mono {n m : Nat} {w w' : World} {v : Value} {l : List Rs} (h : IsRes n w v l) (hb : Below n w w') (hm : n ≤ m) : IsRes m w' v l := by
  obtain ⟨rows, h1, h2, h3⟩ := h
  exact ⟨rows, h1.mono hb hm, h2, fun k row r hr hl => (h3 k row r hr hl).mono hb hm⟩
theorem IsRes.open {n : Nat} {w : World} {v : Value} {l : List Rs} (h : IsRes n w v l) : ∃ p cap, v = .slice p l.length cap ∧ l.length ≤ cap ∧ cap ≤ maxLen := by
  obtain ⟨rows, ⟨p, cap, hv, h1, h2, _⟩, hl, _⟩ := h
  rw [hl] at hv h1
  exact ⟨p, cap, hv, h1, h2⟩
theorem IsRes.get {n : Nat} {w : World} {p : Option Addr} {len cap : Nat} {l : List Rs} (h : IsRes n w (.slice p len cap) l) {k : Nat} {r : Rs} (hk : l[k]? = some r) :
    ∃ b off q c, p = some ⟨b, off, none⟩ ∧ b < n ∧ w.cell? ⟨b, off + k * 3, none⟩ = some (.slice q r.labs.length c) ∧ w.cell? ⟨b, off + k * 3 + 1, none⟩ = some (.int .i64 r.n) ∧ w.cell? ⟨b, off + k * 3 + 2, none⟩ = some (.bool r.over) ∧ IsLabs n w (.slice q r.labs.length c) r.labs ∧ i64 r.n := by
  obtain ⟨rows, h1, h2, h3⟩ := h
  have hkl := (List.getElem?_eq_some_iff.1 hk).1
  obtain ⟨row, hrow⟩ : ∃ row, rows[k]? = some row := ⟨_, List.getElem?_eq_getElem (by omega)⟩
  obtain ⟨q, c, rfl, hL, h6⟩ := h3 k row r hrow hk
  obtain ⟨b, off, hp, hb, hc⟩ := h1.at k _ hrow
  exact ⟨b, off, q, c, hp, hb, by simpa using hc 0 _ rfl, hc 1 _ rfl, hc 2 _ rfl, hL, h6⟩
theorem IsRes.nil (n : Nat) (w : World) : IsRes n w (.slice none 0 0) [] := ⟨[], Arr.nil _ _ _, rfl, fun k row r h => by simp at h⟩

theorem vCheck (x : Int) (o : Bool) (W : World) : Calls Tryd.prog 47 #[.agg #[.int .i64 x, .bool o]] W fun e w' => e = .returned (.int .i64 (if (!(o && decide (x ≠ 0))) = true then 0 else 2)) ∧ Below W.heap.size W w' := by
  cases o with
  | false =>
    go_enter Tryd.func47, Tryd.ntmps47; (try simp only [List.append_eq, List.cons_append, List.nil_append])
    go_wp2
    go_ret
    exact ⟨rfl, (Below.refl _ _).alloc (Nat.le_refl _) _⟩
  | true =>
    by_cases h : x = 0
    · subst h
      go_enter Tryd.func47, Tryd.ntmps47; (try simp only [List.append_eq, List.cons_append, List.nil_append])
      go_wp2
      go_ret
      exact ⟨rfl, (Below.refl _ _).alloc (Nat.le_refl _) _⟩
    · have hx : (x != 0) = true := by simp [h]
      have HE := Lib.hid (show (if (!(true && decide (x ≠ 0))) = true then (0 : Int) else 2) = 2 from by simp [h])
      clear h
      rw [HE.out]
      go_enter Tryd.func47, Tryd.ntmps47; (try simp only [List.append_eq, List.cons_append, List.nil_append])
      go_wp2
      go_ret
      exact ⟨rfl, (Below.refl _ _).alloc (Nat.le_refl _) _⟩
set_option maxHeartbeats 1000000 in
theorem sRight {r : Rs} {p : Option Addr} {c n : Nat} {W : World} (hn : n ≤ W.heap.size) (hl : IsLabs n W (.slice p r.labs.length c) r.labs) :
    Calls Tryd.prog 23 #[.agg #[.slice p r.labs.length c, .int .i64 r.n, .bool r.over]] W fun e w' => e = .returned (.bool (rightR r)) ∧ Below W.heap.size W w' := by
  have HL := Lib.hid hl; have HN := Lib.hid hn
  have HR := Lib.hid (show rightR r = (decide (checkL r.labs = 0) && valB r) from rfl)
  have HV := Lib.hid (show valB r = !(r.over && decide (r.n ≠ 0)) from rfl)
  clear hl hn
  obtain ⟨labs, x, o⟩ := r
  simp only at HL HV ⊢
  obtain ⟨m, hm⟩ : ∃ z, labs.length = z := ⟨_, rfl⟩
  rw [hm] at HL ⊢
  clear hm
  go_enter Tryd.func23, Tryd.ntmps23; (try simp only [List.append_eq, List.cons_append, List.nil_append])
  go_upto_region 1 with fail
  have hb0 := (Below.refl W.heap.size W).alloc (Nat.le_refl _) (.cells #[.slice p m c, .int .i64 x, .bool o] 39)
  have hk := Blk.new W [.slice p m c, .int .i64 x, .bool o] 39
  obtain ⟨g, hg⟩ : ∃ z, W.heap.size = z := ⟨_, rfl⟩
  obtain ⟨X, hX⟩ : ∃ z, W.alloc (.cells #[.slice p m c, .int .i64 x, .bool o] 39) = z := ⟨_, rfl⟩
  rw [show W.alloc (.cells ([.slice p m c, .int .i64 x, .bool o] : List Value).toArray 39) = X from hX] at hk
  rw [hX] at hb0 ⊢
  have HB0 := Lib.hid hb0
  rw [hg] at hk ⊢
  have HK := Lib.hid hk
  clear hX hb0 hk
  have HG := Lib.hid hg
  clear hg
  have e0 := HK.out.cell 0 _ rfl; have e1 := HK.out.cell 1 _ rfl; have e2 := HK.out.cell 2 _ rfl
  have hgx := HK.out.lt
  go_wp2_with fail
  refine (lCheck labs _ n X (Nat.le_trans HN.out HB0.out.size) (HL.out.mono (HB0.out.mono HN.out) (Nat.le_refl _))).mono ?_
  rintro e w1 ⟨rfl, hb1⟩
  have HB1 := Lib.hid (HB0.out.trans (hb1.mono HB0.out.size))
  have HK1 := Lib.hid (HK.out.keep hb1)
  clear hb1 e0 e1 e2 hgx
  obtain ⟨cl, hcl⟩ : ∃ z, checkL labs = z := ⟨_, rfl⟩
  rw [hcl] at HR ⊢
  clear hcl
  have e0 := HK1.out.cell 0 _ rfl; have e1 := HK1.out.cell 1 _ rfl; have e2 := HK1.out.cell 2 _ rfl
  have hgx := HK1.out.lt
  by_cases h1 : cl = 0
  · subst h1
    go_wp2_with fail
    refine (vCheck x o _).mono ?_
    rintro e w2 ⟨rfl, hb2⟩
    have HB2 := Lib.hid (HB1.out.trans (hb2.mono HB1.out.size))
    clear hb2 e0 e1 e2
    have HRV := Lib.hid (show rightR ⟨labs, x, o⟩ = !(o && decide (x ≠ 0)) from by rw [HR.out, HV.out]; simp)
    obtain ⟨bb, hbb⟩ : ∃ z, (!(o && decide (x ≠ 0))) = z := ⟨_, rfl⟩
    rw [hbb] at HRV ⊢
    clear hbb HR HV
    cases bb with
    | true =>
      simp only [if_true]
      go_wp2
      go_ret
      exact ⟨by rw [HRV.out]; rfl, HB2.out⟩
    | false =>
      simp only [Bool.false_eq_true, if_false]
      go_wp2
      go_ret
      exact ⟨by rw [HRV.out]; rfl, HB2.out⟩
  · have hx : (cl == 0) = false := by simp [h1]
    have HZ := Lib.hid h1
    clear h1
    go_wp2
    go_ret
    exact ⟨by rw [HR.out, decide_eq_false HZ.out]; rfl, HB1.out⟩
end Go.Proofs.YtgmdlnobajmjfaaDoor
