/- A vector in memory; number.Check, sample.right, sample.CheckVector. -/
import Derived.Test.YtfmolimnnheaoaaGreatK5
import Derived.Test.YtfmolimnnheaoaaGreatK6
import Derived.IntWalk
import Derived.Test.YtfmolimnnheaoaaGreatK0
import Derived.Test.YtfmolimnnheaoaaGreatK1
namespace Go.Proofs.YtfmolimnnheaoaaGreat
open Go.RowKit
set_option linter.unusedSimpArgs false
set_option linter.unusedVariables false

/-- A result's three cells. -/
def RsRow (n : Nat) (w : World) (r : Rs) (cs : List Value) : Prop := ∃ p c, cs = [.slice p r.labs.length c, .int .i64 r.n, .bool r.over] ∧ IsLabs n w (.slice p r.labs.length c) r.labs ∧ i64 r.n
theorem RsRow.mono {n m : Nat} {w w' : World} {r : Rs} {cs : List Value} (h : RsRow n w r cs) (hb : Below n w w') (hm : n ≤ m) : RsRow m w' r cs := by
  obtain ⟨p, c, h1, h2, h3⟩ := h
  exact ⟨p, c, h1, h2.mono hb hm, h3⟩
/-- A slice of results. -/
def IsRes (n : Nat) (w : World) (v : Value) (l : List Rs) : Prop := ∃ rows, Arr n w v 3 rows ∧ rows.length = l.length ∧ ∀ (k : Nat) (row : List Value) (r : Rs), rows[k]? = some row → l[k]? = some r → RsRow n w r row
theorem IsRes.mono {n m : Nat} {w w' : World} {v : Value} {l : List Rs} (h : IsRes n w v l) (hb : Below n w w') (hm : n ≤ m) : IsRes m w' v l := by
  obtain ⟨rows, h1, h2, h3⟩ := h
  exact ⟨rows, h1.mono hb hm, h2, fun k row r hr hl => (h3 k row r hr hl).mono hb hm⟩
theorem IsRes.open {n : Nat} {w : World} {v : Value} {l : List Rs} (h : IsRes n w v l) : ∃ p cap, v = .slice p l.length cap ∧ l.length ≤ cap ∧ cap ≤ maxLen := by
  obtain ⟨rows, ⟨p, cap, hv, h1, h2, _⟩, hl, _⟩ := h
  rw [hl] at hv h1
  exact ⟨p, cap, hv, h1, h2⟩
theorem IsRes.get {n : Nat} {w : World} {p : Option Addr} {len cap : Nat} {l : List Rs} (h : IsRes n w (.slice p len cap) l) {k : Nat} {r : Rs} (hk : l[k]? = some r) :
    ∃ b off q c, p = some ⟨b, off, none⟩ ∧ b < n ∧ w.cell? ⟨b, off + k * 3, none⟩ = some (.slice q r.labs.length c) ∧ w.cell? ⟨b, off + k * 3 + 1, none⟩ = some (.int .i64 r.n) ∧ w.cell? ⟨b, off + k * 3 + 2, none⟩ = some (.bool r.over) ∧ IsLabs n w (.slice q r.labs.length c) r.labs ∧ i64 r.n := by
  obtain ⟨rows, h1, h2, h3⟩ := h
  have hkl := (List.getElem?_eq_some_iff.1 hk).1
  obtain ⟨row, hrow⟩ : ∃ row, rows[k]? = some row := ⟨_, List.getElem?_eq_getElem (by omega)⟩
  obtain ⟨q, c, rfl, hL, h6⟩ := h3 k row r hrow hk
  obtain ⟨b, off, hp, hb, hc⟩ := h1.at k _ hrow
  exact ⟨b, off, q, c, hp, hb, by simpa using hc 0 _ rfl, hc 1 _ rfl, hc 2 _ rfl, hL, h6⟩
theorem IsRes.nil (n : Nat) (w : World) : IsRes n w (.slice none 0 0) [] := ⟨[], Arr.nil _ _ _, rfl, fun k row r h => by simp at h⟩

theorem vCheck (x : Int) (o : Bool) (W : World) : Calls Tryz.prog 85 #[.agg #[.int .i64 x, .bool o]] W fun e w' => e = .returned (.int .i64 (if (!(o && decide (x ≠ 0))) = true then 0 else 2)) ∧ Below W.heap.size W w' := by
  cases o with
  | false =>
    go_enter Tryz.func85, Tryz.ntmps85; (try simp only [List.append_eq, List.cons_append, List.nil_append])
    go_wp2
    go_ret
    exact ⟨rfl, (Below.refl _ _).alloc (Nat.le_refl _) _⟩
  | true =>
    by_cases h : x = 0
    · subst h
      go_enter Tryz.func85, Tryz.ntmps85; (try simp only [List.append_eq, List.cons_append, List.nil_append])
      go_wp2
      go_ret
      exact ⟨rfl, (Below.refl _ _).alloc (Nat.le_refl _) _⟩
    · have hx : (x != 0) = true := by simp [h]
      have HE := Lib.hid (show (if (!(true && decide (x ≠ 0))) = true then (0 : Int) else 2) = 2 from by simp [h])
      clear h
      rw [HE.out]
      go_enter Tryz.func85, Tryz.ntmps85; (try simp only [List.append_eq, List.cons_append, List.nil_append])
      go_wp2
      go_ret
      exact ⟨rfl, (Below.refl _ _).alloc (Nat.le_refl _) _⟩
set_option maxHeartbeats 1000000 in
theorem sRight {r : Rs} {p : Option Addr} {c n : Nat} {W : World} (hn : n ≤ W.heap.size) (hl : IsLabs n W (.slice p r.labs.length c) r.labs) :
    Calls Tryz.prog 73 #[.agg #[.slice p r.labs.length c, .int .i64 r.n, .bool r.over]] W fun e w' => e = .returned (.bool (rightR r)) ∧ Below W.heap.size W w' := by
  have HL := Lib.hid hl; have HN := Lib.hid hn
  have HR := Lib.hid (show rightR r = (decide (checkL r.labs = 0) && valB r) from rfl)
  have HV := Lib.hid (show valB r = !(r.over && decide (r.n ≠ 0)) from rfl)
  clear hl hn
  obtain ⟨labs, x, o⟩ := r
  simp only at HL HV ⊢
  obtain ⟨m, hm⟩ : ∃ z, labs.length = z := ⟨_, rfl⟩
  rw [hm] at HL ⊢
  clear hm
  go_enter Tryz.func73, Tryz.ntmps73; (try simp only [List.append_eq, List.cons_append, List.nil_append])
  go_upto_region 1 with fail
  have hb0 := (Below.refl W.heap.size W).alloc (Nat.le_refl _) (.cells #[.slice p m c, .int .i64 x, .bool o] 95)
  have hk := Blk.new W [.slice p m c, .int .i64 x, .bool o] 95
  obtain ⟨g, hg⟩ : ∃ z, W.heap.size = z := ⟨_, rfl⟩
  obtain ⟨X, hX⟩ : ∃ z, W.alloc (.cells #[.slice p m c, .int .i64 x, .bool o] 95) = z := ⟨_, rfl⟩
  rw [show W.alloc (.cells ([.slice p m c, .int .i64 x, .bool o] : List Value).toArray 95) = X from hX] at hk
  rw [hX] at hb0 ⊢
  have HB0 := Lib.hid hb0
  rw [hg] at hk ⊢
  have HK := Lib.hid hk
  clear hX hb0 hk
  have HG := Lib.hid hg
  clear hg
  have e0 := HK.out.cell 0 _ rfl; have e1 := HK.out.cell 1 _ rfl; have e2 := HK.out.cell 2 _ rfl
  have hgx := HK.out.lt
  go_wp2_with fail
  refine (lCheck labs _ n X (Nat.le_trans HN.out HB0.out.size) (HL.out.mono (HB0.out.mono HN.out) (Nat.le_refl _))).mono ?_
  rintro e w1 ⟨rfl, hb1⟩
  have HB1 := Lib.hid (HB0.out.trans (hb1.mono HB0.out.size))
  have HK1 := Lib.hid (HK.out.keep hb1)
  clear hb1 e0 e1 e2 hgx
  obtain ⟨cl, hcl⟩ : ∃ z, checkL labs = z := ⟨_, rfl⟩
  rw [hcl] at HR ⊢
  clear hcl
  have e0 := HK1.out.cell 0 _ rfl; have e1 := HK1.out.cell 1 _ rfl; have e2 := HK1.out.cell 2 _ rfl
  have hgx := HK1.out.lt
  by_cases h1 : cl = 0
  · subst h1
    go_wp2_with fail
    refine (vCheck x o _).mono ?_
    rintro e w2 ⟨rfl, hb2⟩
    have HB2 := Lib.hid (HB1.out.trans (hb2.mono HB1.out.size))
    clear hb2 e0 e1 e2
    have HRV := Lib.hid (show rightR ⟨labs, x, o⟩ = !(o && decide (x ≠ 0)) from by rw [HR.out, HV.out]; simp)
    obtain ⟨bb, hbb⟩ : ∃ z, (!(o && decide (x ≠ 0))) = z := ⟨_, rfl⟩
    rw [hbb] at HRV ⊢
    clear hbb HR HV
    cases bb with
    | true =>
      simp only [if_true]
      go_wp2
      go_ret
      exact ⟨by rw [HRV.out]; rfl, HB2.out⟩
    | false =>
      simp only [Bool.false_eq_true, if_false]
      go_wp2
      go_ret
      exact ⟨by rw [HRV.out]; rfl, HB2.out⟩
  · have hx : (cl == 0) = false := by simp [h1]
    have HZ := Lib.hid h1
    clear h1
    go_wp2
    go_ret
    exact ⟨by rw [HR.out, decide_eq_false HZ.out]; rfl, HB1.out⟩
end Go.Proofs.YtfmolimnnheaoaaGreat

/- Vectors and what was told, in memory, whatever else turns. (For SubsScript.) No walk here. -/
namespace Go.Proofs.YtfmolimnnheaoaaGreat
open Go.RowKit
set_option linter.unusedSimpArgs false
set_option linter.unusedVariables false

abbrev GB := Brd (List Rs)
/-- A slice whose elements lie in blocks of which P holds. -/
def ArrP (P : Nat → Prop) (w : World) (v : Value) (sz : Nat) (rows : List (List Value)) : Prop :=
  ∃ p cap, v = .slice p rows.length cap ∧ rows.length ≤ cap ∧ cap ≤ maxLen ∧
    (rows ≠ [] → ∃ b off, p = some ⟨b, off, none⟩ ∧ P b ∧
      ∀ k r, rows[k]? = some r → ∀ j x, r[j]? = some x → w.cell? ⟨b, off + k * sz + j, none⟩ = some x)
theorem ArrP.arr {P : Nat → Prop} {n : Nat} {w : World} {v : Value} {sz : Nat} {rows : List (List Value)} (h : ArrP P w v sz rows) (hP : ∀ k, P k → k < n) : Arr n w v sz rows := by
  obtain ⟨p, cap, hv, h1, h2, h3⟩ := h
  refine ⟨p, cap, hv, h1, h2, fun hne => ?_⟩
  obtain ⟨b, off, hp, hb, hc⟩ := h3 hne
  exact ⟨b, off, hp, hP b hb, hc⟩
theorem Arr.toP {P : Nat → Prop} {n : Nat} {w : World} {v : Value} {sz : Nat} {rows : List (List Value)} (h : Arr n w v sz rows) (hP : ∀ k, k < n → P k) : ArrP P w v sz rows := by
  obtain ⟨p, cap, hv, h1, h2, h3⟩ := h
  refine ⟨p, cap, hv, h1, h2, fun hne => ?_⟩
  obtain ⟨b, off, hp, hb, hc⟩ := h3 hne
  exact ⟨b, off, hp, hP b hb, hc⟩
theorem ArrP.off {P P' : Nat → Prop} {w w' : World} {v : Value} {sz : Nat} {rows : List (List Value)} (h : ArrP P w v sz rows) (hP : ∀ k, P k → P' k ∧ w'.heap[k]? = w.heap[k]?) : ArrP P' w' v sz rows := by
  obtain ⟨p, cap, hv, h1, h2, h3⟩ := h
  refine ⟨p, cap, hv, h1, h2, fun hne => ?_⟩
  obtain ⟨b, off, hp, hb, hc⟩ := h3 hne
  refine ⟨b, off, hp, (hP b hb).1, fun k r hr j x hx => ?_⟩
  have := hc k r hr j x hx
  unfold World.cell? at this ⊢
  rw [(hP b hb).2]; exact this
theorem ArrP.len {P : Nat → Prop} {w : World} {p : Option Addr} {len cap sz : Nat} {rows : List (List Value)} (h : ArrP P w (.slice p len cap) sz rows) : len = rows.length ∧ rows.length ≤ cap ∧ cap ≤ maxLen := by
  obtain ⟨p', cap', hv, h1, h2, _⟩ := h
  cases hv
  exact ⟨rfl, h1, h2⟩
/-- Is a block one of cells of this type? -/
def TyB (W : World) (k t : Nat) : Prop := ∃ cs fr, W.heap[k]? = some (.cells cs t fr)
def MpB (W : World) (k : Nat) : Prop := ∃ es c, W.heap[k]? = some (.map es c)
theorem TyB.ne {W : World} {k k' t t' : Nat} (h : TyB W k t) (h' : TyB W k' t') (hne : t ≠ t') : k ≠ k' := by
  rintro rfl
  obtain ⟨cs, fr, h⟩ := h
  obtain ⟨cs', fr', h'⟩ := h'
  rw [h] at h'
  cases h'
  exact hne rfl
theorem TyB.neM {W : World} {k k' t : Nat} (h : TyB W k t) (h' : MpB W k') : k ≠ k' := by
  rintro rfl
  obtain ⟨cs, fr, h⟩ := h
  obtain ⟨cs', fr', h'⟩ := h'
  rw [h] at h'
  cases h'
theorem TyB.lt {W : World} {k t : Nat} (h : TyB W k t) : k < W.heap.size := by
  obtain ⟨cs, fr, h⟩ := h
  exact (Array.getElem?_eq_some_iff.1 h).1
theorem TyB.same {W W' : World} {k t : Nat} (h : TyB W k t) (e : W'.heap[k]? = W.heap[k]?) : TyB W' k t := by
  obtain ⟨cs, fr, h⟩ := h
  exact ⟨cs, fr, e.trans h⟩
theorem Blk.ty {W : World} {k t : Nat} {cs : List Value} (h : Blk W k t cs) : TyB W k t := ⟨_, _, h⟩
theorem own_ty {W : World} {lo e sz n k : Nat} {v : Value} {xs : List Value} (h : W.ownsRow lo e sz v n xs) (hk : v.ownBlock = some k) : TyB W k e := by
  rcases h.2 with ⟨rfl, _⟩ | ⟨g1, c1, u1, rfl, _, hh, _⟩
  · cases hk
  · simp [Value.ownBlock] at hk
    subst hk
    exact ⟨_, _, hh⟩
theorem own_lo {W : World} {lo e sz n k : Nat} {v : Value} {xs : List Value} (h : W.ownsRow lo e sz v n xs) (hk : v.ownBlock = some k) : lo ≤ k := (ownsRow_block h k hk).1
/-- Blocks of results and labels: nobody writes to them once they are made. -/
def RL (W : World) (k : Nat) : Prop := TyB W k 95 ∨ TyB W k 106
def RdOk (base : Nat) (W : World) (k : Nat) : Prop := (k < base ∧ k < W.heap.size) ∨ RL W k
theorem RdOk.lt {base : Nat} {W : World} {k : Nat} (h : RdOk base W k) : k < W.heap.size := by
  rcases h with h | h | h
  · exact h.2
  · exact h.lt
  · exact h.lt
/-- What may turn. -/
def Quiet (base : Nat) (W : World) (M : Nat → Prop) : Prop := ∀ k, M k → k < W.heap.size → base ≤ k ∧ ¬ RL W k
theorem Quiet.none (base : Nat) (W : World) : Quiet base W (fun _ => False) := fun _ h => h.elim
theorem Quiet.of_ty {base : Nat} {W : World} {M : Nat → Prop} (h : ∀ k, M k → base ≤ k ∧ ((∃ t, TyB W k t ∧ t ≠ 95 ∧ t ≠ 106) ∨ MpB W k)) : Quiet base W M := fun k hk _ => by
  refine ⟨(h k hk).1, fun hr => ?_⟩
  rcases (h k hk).2 with ⟨t, ht, h1, h2⟩ | hm
  · rcases hr with hr | hr
    · exact hr.ne ht (Ne.symm h1) rfl
    · exact hr.ne ht (Ne.symm h2) rfl
  · rcases hr with hr | hr
    · exact hr.neM hm rfl
    · exact hr.neM hm rfl
theorem RdOk.off {base : Nat} {W W' : World} {M : Nat → Prop} (ho : OffM M W W') (hq : Quiet base W M) {k : Nat} (h : RdOk base W k) : RdOk base W' k ∧ W'.heap[k]? = W.heap[k]? := by
  have hk := h.lt
  have hn : ¬ M k := fun hm => by
    have := hq k hm hk
    rcases h with h | h
    · omega
    · exact this.2 h
  have e := ho.block k hk hn
  refine ⟨?_, e⟩
  rcases h with h | h | h
  · exact .inl ⟨h.1, Nat.lt_of_lt_of_le h.2 ho.size⟩
  · exact .inr (.inl (h.same e))
  · exact .inr (.inr (h.same e))

/-- Where labels may lie. -/
def RdL (base : Nat) (W : World) (k : Nat) : Prop := (k < base ∧ k < W.heap.size) ∨ TyB W k 106
theorem RdL.ok {base : Nat} {W : World} {k : Nat} (h : RdL base W k) : RdOk base W k := h.imp id .inr
theorem RdL.off {base : Nat} {W W' : World} {M : Nat → Prop} (ho : OffM M W W') (hq : Quiet base W M) {k : Nat} (h : RdL base W k) : RdL base W' k ∧ W'.heap[k]? = W.heap[k]? := by
  have e := (RdOk.off ho hq h.ok).2
  exact ⟨h.imp (fun h => ⟨h.1, Nat.lt_of_lt_of_le h.2 ho.size⟩) (fun h => h.same e), e⟩
def LabsAt (base : Nat) (W : World) (v : Value) (l : List Lab) : Prop := ArrP (RdL base W) W v 2 (l.map Lab.cells) ∧ ∀ m ∈ l, m.small
def RowAt (base : Nat) (W : World) (x : Rs) (cs : List Value) : Prop := ∃ p c, cs = [.slice p x.labs.length c, .int .i64 x.n, .bool x.over] ∧ LabsAt base W (.slice p x.labs.length c) x.labs ∧ i64 x.n
/-- A vector that nobody turns. -/
def ResAt (base : Nat) (W : World) (v : Value) (l : List Rs) : Prop := ∃ rows, ArrP (RdOk base W) W v 3 rows ∧ rows.length = l.length ∧ ∀ (k : Nat) (row : List Value) (r : Rs), rows[k]? = some row → l[k]? = some r → RowAt base W r row
section
variable {base : Nat} {W W' : World} {M : Nat → Prop}
theorem LabsAt.off {v : Value} {l : List Lab} (h : LabsAt base W v l) (ho : OffM M W W') (hq : Quiet base W M) : LabsAt base W' v l := ⟨h.1.off fun _ hk => RdL.off ho hq hk, h.2⟩
theorem RowAt.off {r : Rs} {cs : List Value} (h : RowAt base W r cs) (ho : OffM M W W') (hq : Quiet base W M) : RowAt base W' r cs := by
  obtain ⟨p, c, h1, h2, h3⟩ := h
  exact ⟨p, c, h1, h2.off ho hq, h3⟩
theorem ResAt.off {v : Value} {l : List Rs} (h : ResAt base W v l) (ho : OffM M W W') (hq : Quiet base W M) : ResAt base W' v l := by
  obtain ⟨rows, h1, h2, h3⟩ := h
  exact ⟨rows, h1.off fun _ hk => RdOk.off ho hq hk, h2, fun k row r a b => (h3 k row r a b).off ho hq⟩
theorem ResAt.keep {v : Value} {l : List Rs} (h : ResAt base W v l) (hb : Below W.heap.size W W') : ResAt base W' v l := h.off (OffM.of (M := fun _ => False) hb) (Quiet.none _ _)
theorem LabsAt.keep {v : Value} {l : List Lab} (h : LabsAt base W v l) (hb : Below W.heap.size W W') : LabsAt base W' v l := h.off (OffM.of (M := fun _ => False) hb) (Quiet.none _ _)
theorem LabsAt.isLabs {v : Value} {l : List Lab} (h : LabsAt base W v l) : IsLabs W.heap.size W v l := ⟨h.1.arr fun _ hk => hk.ok.lt, h.2⟩
theorem RowAt.row {r : Rs} {cs : List Value} (h : RowAt base W r cs) : RsRow W.heap.size W r cs := by
  obtain ⟨p, c, h1, h2, h3⟩ := h
  exact ⟨p, c, h1, h2.isLabs, h3⟩
theorem ResAt.isRes {v : Value} {l : List Rs} (h : ResAt base W v l) : IsRes W.heap.size W v l := by
  obtain ⟨rows, h1, h2, h3⟩ := h
  exact ⟨rows, h1.arr fun _ hk => hk.lt, h2, fun k row r a b => (h3 k row r a b).row⟩
theorem ResAt.of_arg {n : Nat} {v : Value} {l : List Rs} (h : IsRes n W v l) (hn : n ≤ base) (hw : n ≤ W.heap.size) : ResAt base W v l := by
  have hP : ∀ k, k < n → RdOk base W k := fun k hk => .inl ⟨by omega, by omega⟩
  obtain ⟨rows, h1, h2, h3⟩ := h
  refine ⟨rows, h1.toP hP, h2, fun k row r a b => ?_⟩
  obtain ⟨p, c, e1, e2, e3⟩ := h3 k row r a b
  exact ⟨p, c, e1, ⟨e2.1.toP fun k hk => .inl ⟨by omega, by omega⟩, e2.2⟩, e3⟩
theorem ResAt.open {v : Value} {l : List Rs} (h : ResAt base W v l) : ∃ p cap, v = .slice p l.length cap ∧ l.length ≤ cap ∧ cap ≤ maxLen := h.isRes.open
theorem ResAt.one {v : Value} {l : List Rs} (h : ResAt base W v l) : v.oneCell' = true := by
  obtain ⟨p, cap, rfl, -, -⟩ := h.open
  rfl
theorem ResAt.nil : ResAt base W (.slice none 0 0) [] := ⟨[], ⟨none, 0, rfl, Nat.le_refl _, Nat.zero_le _, fun h => (h rfl).elim⟩, rfl, fun k row r h => by simp at h⟩
end
/-! ### what was told -/
abbrev TV := Tl (List Rs) × Value
def tRow (x : TV) : List Value := [.int .i64 x.1.time, x.2]
def ResAll (base : Nat) (W : World) (L : List TV) : Prop := ∀ x ∈ L, ResAt base W x.2 x.1.res
def IsTd (n base : Nat) (W : World) (v : Value) (L : List TV) : Prop := Arr n W v 2 (L.map tRow) ∧ ResAll base W L
def OwnTd (lo base : Nat) (W : World) (v : Value) (L : List TV) : Prop := W.ownsRow lo 34 2 v L.length (L.map tRow).flatten ∧ ResAll base W L
theorem tRow_len (L : List TV) : ∀ r ∈ L.map tRow, r.length = 2 := by
  intro r hr
  obtain ⟨t, -, rfl⟩ := List.mem_map.1 hr
  rfl
theorem tRow_flat (L : List TV) : (L.map tRow).flatten.length = L.length * 2 := by
  induction L with
  | nil => rfl
  | cons t l ih => rw [List.map_cons, List.flatten_cons, List.length_append, ih, List.length_cons]; show 2 + _ = _; omega
section
variable {n base : Nat} {W W' : World} {M : Nat → Prop} {v : Value} {L : List TV}
theorem ResAll.off (h : ResAll base W L) (ho : OffM M W W') (hq : Quiet base W M) : ResAll base W' L := fun x hx => (h x hx).off ho hq
theorem ResAll.keep (h : ResAll base W L) (hb : Below W.heap.size W W') : ResAll base W' L := fun x hx => (h x hx).keep hb
theorem ResAll.nil : ResAll base W [] := fun x hx => by cases hx
theorem tRow_one (h : ResAll base W L) : ∀ u ∈ (L.map tRow).flatten, u.oneCell' = true := by
  intro u hu
  obtain ⟨r, hr, hu⟩ := List.mem_flatten.1 hu
  obtain ⟨t, ht, rfl⟩ := List.mem_map.1 hr
  simp [tRow] at hu
  rcases hu with rfl | rfl
  · rfl
  · exact (h t ht).one
theorem IsTd.keep (h : IsTd n base W v L) (hb : Below W.heap.size W W') (hn : n ≤ W.heap.size) : IsTd n base W' v L := ⟨h.1.mono (hb.mono hn) (Nat.le_refl _), h.2.keep hb⟩
theorem IsTd.more {m : Nat} (h : IsTd n base W v L) (hm : n ≤ m) : IsTd m base W v L := ⟨h.1.mono (Below.refl _ _) hm, h.2⟩
theorem IsTd.off (h : IsTd n base W v L) (hn : n ≤ W.heap.size) (ho : OffM M W W') (hq : Quiet base W M) (hM : ∀ k, v.ownBlock = some k → ¬ M k) : IsTd n base W' v L := ⟨h.1.offM hn ho hM, h.2.off ho hq⟩
theorem IsTd.open (h : IsTd n base W v L) : ∃ p cap, v = .slice p L.length cap ∧ L.length ≤ cap ∧ cap ≤ maxLen := by
  obtain ⟨⟨p, cap, hv, h1, h2, _⟩, _⟩ := h
  simp only [List.length_map] at hv h1
  exact ⟨p, cap, hv, h1, h2⟩
theorem IsTd.get {p : Option Addr} {len cap : Nat} (h : IsTd n base W (.slice p len cap) L) {k : Nat} {x : TV} (hx : L[k]? = some x) :
    ∃ b off, p = some ⟨b, off, none⟩ ∧ b < n ∧ W.cell? ⟨b, off + k * 2, none⟩ = some (.int .i64 x.1.time) ∧ W.cell? ⟨b, off + k * 2 + 1, none⟩ = some x.2 ∧ ResAt base W x.2 x.1.res := by
  obtain ⟨b, off, hp, hb, hc⟩ := Arr.at h.1 k (tRow x) (by rw [List.getElem?_map, hx]; rfl)
  exact ⟨b, off, hp, hb, by simpa using hc 0 _ rfl, hc 1 _ rfl, h.2 x (List.mem_of_getElem? hx)⟩
theorem IsTd.nil : IsTd n base W (.slice none 0 0) [] := ⟨Arr.nil _ _ _, ResAll.nil⟩
theorem OwnTd.nil {lo : Nat} : OwnTd lo base W (.slice none 0 0) [] := ⟨World.ownsRow_nil _ _ _ _, ResAll.nil⟩
theorem OwnTd.keep {lo : Nat} (h : OwnTd lo base W v L) (hb : Below W.heap.size W W') : OwnTd lo base W' v L := ⟨ownsRow_keep h.1 hb, h.2.keep hb⟩
theorem OwnTd.off {lo : Nat} (h : OwnTd lo base W v L) (ho : OffM M W W') (hq : Quiet base W M) (hM : ∀ k, v.ownBlock = some k → ¬ M k) : OwnTd lo base W' v L := ⟨ownsRow_offM h.1 ho hM, h.2.off ho hq⟩
theorem OwnTd.low {lo lo' : Nat} (h : OwnTd lo base W v L) (hl : lo' ≤ lo) : OwnTd lo' base W v L := ⟨ownsRow_base h.1 hl, h.2⟩
theorem OwnTd.isTd {lo m : Nat} (h : OwnTd lo base W v L) (hm : W.heap.size ≤ m) : IsTd m base W v L := by
  refine ⟨?_, h.2⟩
  have h1 := h.1
  rcases h1.2 with ⟨rfl, hl⟩ | ⟨g, cap, cur, rfl, hg, hh, hc1, hc2, hc3, hc4⟩
  · have : L = [] := List.eq_nil_of_length_eq_zero (by omega)
    subst this
    exact Arr.nil _ _ _
  · refine ⟨_, cap, by rw [List.length_map], by simpa using hc1, hc2, fun _ => ⟨g, 0, rfl, ?_, fun k r hr j x hx => ?_⟩⟩
    · have := (Array.getElem?_eq_some_iff.1 hh).1; omega
    · have hcell := World.ownsRow.cells h1 (g := g) rfl (k * 2 + j) x (flatten_at (tRow_len L) hr hx)
      rw [show (⟨g, 0, none⟩ : Addr).add (k * 2 + j) = ⟨g, 0 + k * 2 + j, none⟩ by unfold Addr.add; split <;> simp <;> omega] at hcell
      exact hcell
theorem OwnTd.slice {lo : Nat} (h : OwnTd lo base W v L) : ∃ a c, v = .slice a L.length c := ownsRow_slice h.1
theorem OwnTd.foot_lt {lo k : Nat} (h : OwnTd lo base W v L) (hk : v.ownBlock = some k) : lo ≤ k ∧ k < W.heap.size := ⟨own_lo h.1 hk, (own_ty h.1 hk).lt⟩
/-- A list that is handed on: what it holds. -/
def TdV (base : Nat) (W : World) (v : Value) (l : List (Tl (List Rs))) : Prop := ∃ L, IsTd W.heap.size base W v L ∧ L.map Prod.fst = l
end
/-! ### cutting -/
theorem toldS : Tryz.prog.underlying 37 = some (.slice (Tryz.prog.elem 37)) ∧ Tryz.prog.elem 37 = 34 := ⟨by simp [Program.elem, Tryz.underlying37], by simp [Program.elem, Tryz.underlying37]⟩
/-- l[k:]. -/
theorem cutTd {n base : Nat} {w : World} {v : Value} {L : List TV} (h : IsTd n base w v L) {k : Nat} (hk : k ≤ L.length) :
    ∃ sv, (∀ X : World, (Instr.slice 37 v (some (.int .i64 (k : Int))) none none).run Tryz.prog X = .ok sv X) ∧ IsTd n base w sv (L.drop k) ∧ (∀ j, sv.ownBlock = some j → v.ownBlock = some j) := by
  obtain ⟨p, cap, rfl, hc1, hc2⟩ := h.open
  refine ⟨sliced p k L.length cap 2, fun X => ?_, ⟨?_, fun x hx => h.2 x (List.mem_of_mem_drop hx)⟩, ?_⟩
  · rw [run_slice_l X 37 _ _ _ toldS.1 .i64 _ (by omega) (by omega), toldS.2, Tryz.sizeOf34]
    simp [Result.andThen]
  · unfold sliced
    refine ⟨_, cap - k, by rw [List.length_map, List.length_drop], by rw [List.length_map, List.length_drop]; omega, by omega, fun hne => ?_⟩
    have hlt : k < L.length := by
      rcases Nat.lt_or_ge k L.length with h1 | h1
      · exact h1
      · exact absurd (by rw [List.drop_eq_nil_of_le h1]; rfl) hne
    obtain ⟨p0, c0, hv, _, _, hall⟩ := h.1
    simp only [List.length_map, Value.slice.injEq, true_and] at hv
    obtain ⟨rfl, rfl⟩ := hv
    obtain ⟨b, off, rfl, hb, hcell⟩ := hall (by intro h0; have := congrArg List.length h0; simp at this; subst this; simp at hlt)
    refine ⟨b, off + k * 2, ?_, hb, fun i r hr j x hx => ?_⟩
    · rw [if_neg (by omega)]
      show some (Addr.add _ _) = _
      rw [add_off]
    · rw [List.getElem?_map, List.getElem?_drop] at hr
      have := hcell (k + i) r (by rw [List.getElem?_map]; exact hr) j x hx
      rw [show off + k * 2 + i * 2 + j = off + (k + i) * 2 + j by omega]
      exact this
  · intro j hj
    unfold sliced at hj
    cases p with
    | none => split at hj <;> simp [Value.ownBlock] at hj
    | some a =>
      obtain ⟨b, off, tg⟩ := a
      split at hj
      · simpa [Value.ownBlock] using hj
      · simp only [Option.map_some] at hj
        unfold Addr.add at hj
        split at hj <;> simpa [Value.ownBlock] using hj
theorem IsTd.head {n base : Nat} {w : World} {p : Option Addr} {len cap : Nat} {L : List TV} (h : IsTd n base w (.slice p len cap) L) {k : Nat} (hk : k ≤ L.length) : IsTd n base w (.slice p k cap) (L.take k) := by
  refine ⟨?_, fun x hx => h.2 x (List.mem_of_mem_take hx)⟩
  obtain ⟨p0, c0, hv, h1, h2, h3⟩ := h.1
  simp only [List.length_map, Value.slice.injEq] at hv
  obtain ⟨rfl, rfl, rfl⟩ := hv
  rw [List.length_map] at h1
  refine ⟨p, cap, by rw [List.length_map, List.length_take, Nat.min_eq_left hk], by rw [List.length_map, List.length_take]; omega, h2, fun hne => ?_⟩
  have hl : L ≠ [] := by intro e; subst e; simp at hne
  obtain ⟨b, off, hp, hb, hc⟩ := h3 (by simpa using hl)
  refine ⟨b, off, hp, hb, fun i r hr j y hy => hc i r ?_ j y hy⟩
  rw [List.map_take] at hr
  have hi := (List.getElem?_eq_some_iff.1 hr).1
  rw [List.length_take] at hi
  rwa [List.getElem?_take_of_lt (by omega)] at hr
end Go.Proofs.YtfmolimnnheaoaaGreat

/- Lists of things that lie apart from each other in memory: one turned, one put in, some taken out. (For SubsScript.) No walk here. -/
namespace Go.Proofs.YtfmolimnnheaoaaGreat
open Go.RowKit
set_option linter.unusedSimpArgs false
set_option linter.unusedVariables false

/-- No two share a block. -/
def Apart {α : Type} (F : α → Nat → Prop) (l : List α) : Prop := l.Pairwise fun a b => ∀ k, F a k → ¬ F b k
/-- All stand, apart from each other. -/
structure Fam {α : Type} (Mem : World → α → Prop) (F : α → Nat → Prop) (W : World) (l : List α) : Prop where
  mem : ∀ e ∈ l, Mem W e
  ap : Apart F l
/-- What stands as long as its own blocks do; its blocks are there. -/
structure Stays {α : Type} (base : Nat) (Mem : World → α → Prop) (F : α → Nat → Prop) : Prop where
  off : ∀ W W' M e, Mem W e → OffM M W W' → Quiet base W M → (∀ k, F e k → ¬ M k) → Mem W' e
  lt : ∀ W e k, Mem W e → F e k → k < W.heap.size
section
variable {α : Type} {base : Nat} {Mem : World → α → Prop} {F : α → Nat → Prop} {W W' : World} {M : Nat → Prop} {l : List α}
theorem Apart.at {i j : Nat} {a b : α} (h : Apart F l) (hi : l[i]? = some a) (hj : l[j]? = some b) (hne : i ≠ j) {k : Nat} (ha : F a k) : ¬ F b k := fun hb => by
  obtain ⟨hi1, rfl⟩ := List.getElem?_eq_some_iff.1 hi
  obtain ⟨hj1, rfl⟩ := List.getElem?_eq_some_iff.1 hj
  rcases Nat.lt_or_gt_of_ne hne with h1 | h1
  · exact List.pairwise_iff_getElem.1 h i j hi1 hj1 h1 k ha hb
  · exact List.pairwise_iff_getElem.1 h j i hj1 hi1 h1 k hb ha
theorem Fam.off (hs : Stays base Mem F) (h : Fam Mem F W l) (ho : OffM M W W') (hq : Quiet base W M) (hM : ∀ e ∈ l, ∀ k, F e k → ¬ M k) : Fam Mem F W' l :=
  ⟨fun e he => hs.off _ _ _ _ (h.mem e he) ho hq (hM e he), h.ap⟩
theorem Fam.sub (h : Fam Mem F W l) {l' : List α} (hl : l'.Sublist l) : Fam Mem F W l' := ⟨fun e he => h.mem e (hl.subset he), List.Pairwise.sublist hl h.ap⟩
theorem Fam.nil : Fam Mem F W ([] : List α) := ⟨fun e he => (by cases he), List.Pairwise.nil⟩
/-- One is turned. -/
theorem Fam.set (hs : Stays base Mem F) (h : Fam Mem F W l) {i : Nat} {e e' : α} (hi : l[i]? = some e) (ho : OffM M W W') (hq : Quiet base W M) (hM : ∀ e2 ∈ l, ∀ k, F e2 k → M k → F e k)
    (hm : Mem W' e') (hf : ∀ k, F e' k → F e k ∨ W.heap.size ≤ k) : Fam Mem F W' (l.set i e') := by
  have hil := (List.getElem?_eq_some_iff.1 hi).1
  have old : ∀ j e2, (l.set i e')[j]? = some e2 → j ≠ i → l[j]? = some e2 := fun j e2 hj hne => by
    rw [List.getElem?_set_ne (Ne.symm hne)] at hj; exact hj
  refine ⟨fun e2 he => ?_, List.pairwise_iff_getElem.2 fun a b ha hb hab k h1 h2 => ?_⟩
  · obtain ⟨j, hj, rfl⟩ := List.getElem_of_mem he
    by_cases hji : j = i
    · subst hji; rw [List.getElem_set_self]; exact hm
    · have h2 := old j _ (List.getElem?_eq_getElem hj) hji
      refine hs.off _ _ _ _ (h.mem _ (List.mem_of_getElem? h2)) ho hq fun k hk hmk => ?_
      exact h.ap.at h2 hi hji hk (hM _ (List.mem_of_getElem? h2) k hk hmk)
  · have ha' : a < l.length := by simpa using ha
    have hb' : b < l.length := by simpa using hb
    by_cases hai : a = i
    · subst hai
      rw [List.getElem_set_self] at h1
      rw [List.getElem_set_ne (by omega)] at h2
      rcases hf k h1 with h3 | h3
      · exact h.ap.at hi (List.getElem?_eq_getElem hb') (by omega) h3 h2
      · have := hs.lt _ _ _ (h.mem _ (List.getElem_mem hb')) h2; omega
    · by_cases hbi : b = i
      · subst hbi
        rw [List.getElem_set_self] at h2
        rw [List.getElem_set_ne (by omega)] at h1
        rcases hf k h2 with h3 | h3
        · exact h.ap.at (List.getElem?_eq_getElem ha') hi (by omega) h1 h3
        · have := hs.lt _ _ _ (h.mem _ (List.getElem_mem ha')) h1; omega
      · rw [List.getElem_set_ne (by omega)] at h1 h2
        exact h.ap.at (List.getElem?_eq_getElem ha') (List.getElem?_eq_getElem hb') (by omega) h1 h2
/-- One is put in, in blocks of its own. -/
theorem Fam.ins (hs : Stays base Mem F) (h : Fam Mem F W l) (i : Nat) {e' : α} (ho : OffM M W W') (hq : Quiet base W M) (hM : ∀ e2 ∈ l, ∀ k, F e2 k → ¬ M k)
    (hm : Mem W' e') (hf : ∀ k, F e' k → W.heap.size ≤ k) : Fam Mem F W' (l.take i ++ e' :: l.drop i) := by
  have h' := h.off hs ho hq hM
  have fr : ∀ e2 ∈ l, ∀ k, F e' k → ¬ F e2 k := fun e2 he k h1 h2 => by
    have := hf k h1; have := hs.lt _ _ _ (h.mem e2 he) h2; omega
  refine ⟨fun e2 he => ?_, List.pairwise_append.2 ⟨List.Pairwise.sublist (List.take_sublist _ _) h.ap, List.pairwise_cons.2 ⟨fun b hb k h1 => fr b (List.mem_of_mem_drop hb) k h1, List.Pairwise.sublist (List.drop_sublist _ _) h.ap⟩, fun a ha b hb k h1 h2 => ?_⟩⟩
  · rcases List.mem_append.1 he with he | he
    · exact h'.mem e2 (List.mem_of_mem_take he)
    · rcases List.mem_cons.1 he with rfl | he
      · exact hm
      · exact h'.mem e2 (List.mem_of_mem_drop he)
  · rcases List.mem_cons.1 hb with rfl | hb
    · exact fr a (List.mem_of_mem_take ha) k h2 h1
    · have hp := h.ap
      unfold Apart at hp
      rw [← List.take_append_drop i l, List.pairwise_append] at hp
      exact hp.2.2 a ha b hb k h1 h2
end
/-- All that one has: what may turn, and whose it is then. -/
structure Turn (A : Nat → Prop) (W : World) (B : Nat → Prop) (W' : World) : Prop where
  off : OffM A W W'
  new : ∀ k, B k → A k ∨ W.heap.size ≤ k
theorem Turn.trans {A B C : Nat → Prop} {W W' W'' : World} (h : Turn A W B W') (k : Turn B W' C W'') : Turn A W C W'' :=
  ⟨h.off.trans k.off (fun i hi hb => by rcases h.new i hb with h1 | h1; exact h1; omega), fun i hc => by
    rcases k.new i hc with h1 | h1
    · exact h.new i h1
    · exact .inr (Nat.le_trans h.off.size h1)⟩
theorem Turn.of {A : Nat → Prop} {W W' : World} (hb : Below W.heap.size W W') : Turn A W A W' := ⟨OffM.of hb, fun _ h => .inl h⟩
theorem Turn.refl (A : Nat → Prop) (W : World) : Turn A W A W := Turn.of (Below.refl _ _)
/-! ### what is kept of a query -/
/-- A query: its number, what is kept and where that lies, its last time and floor; its block. -/
structure QE where
  id : Int
  L : List TV
  last : Int
  floor : Int
  blk : Nat
  kv : Value
def QE.qy (e : QE) : Qy (List Rs) := ⟨e.id, e.L.map Prod.fst, e.last, e.floor⟩
structure SE where
  s : Su
  blk : Nat
def queryV (e : QE) : List Value := [e.kv, .int .i64 e.last, .int .i64 e.floor]
def subV (s : Su) : List Value := [.int .i64 s.id, .int .i64 s.query, .int .i64 s.cursor, .int .i64 s.acked]
/-- Few results, few labels: what was checked. -/
def TOk (t : Tl (List Rs)) : Prop := t.res.length ≤ 4096 ∧ ∀ r ∈ t.res, r.labs.length ≤ 8
def QMem (base : Nat) (W : World) (e : QE) : Prop := (Blk W e.blk 64 (queryV e) ∧ base ≤ e.blk) ∧ OwnTd base base W e.kv e.L ∧ ∀ x ∈ e.L, TOk x.1
def QFoot (e : QE) (k : Nat) : Prop := k = e.blk ∨ e.kv.ownBlock = some k
def SMem (base : Nat) (W : World) (e : SE) : Prop := Blk W e.blk 73 (subV e.s) ∧ base ≤ e.blk
def SFoot (e : SE) (k : Nat) : Prop := k = e.blk
theorem checkV_few {l : List Rs} {t : Int} (h : checkV l = 0) : TOk ⟨t, l⟩ := by
  unfold checkV at h
  by_cases h1 : 4096 < l.length
  · rw [if_pos h1] at h; omega
  · rw [if_neg h1] at h
    by_cases h2 : upto (okAt l) l.length = true
    · refine ⟨Nat.le_of_not_lt h1, fun r hr => ?_⟩
      obtain ⟨k, hk, rfl⟩ := List.getElem_of_mem hr
      have h3 := upto_iff.1 h2 k hk
      unfold okAt at h3
      rw [List.getElem?_eq_getElem hk] at h3
      simp only [Bool.and_eq_true] at h3
      have h4 := h3.1
      unfold rightR at h4
      simp only [Bool.and_eq_true, decide_eq_true_eq] at h4
      have h5 := h4.1
      unfold checkL at h5
      by_cases h6 : 8 < l[k].labs.length
      · rw [if_pos h6] at h5; omega
      · exact Nat.le_of_not_lt h6
    · rw [if_neg h2] at h; omega
theorem qStays (base : Nat) : Stays base (QMem base) QFoot where
  off := fun W W' M e h ho hq hM => ⟨⟨(ho.block _ h.1.1.lt (hM _ (.inl rfl))).trans h.1.1, h.1.2⟩, h.2.1.off ho hq (fun k hk => hM k (.inr hk)), h.2.2⟩
  lt := fun W e k h hk => by
    rcases hk with rfl | hk
    · exact h.1.1.lt
    · exact (h.2.1.foot_lt hk).2
theorem sStays (base : Nat) : Stays base (SMem base) SFoot where
  off := fun W W' M e h ho hq hM => ⟨(ho.block _ h.1.lt (hM _ rfl)).trans h.1, h.2⟩
  lt := fun W e k h hk => by cases hk; exact h.1.lt
theorem QMem.ty {base : Nat} {W : World} {e : QE} (h : QMem base W e) {k : Nat} (hk : QFoot e k) : base ≤ k ∧ (TyB W k 64 ∨ TyB W k 34) := by
  rcases hk with rfl | hk
  · exact ⟨h.1.2, .inl h.1.1.ty⟩
  · exact ⟨own_lo h.2.1.1 hk, .inr (own_ty h.2.1.1 hk)⟩
theorem SMem.ty {base : Nat} {W : World} {e : SE} (h : SMem base W e) {k : Nat} (hk : SFoot e k) : base ≤ k ∧ TyB W k 73 := by
  cases hk
  exact ⟨h.2, h.1.ty⟩
end Go.Proofs.YtfmolimnnheaoaaGreat

/- slices.Clone at told rows, at results, at labels. Printed by wip/gen_hb0.py. -/
namespace Go.Proofs.YtfmolimnnheaoaaGreat
open Go.RowKit
set_option linter.unusedSimpArgs false
set_option linter.unusedVariables false

theorem infoTd : (Tryz.prog.info? 34).map (fun i => (i.zero, i.size, i.bytes)) = some (some (.agg #[.int .i64 0, .slice none 0 0]), 2, 32) := by kernel_rfl
set_option maxRecDepth 100000 in
set_option maxHeartbeats 1000000 in
theorem cloneTd {rows : List (List Value)} {v : Value} {n : Nat} {w : World} (hn : n ≤ w.heap.size) (hA : Arr n w v 2 rows) (h3 : ∀ r ∈ rows, r.length = 2) (h1 : ∀ u ∈ rows.flatten, u.oneCell' = true) (hl : rows.length ≤ 1000000) :
    Calls Tryz.prog 67 #[v] w fun e' w' => ∃ v', e' = .returned v' ∧ w'.ownsRow w.heap.size 34 2 v' rows.length rows.flatten ∧ Below w.heap.size w w' := by
  obtain ⟨i0, hi, hz0, hz1, hz2⟩ := info_parts infoTd
  obtain ⟨p, cap, hv, hc1, hc2, hc3⟩ := id hA
  subst hv
  have HA := Lib.hid hA; have H1 := Lib.hid h1
  clear h1
  cases p with
  | none =>
    have hz : rows = [] := by
      cases rows with
      | nil => rfl
      | cons r rows =>
        obtain ⟨b, off, hp, _⟩ := hc3 (by simp)
        cases hp
    subst hz
    clear hc3 h3 hA HA
    have hnil : ∀ w, (binOp .eql 37 (.slice none 0 cap) (.slice none 0 0)).run Tryz.prog w = .ok (.bool true) w := fun w => Lib.run_eql_slice_nil (P := Tryz.prog) w 37 _ none 0 cap 0 0 Tryz.underlying37
    simp only [List.length_nil]
    go_enter Tryz.func67, Tryz.ntmps67; (try simp only [List.append_eq, List.cons_append, List.nil_append])
    go_wp2
    go_ret
    exact ⟨_, rfl, World.ownsRow_nil _ _ _ _, Below.refl _ _⟩
  | some ad =>
    obtain ⟨N, hN⟩ : ∃ z, rows.length = z := ⟨_, rfl⟩
    have hs0 := Src.of_arr (rows := rows) (c := cap) (p := some ad) (n := w.heap.size + 1) (w := w.alloc (.cells #[] 34)) (Arr.mono hA ((Below.refl _ _).alloc hn _) (by omega)) h3 (by decide) (by simp)
    rw [hN] at hs0 hl ⊢
    have HS := Lib.hid hs0
    have hnil : ∀ w, (binOp .eql 37 (.slice (some ad) N cap) (.slice none 0 0)).run Tryz.prog w = .ok (.bool false) w := fun w => Lib.run_eql_slice_nil (P := Tryz.prog) w 37 _ (some ad) N cap 0 0 Tryz.underlying37
    clear hs0 hc3 h3 hA HA hN hc1
    go_enter Tryz.func67, Tryz.ntmps67; (try simp only [List.append_eq, List.cons_append, List.nil_append])
    go_wp2_with (at_builtin; refine wpList_append_src _ rfl _ _ _ rfl w.heap.size 34 i0 _ 2 32 Tryz.underlying37 hi hz0 hz1 hz2 rfl (by decide) (.slice (some ⟨w.heap.size, 0, none⟩) 0 0) 0 [] rfl ⟨rfl, .inr ⟨_, 0, #[], rfl, Nat.le_refl _, World.alloc_heap_new w _, Nat.le_refl _, Nat.zero_le _, rfl, rfl⟩⟩ _ N rows.flatten rfl HS.out H1.out (by unfold maxLen; omega) (by omega) (by simp) ?_; intro v3 w3 hown3 hgr3 _)
    go_ret
    refine ⟨_, rfl, ?_, ((Below.refl _ _).alloc (Nat.le_refl _) _).grown hgr3 (by simp) (by simp [Value.ownBlock])⟩
    simpa using hown3
theorem infoRs : (Tryz.prog.info? 95).map (fun i => (i.zero, i.size, i.bytes)) = some (some (.agg #[.slice none 0 0, .int .i64 0, .bool false]), 3, 40) := by kernel_rfl
set_option maxRecDepth 100000 in
set_option maxHeartbeats 1000000 in
theorem cloneRs {rows : List (List Value)} {v : Value} {n : Nat} {w : World} (hn : n ≤ w.heap.size) (hA : Arr n w v 3 rows) (h3 : ∀ r ∈ rows, r.length = 3) (h1 : ∀ u ∈ rows.flatten, u.oneCell' = true) (hl : rows.length ≤ 1000000) :
    Calls Tryz.prog 71 #[v] w fun e' w' => ∃ v', e' = .returned v' ∧ w'.ownsRow w.heap.size 95 3 v' rows.length rows.flatten ∧ Below w.heap.size w w' := by
  obtain ⟨i0, hi, hz0, hz1, hz2⟩ := info_parts infoRs
  obtain ⟨p, cap, hv, hc1, hc2, hc3⟩ := id hA
  subst hv
  have HA := Lib.hid hA; have H1 := Lib.hid h1
  clear h1
  cases p with
  | none =>
    have hz : rows = [] := by
      cases rows with
      | nil => rfl
      | cons r rows =>
        obtain ⟨b, off, hp, _⟩ := hc3 (by simp)
        cases hp
    subst hz
    clear hc3 h3 hA HA
    have hnil : ∀ w, (binOp .eql 32 (.slice none 0 cap) (.slice none 0 0)).run Tryz.prog w = .ok (.bool true) w := fun w => Lib.run_eql_slice_nil (P := Tryz.prog) w 32 _ none 0 cap 0 0 Tryz.underlying32
    simp only [List.length_nil]
    go_enter Tryz.func71, Tryz.ntmps71; (try simp only [List.append_eq, List.cons_append, List.nil_append])
    go_wp2
    go_ret
    exact ⟨_, rfl, World.ownsRow_nil _ _ _ _, Below.refl _ _⟩
  | some ad =>
    obtain ⟨N, hN⟩ : ∃ z, rows.length = z := ⟨_, rfl⟩
    have hs0 := Src.of_arr (rows := rows) (c := cap) (p := some ad) (n := w.heap.size + 1) (w := w.alloc (.cells #[] 95)) (Arr.mono hA ((Below.refl _ _).alloc hn _) (by omega)) h3 (by decide) (by simp)
    rw [hN] at hs0 hl ⊢
    have HS := Lib.hid hs0
    have hnil : ∀ w, (binOp .eql 32 (.slice (some ad) N cap) (.slice none 0 0)).run Tryz.prog w = .ok (.bool false) w := fun w => Lib.run_eql_slice_nil (P := Tryz.prog) w 32 _ (some ad) N cap 0 0 Tryz.underlying32
    clear hs0 hc3 h3 hA HA hN hc1
    go_enter Tryz.func71, Tryz.ntmps71; (try simp only [List.append_eq, List.cons_append, List.nil_append])
    go_wp2_with (at_builtin; refine wpList_append_src _ rfl _ _ _ rfl w.heap.size 95 i0 _ 3 40 Tryz.underlying32 hi hz0 hz1 hz2 rfl (by decide) (.slice (some ⟨w.heap.size, 0, none⟩) 0 0) 0 [] rfl ⟨rfl, .inr ⟨_, 0, #[], rfl, Nat.le_refl _, World.alloc_heap_new w _, Nat.le_refl _, Nat.zero_le _, rfl, rfl⟩⟩ _ N rows.flatten rfl HS.out H1.out (by unfold maxLen; omega) (by omega) (by simp) ?_; intro v3 w3 hown3 hgr3 _)
    go_ret
    refine ⟨_, rfl, ?_, ((Below.refl _ _).alloc (Nat.le_refl _) _).grown hgr3 (by simp) (by simp [Value.ownBlock])⟩
    simpa using hown3
theorem infoLb : (Tryz.prog.info? 106).map (fun i => (i.zero, i.size, i.bytes)) = some (some (.agg #[.string ⟨#[]⟩, .string ⟨#[]⟩]), 2, 32) := by kernel_rfl
set_option maxRecDepth 100000 in
set_option maxHeartbeats 1000000 in
theorem cloneLb {rows : List (List Value)} {v : Value} {n : Nat} {w : World} (hn : n ≤ w.heap.size) (hA : Arr n w v 2 rows) (h3 : ∀ r ∈ rows, r.length = 2) (h1 : ∀ u ∈ rows.flatten, u.oneCell' = true) (hl : rows.length ≤ 1000000) :
    Calls Tryz.prog 72 #[v] w fun e' w' => ∃ v', e' = .returned v' ∧ w'.ownsRow w.heap.size 106 2 v' rows.length rows.flatten ∧ Below w.heap.size w w' := by
  obtain ⟨i0, hi, hz0, hz1, hz2⟩ := info_parts infoLb
  obtain ⟨p, cap, hv, hc1, hc2, hc3⟩ := id hA
  subst hv
  have HA := Lib.hid hA; have H1 := Lib.hid h1
  clear h1
  cases p with
  | none =>
    have hz : rows = [] := by
      cases rows with
      | nil => rfl
      | cons r rows =>
        obtain ⟨b, off, hp, _⟩ := hc3 (by simp)
        cases hp
    subst hz
    clear hc3 h3 hA HA
    have hnil : ∀ w, (binOp .eql 91 (.slice none 0 cap) (.slice none 0 0)).run Tryz.prog w = .ok (.bool true) w := fun w => Lib.run_eql_slice_nil (P := Tryz.prog) w 91 _ none 0 cap 0 0 Tryz.underlying91
    simp only [List.length_nil]
    go_enter Tryz.func72, Tryz.ntmps72; (try simp only [List.append_eq, List.cons_append, List.nil_append])
    go_wp2
    go_ret
    exact ⟨_, rfl, World.ownsRow_nil _ _ _ _, Below.refl _ _⟩
  | some ad =>
    obtain ⟨N, hN⟩ : ∃ z, rows.length = z := ⟨_, rfl⟩
    have hs0 := Src.of_arr (rows := rows) (c := cap) (p := some ad) (n := w.heap.size + 1) (w := w.alloc (.cells #[] 106)) (Arr.mono hA ((Below.refl _ _).alloc hn _) (by omega)) h3 (by decide) (by simp)
    rw [hN] at hs0 hl ⊢
    have HS := Lib.hid hs0
    have hnil : ∀ w, (binOp .eql 91 (.slice (some ad) N cap) (.slice none 0 0)).run Tryz.prog w = .ok (.bool false) w := fun w => Lib.run_eql_slice_nil (P := Tryz.prog) w 91 _ (some ad) N cap 0 0 Tryz.underlying91
    clear hs0 hc3 h3 hA HA hN hc1
    go_enter Tryz.func72, Tryz.ntmps72; (try simp only [List.append_eq, List.cons_append, List.nil_append])
    go_wp2_with (at_builtin; refine wpList_append_src _ rfl _ _ _ rfl w.heap.size 106 i0 _ 2 32 Tryz.underlying91 hi hz0 hz1 hz2 rfl (by decide) (.slice (some ⟨w.heap.size, 0, none⟩) 0 0) 0 [] rfl ⟨rfl, .inr ⟨_, 0, #[], rfl, Nat.le_refl _, World.alloc_heap_new w _, Nat.le_refl _, Nat.zero_le _, rfl, rfl⟩⟩ _ N rows.flatten rfl HS.out H1.out (by unfold maxLen; omega) (by omega) (by simp) ?_; intro v3 w3 hown3 hgr3 _)
    go_ret
    refine ⟨_, rfl, ?_, ((Below.refl _ _).alloc (Nat.le_refl _) _).grown hgr3 (by simp) (by simp [Value.ownBlock])⟩
    simpa using hown3
end Go.Proofs.YtfmolimnnheaoaaGreat

/- Copies of results: rows whose labels are laid anew, one after the other. No walk here. -/
namespace Go.Proofs.YtfmolimnnheaoaaGreat
open Go.RowKit
set_option linter.unusedSimpArgs false
set_option linter.unusedVariables false

theorem flat_set {sz : Nat} (u : Value) {j : Nat} (hj : j < sz) : ∀ {rows : List (List Value)} {k : Nat} {row : List Value}, (∀ r ∈ rows, r.length = sz) → rows[k]? = some row → rows.flatten.set (k * sz + j) u = (rows.set k (row.set j u)).flatten
  | [], k, row, _, h => by simp at h
  | r :: rows, 0, row, hr, h => by
    simp at h; subst h
    have := hr r (by simp)
    rw [List.set_cons_zero, List.flatten_cons, List.flatten_cons, Nat.zero_mul, Nat.zero_add, List.set_append_left _ _ (by omega)]
  | r :: rows, k + 1, row, hr, h => by
    have h1 := hr r (by simp)
    have h2 := flat_set u hj (rows := rows) (k := k) (row := row) (fun x hx => hr x (by simp [hx])) (by simpa using h)
    rw [List.set_cons_succ, List.flatten_cons, List.flatten_cons, ← h2, List.set_append_right _ _ (by rw [h1, Nat.succ_mul]; omega), h1]
    congr 2
    rw [Nat.succ_mul]; omega
/-- What a block of the call's own holds, row by row. -/
theorem own_arrP {w : World} {lo e sz n : Nat} {v : Value} {rows : List (List Value)} (h : w.ownsRow lo e sz v n rows.flatten) (hl : rows.length = n) (hr : ∀ r ∈ rows, r.length = sz) : ArrP (fun k => TyB w k e) w v sz rows := by
  subst hl
  have h1 := h
  rcases h1.2 with ⟨rfl, hl⟩ | ⟨g, cap, cur, rfl, hg, hh, hc1, hc2, hc3, hc4⟩
  · have : rows = [] := List.eq_nil_of_length_eq_zero (by omega)
    subst this
    exact ⟨none, 0, rfl, Nat.le_refl _, Nat.zero_le _, fun h => (h rfl).elim⟩
  · refine ⟨_, cap, rfl, hc1, hc2, fun _ => ⟨g, 0, rfl, ⟨_, _, hh⟩, fun k r hr' j x hx => ?_⟩⟩
    have hcell := World.ownsRow.cells h (g := g) rfl (k * sz + j) x (flatten_at hr hr' hx)
    rw [show (⟨g, 0, none⟩ : Addr).add (k * sz + j) = ⟨g, 0 + k * sz + j, none⟩ by unfold Addr.add; split <;> simp <;> omega] at hcell
    exact hcell
theorem own_quiet {base lo e sz n : Nat} {w : World} {v : Value} {xs : List Value} (h : w.ownsRow lo e sz v n xs) (hb : base ≤ lo) (h1 : e ≠ 95) (h2 : e ≠ 106) : Quiet base w (fun k => v.ownBlock = some k) := fun k hk _ => by
  refine ⟨Nat.le_trans hb (own_lo h hk), fun hr => ?_⟩
  rcases hr with hr | hr
  · exact hr.ne (own_ty h hk) (Ne.symm h1) rfl
  · exact hr.ne (own_ty h hk) (Ne.symm h2) rfl
/-- Rows of results in a block of the call's own. -/
def DeepR (base lo : Nat) (w : World) (v : Value) (l : List Rs) : Prop :=
  ∃ rows : List (List Value), rows.length = l.length ∧ w.ownsRow lo 95 3 v l.length rows.flatten ∧ ∀ (j : Nat) (row : List Value) (r : Rs), rows[j]? = some row → l[j]? = some r → RowAt base w r row
section
variable {base lo k : Nat} {w w' : World} {v : Value} {l : List Rs}
theorem rowAt_len {r : Rs} {row : List Value} (h : RowAt base w r row) : row.length = 3 := by
  obtain ⟨p, c, rfl, -, -⟩ := h
  rfl
theorem rowAt_one {r : Rs} {row : List Value} (h : RowAt base w r row) : ∀ u ∈ row, u.oneCell' = true := by
  obtain ⟨p, c, rfl, -, -⟩ := h
  intro u hu
  simp at hu
  rcases hu with rfl | rfl | rfl <;> rfl
theorem deep_mem {rows : List (List Value)} (hl : rows.length = l.length) (h : ∀ (j : Nat) (row : List Value) (r : Rs), rows[j]? = some row → l[j]? = some r → RowAt base w r row) : ∀ r ∈ rows, ∃ x, RowAt base w x r := by
  intro r hr
  obtain ⟨j, hj, rfl⟩ := List.getElem_of_mem hr
  exact ⟨_, h j _ _ (List.getElem?_eq_getElem hj) (List.getElem?_eq_getElem (by omega))⟩
theorem deep_len {rows : List (List Value)} (hl : rows.length = l.length) (h : ∀ (j : Nat) (row : List Value) (r : Rs), rows[j]? = some row → l[j]? = some r → RowAt base w r row) : ∀ r ∈ rows, r.length = 3 := fun r hr => rowAt_len (deep_mem hl h r hr).choose_spec
theorem DeepR.keep (h : DeepR base lo w v l) (hb : Below w.heap.size w w') : DeepR base lo w' v l := by
  obtain ⟨rows, h1, h2, h3⟩ := h
  exact ⟨rows, h1, ownsRow_keep h2 hb, fun j row r a b => (h3 j row r a b).off (OffM.of (M := fun _ => False) hb) (Quiet.none _ _)⟩
/-- Another block turns, one of another type. -/
theorem DeepR.far (h : DeepR base lo w v l) {g t : Nat} (ht : TyB w g t) (hg : base ≤ g) (h1 : t ≠ 95) (h2 : t ≠ 106) (i : Nat) (u : Value) : DeepR base lo (w.setCell ⟨g, i, none⟩ u) v l := by
  obtain ⟨rows, e1, e2, e3⟩ := h
  have hq : Quiet base w (fun k => k = g) := Quiet.of_ty fun k hk => by subst hk; exact ⟨hg, .inl ⟨t, ht, h1, h2⟩⟩
  refine ⟨rows, e1, ownsRow_offM e2 (OffM.cell1 w g i u) fun k hk hkg => ?_, fun j row r a b => (e3 j row r a b).off (OffM.cell1 w g i u) hq⟩
  subst hkg; exact ht.ne (own_ty e2 hk) h1 rfl
theorem DeepR.slice (h : DeepR base lo w v l) : ∃ a c, v = .slice a l.length c := by
  obtain ⟨rows, h1, h2, h3⟩ := h
  exact ownsRow_slice h2
theorem DeepR.get {p : Option Addr} {len cap : Nat} (h : DeepR base lo w (.slice p len cap) l) {r : Rs} (hr : l[k]? = some r) :
    ∃ g off q c, p = some ⟨g, off, none⟩ ∧ off = 0 ∧ g < w.heap.size ∧ w.cell? ⟨g, off + k * 3, none⟩ = some (.slice q r.labs.length c) ∧ w.cell? ⟨g, off + k * 3 + 1, none⟩ = some (.int .i64 r.n) ∧ w.cell? ⟨g, off + k * 3 + 2, none⟩ = some (.bool r.over) ∧ LabsAt base w (.slice q r.labs.length c) r.labs ∧ i64 r.n ∧ (∀ j, w.frozen? ⟨g, j, none⟩ = false) ∧ TyB w g 95 ∧ lo ≤ g := by
  obtain ⟨rows, h1, h2, h3⟩ := h
  have hkl := (List.getElem?_eq_some_iff.1 hr).1
  obtain ⟨row, hrow⟩ : ∃ row, rows[k]? = some row := ⟨_, List.getElem?_eq_getElem (by omega)⟩
  obtain ⟨q, c, rfl, hL, hi⟩ := h3 k row r hrow hr
  rcases h2.2 with ⟨hv, hl⟩ | ⟨g, cap', cur, hv, hg, hh, hc1, hc2, hc3, hc4⟩
  · omega
  · cases hv
    have hcell : ∀ j x, ([.slice q r.labs.length c, .int .i64 r.n, .bool r.over] : List Value)[j]? = some x → w.cell? ⟨g, 0 + k * 3 + j, none⟩ = some x := fun j x hx => by
      have := World.ownsRow.cells h2 (g := g) rfl (k * 3 + j) x (flatten_at (deep_len h1 h3) hrow hx)
      rw [show (⟨g, 0, none⟩ : Addr).add (k * 3 + j) = ⟨g, 0 + k * 3 + j, none⟩ by unfold Addr.add; split <;> simp <;> omega] at this
      exact this
    exact ⟨g, 0, q, c, rfl, rfl, (Array.getElem?_eq_some_iff.1 hh).1, hcell 0 _ rfl, hcell 1 _ rfl, hcell 2 _ rfl, hL, hi, fun j => h2.frozenAt j, ⟨_, _, hh⟩, hg⟩
/-- One more row has its labels laid anew. -/
theorem DeepR.step {g cap off : Nat} (hoff : off = 0) (hb : base ≤ lo) (h : DeepR base lo w (.slice (some ⟨g, off, none⟩) l.length cap) l) {r : Rs} (hr : l[k]? = some r) {q : Option Addr} {c : Nat} (hL : LabsAt base w (.slice q r.labs.length c) r.labs) (hi : i64 r.n) :
    DeepR base lo (w.setCell ⟨g, off + k * 3, none⟩ (.slice q r.labs.length c)) (.slice (some ⟨g, off, none⟩) l.length cap) l := by
  subst hoff
  rw [Nat.zero_add]
  obtain ⟨rows, h1, h2, h3⟩ := h
  have hkl := (List.getElem?_eq_some_iff.1 hr).1
  obtain ⟨row, hrow⟩ : ∃ row, rows[k]? = some row := ⟨_, List.getElem?_eq_getElem (by omega)⟩
  obtain ⟨q0, c0, rfl, hL0, hi0⟩ := h3 k row r hrow hr
  have hty : TyB w g 95 := own_ty h2 rfl
  have hlo : lo ≤ g := own_lo h2 rfl
  have keepL : ∀ {v1 l1}, LabsAt base w v1 l1 → LabsAt base (w.setCell ⟨g, k * 3, none⟩ (.slice q r.labs.length c)) v1 l1 := fun h => ⟨h.1.off fun j hj => by
    have hne : j ≠ g := by
      rcases hj with hj | hj
      · omega
      · exact hj.ne hty (by decide)
    have e := Below.heap_setCell w ⟨g, k * 3, none⟩ (.slice q r.labs.length c) j hne
    exact ⟨hj.imp (fun h => ⟨h.1, by unfold World.setCell; simpa using h.2⟩) (fun h => h.same e), e⟩, h.2⟩
  have keep : ∀ {r1 row}, RowAt base w r1 row → RowAt base (w.setCell ⟨g, k * 3, none⟩ (.slice q r.labs.length c)) r1 row := fun h => by
    obtain ⟨p, c, e1, e2, e3⟩ := h
    exact ⟨p, c, e1, keepL e2, e3⟩
  refine ⟨rows.set k [.slice q r.labs.length c, .int .i64 r.n, .bool r.over], by rw [List.length_set, h1], ?_, fun j row r1 a b => ?_⟩
  · have := (h2.stored (k * 3) (.slice q r.labs.length c)).1
    have e := flat_set (.slice q r.labs.length c) (j := 0) (sz := 3) (by decide) (deep_len h1 h3) hrow
    rw [Nat.add_zero] at e
    rw [e] at this
    exact this
  · by_cases hjk : j = k
    · subst hjk
      rw [List.getElem?_set_self (by omega)] at a
      cases a
      rw [hr] at b; cases b
      exact ⟨q, c, rfl, keepL hL, hi⟩
    · rw [List.getElem?_set_ne (Ne.symm hjk)] at a
      exact keep (h3 j row r1 a b)
theorem DeepR.res (h : DeepR base lo w v l) : ResAt base w v l := by
  obtain ⟨rows, h1, h2, h3⟩ := h
  exact ⟨rows, (own_arrP h2 h1 (deep_len h1 h3)).off fun k hk => ⟨.inr (.inl hk), rfl⟩, h1, h3⟩
end
/-- A clone: rows as they were. -/
theorem deep_start {base : Nat} {w : World} {v : Value} {l : List Rs} (h : ResAt base w v l) (hl : l.length ≤ 1000000) :
    Calls Tryz.prog 71 #[v] w fun e' w' => ∃ v', e' = .returned v' ∧ DeepR base w.heap.size w' v' l ∧ Below w.heap.size w w' := by
  obtain ⟨rows, h1, h2, h3⟩ := h
  refine (cloneRs (Nat.le_refl _) (h1.arr fun k hk => hk.lt) (deep_len h2 h3) (fun u hu => ?_) (by omega)).mono ?_
  · obtain ⟨r, hr, hu⟩ := List.mem_flatten.1 hu
    exact rowAt_one (deep_mem h2 h3 r hr).choose_spec u hu
  · rintro e w' ⟨v', rfl, ho, hb⟩
    rw [h2] at ho
    exact ⟨v', rfl, ⟨rows, h2, ho, fun j row r a b => (h3 j row r a b).off (OffM.of (M := fun _ => False) hb) (Quiet.none _ _)⟩, hb⟩
theorem lab_flat (l : List Lab) : ∀ u ∈ (l.map Lab.cells).flatten, u.oneCell' = true := by
  intro u hu
  obtain ⟨r, hr, hu⟩ := List.mem_flatten.1 hu
  obtain ⟨x, -, rfl⟩ := List.mem_map.1 hr
  simp [Lab.cells] at hu
  rcases hu with rfl | rfl <;> rfl
/-- Labels laid anew. -/
theorem labs_anew {base : Nat} {w : World} {v : Value} {l : List Lab} (h : LabsAt base w v l) (hl : l.length ≤ 1000000) :
    Calls Tryz.prog 72 #[v] w fun e' w' => ∃ q c, e' = .returned (.slice q l.length c) ∧ LabsAt base w' (.slice q l.length c) l ∧ Below w.heap.size w w' := by
  have hlen : ∀ x ∈ l.map Lab.cells, x.length = 2 := by
    intro x hx
    obtain ⟨y, -, rfl⟩ := List.mem_map.1 hx
    rfl
  refine (cloneLb (Nat.le_refl _) h.isLabs.1 hlen (lab_flat _) (by rw [List.length_map]; exact hl)).mono ?_
  rintro e w' ⟨v', rfl, ho, hb⟩
  have h1 := own_arrP ho rfl hlen
  obtain ⟨p, c, rfl, -⟩ := id h1
  rw [List.length_map] at h1 ⊢
  exact ⟨p, c, rfl, ⟨h1.off fun k hk => ⟨.inr hk, rfl⟩, h.2⟩, hb⟩
end Go.Proofs.YtfmolimnnheaoaaGreat

/- subs.copied: what was told, in memory of its own. -/
namespace Go.Proofs.YtfmolimnnheaoaaGreat
open Go.RowKit
set_option linter.unusedSimpArgs false
set_option linter.unusedVariables false

theorem OwnTd.app {lo base : Nat} {w w' : World} {v v' : Value} {L : List TV} {t : TV} (h : OwnTd lo base w v L) (hb : base ≤ lo) (hr : ResAt base w t.2 t.1.res) (ho : w'.ownsRow lo 34 2 v' (L.length + 1) ((L.map tRow).flatten ++ tRow t)) (hg : w.grownBy w' v.ownBlock) : OwnTd lo base w' v' (L ++ [t]) := by
  have hq : Quiet base w (fun k => v.ownBlock = some k) := own_quiet h.1 hb (by decide) (by decide)
  refine ⟨by rw [List.length_append, List.map_append, List.flatten_append]; simpa using ho, fun x hx => ?_⟩
  have ho2 := OffM.grown hg
  rcases List.mem_append.1 hx with hx | hx
  · exact (h.2 x hx).off ho2 hq
  · simp at hx; subst hx; exact hr.off ho2 hq
/-- One more is appended, out of a block of one. -/
theorem app_td {ops : Array Oper} {rest : List Oper} {o : Oper} {a : Act} {w : World} {Q : Exit → Act → World → Prop} (hgd : o.guard = none) (s x : Operand)
    (ho : o.op = .call { callee := .builtin .append, args := #[s, x], argTypes := #[37, 37] }) (lo base : Nat) (v : Value) (L : List TV) (t : TV) (g : Nat)
    (hs : a.eval s = v) (hx : a.eval x = .slice (some ⟨g, 0, none⟩) 1 1) (hown : OwnTd lo base w v L) (hb : base ≤ lo) (hr : ResAt base w t.2 t.1.res) (hc : w.cell? ⟨g, 0, none⟩ = some (.int .i64 t.1.time)) (hc1 : w.cell? ⟨g, 1, none⟩ = some t.2) (hl : L.length ≤ 1000000) (hbase : lo ≤ w.heap.size)
    (h : ∀ v' w', OwnTd lo base w' v' (L ++ [t]) → w.grownBy w' v.ownBlock → (v'.ownBlock = v.ownBlock ∨ v'.ownBlock = some w.heap.size) → wpList Tryz.prog ops Q rest (a.put o.dst v') w') :
    wpList Tryz.prog ops Q (o :: rest) a w := by
  obtain ⟨i0, hi, hz0, hz1, hz2⟩ := info_parts infoTd
  refine wpList_append_src _ hgd s x 37 ho lo 34 i0 (.agg #[.int .i64 0, .slice none 0 0]) 2 32 Tryz.underlying37 hi hz0 hz1 hz2 rfl (by decide) v L.length _ hs hown.1 _ 1 (tRow t) hx (.inr ⟨⟨g, 0, none⟩, 1, rfl, rfl, ?_⟩) (by intro u hu; simp [tRow] at hu; rcases hu with rfl | rfl; rfl; exact hr.one) (by unfold maxLen; omega) (by omega) hbase ?_
  · intro j u hj
    match j, hj with
    | 0, hj => simp [tRow] at hj; subst hj; simpa [Addr.add] using hc
    | 1, hj => simp [tRow] at hj; subst hj; simpa [Addr.add] using hc1
    | j + 2, hj => simp [tRow] at hj
  · intro v' w' h1 h2 h3
    exact h v' w' (hown.app hb hr h1 h2) h2 h3
def CopiedR (base : Nat) (L : List TV) (W : World) (e : Ending) (w' : World) : Prop := ∃ v' L', e = .returned v' ∧ OwnTd W.heap.size base w' v' L' ∧ L'.map Prod.fst = L.map Prod.fst ∧ Below W.heap.size W w'
set_option maxRecDepth 100000 in
set_option maxHeartbeats 8000000 in
theorem bCopiedG {n base : Nat} {v : Value} {L : List TV} {W : World} (hl : IsTd n base W v L) (hn : n ≤ W.heap.size) (hbs : base ≤ W.heap.size) (hlen : L.length ≤ 100000) (hok : ∀ x ∈ L, TOk x.1) :
    Calls Tryz.prog 43 #[v] W (CopiedR base L W) := by
  obtain ⟨p, cap, rfl, hcap1, hcap2⟩ := hl.open
  have Hl := Lib.hid hl; have Hn := Lib.hid hn; have Hok := Lib.hid hok; have Hbs := Lib.hid hbs
  clear hl hn hok hbs
  obtain ⟨N, hN⟩ : ∃ z, L.length = z := ⟨_, rfl⟩
  rw [hN] at Hl hcap1 hlen ⊢
  have HN := Lib.hid hN; clear hN
  go_enter Tryz.func43, Tryz.ntmps43; (try simp only [List.append_eq, List.cons_append, List.nil_append])
  go_wp2
  go_loopw [3, 10] (fun v j wr => ∃ (k : Nat) (L' : List TV), k ≤ N ∧ j = .int .i64 k ∧ OwnTd W.heap.size base wr v L' ∧ L'.map Prod.fst = (L.take k).map Prod.fst ∧ Below W.heap.size W wr) (fun _ j _ => N - (intOf j).toNat)
  case atStart => exact ⟨0, [], Nat.zero_le _, rfl, OwnTd.nil, by rw [List.take_zero], Below.refl _ _⟩
  case round =>
    obtain ⟨k, L', hk, rfl, hown, hmap, hb⟩ := hrel
    have Hown := Lib.hid hown; have HB := Lib.hid hb; have Hmap := Lib.hid hmap
    clear hown hb hmap
    by_cases hlt : k < N
    · have hki : (k : Int) < (N : Int) := by omega
      obtain ⟨x, hx⟩ : ∃ x, L[k]? = some x := ⟨_, List.getElem?_eq_getElem (by have := HN.out; omega)⟩
      obtain ⟨bb, off, rfl, hbb, d0, d1, hres⟩ := (Hl.out.keep HB.out Hn.out).get hx
      have HX := Lib.hid hx
      have HTk := Lib.hid (Hok.out x (List.mem_of_getElem? hx))
      obtain ⟨⟨tm, res⟩, rv⟩ := x
      simp only at d0 d1 hres HTk
      obtain ⟨q, c, rfl, -, -⟩ := hres.open
      have HRes := Lib.hid hres
      have hn1 := Hn.out
      have hsz := HB.out.size
      have hbw : bb < wr.heap.size := by omega
      have htl : L'.length ≤ 1000000 := by
        have := congrArg List.length Hmap.out
        rw [List.length_map, List.length_map, List.length_take] at this
        omega
      clear hx hres
      go_wp2_with fail
      have hb0 := (Below.refl wr.heap.size wr).alloc (Nat.le_refl _) (.cells #[.int .i64 tm, .slice q res.length c] 34)
      have HBk := Lib.hid (Blk.new wr [.int .i64 tm, .slice q res.length c] 34)
      have HRY := Lib.hid (HRes.out.keep hb0)
      have HBY := Lib.hid hb0
      have hgl : wr.heap.size < (wr.alloc (.cells #[.int .i64 tm, .slice q res.length c] 34)).heap.size := by rw [World.size_alloc]; omega
      clear hb0 d0 d1 hbw
      obtain ⟨Y, hY⟩ : ∃ z, wr.alloc (.cells #[.int .i64 tm, .slice q res.length c] 34) = z := ⟨_, rfl⟩
      rw [show (wr.alloc (.cells ([.int .i64 tm, .slice q res.length c] : List Value).toArray 34)) = Y from hY] at HBk
      rw [hY] at HBY HRY hgl ⊢
      clear hY
      obtain ⟨gB, hgB⟩ : ∃ z, wr.heap.size = z := ⟨_, rfl⟩
      rw [hgB] at HBk hgl ⊢
      have HgB := Lib.hid hgB
      clear hgB
      refine (deep_start HRY.out (by have := HTk.out.1; simp only at this; omega)).mono ?_
      rintro e w2 ⟨v2, rfl, hdeep, hb2⟩
      obtain ⟨a2, c2, rfl⟩ := hdeep.slice
      have HD2 := Lib.hid hdeep
      have HB2 := Lib.hid hb2
      have HK2 := Lib.hid (HBk.out.keep hb2)
      have hg2 := HK2.out.lt
      have k1 : w2.cell? ⟨gB, 1, none⟩ = some (.slice q res.length c) := HK2.out.cell 1 _ rfl
      have f1 := HK2.out.free 1
      clear hdeep hb2
      have Hly := Lib.hid hgl
      clear hgl
      go_wp2
      have HK3 := Lib.hid (HK2.out.set_ 1 (.slice a2 res.length c2))
      have hbg : base ≤ gB := by have := HgB.out; have := Hbs.out; omega
      have HD3 := Lib.hid (HD2.out.far HK2.out.ty hbg (by decide) (by decide) 1 (.slice a2 res.length c2))
      have HB3 := Lib.hid (((HBY.out.trans (HB2.out.mono (by have := HgB.out; have := Hly.out; omega))).setCell (p := ⟨gB, 1, none⟩) (by have := HgB.out; show _ ≤ gB; omega) (.slice a2 res.length c2)))
      have Hbl := Lib.hid (show base ≤ Y.heap.size by have := Hly.out; omega)
      clear k1 f1 hg2 HD2 HK2 HB2
      obtain ⟨Z, hZ⟩ : ∃ z, w2.setCell ⟨gB, 1, none⟩ (.slice a2 res.length c2) = z := ⟨_, rfl⟩
      rw [hZ] at HK3 HD3 HB3 ⊢
      clear hZ
      have HK3 := Lib.hid (show Blk Z gB 34 [.int .i64 tm, .slice a2 res.length c2] from HK3.out)
      have hgz := HK3.out.lt
      obtain ⟨W0, rfl⟩ : ∃ z, z = wr := ⟨_, rfl⟩
      go_loopw [21] (fun j w => ∃ i : Nat, i ≤ res.length ∧ j = .int .i64 i ∧ DeepR base Y.heap.size w (.slice a2 res.length c2) res ∧ Blk w gB 34 [.int .i64 tm, .slice a2 res.length c2] ∧ Below W0.heap.size W0 w) (fun j _ => res.length - (intOf j).toNat)
      case atStart => exact ⟨0, Nat.zero_le _, rfl, HD3.out, HK3.out, HB3.out⟩
      case round =>
        obtain ⟨i, hi, rfl, hdeep, hblk, hbe⟩ := hrel
        have HDw := Lib.hid hdeep; have HKw := Lib.hid hblk; have HBw := Lib.hid hbe
        clear hdeep hblk hbe
        by_cases hil : i < res.length
        · have hii : (i : Int) < (res.length : Int) := by omega
          obtain ⟨r, hr⟩ : ∃ r, res[i]? = some r := ⟨_, List.getElem?_eq_getElem hil⟩
          have HR := Lib.hid hr
          have Hrl := Lib.hid (HTk.out.2 r (List.mem_of_getElem? hr))
          obtain ⟨g2, o2, q3, c3, rfl, hoff, hg2, e0, e1, e2, hlab, hi64, hfr, hty, hlog⟩ := HDw.out.get hr
          have HL := Lib.hid hlab; have Hoff := Lib.hid hoff; have HI := Lib.hid hi64; have HTy := Lib.hid hty; have HLo := Lib.hid (show W0.heap.size ≤ g2 by have := HgB.out; have := Hly.out; omega)
          obtain ⟨labs, rn, ro⟩ := r
          simp only at e0 e1 e2 HL HI Hrl
          have kb1 : wr.cell? ⟨gB, 1, none⟩ = some (.slice (some ⟨g2, o2, none⟩) res.length c2) := HKw.out.cell 1 _ rfl
          have hgl := HKw.out.lt
          clear hr hoff hlab hi64 hty hlog
          have hr4 : res.length ≤ 4096 := HTk.out.1
          go_upto_region 9 with fail
          have HKR := Lib.hid (Blk.new wr [.slice q3 labs.length c3, .int .i64 rn, .bool ro] 95)
          have hb9 := (Below.refl wr.heap.size wr).alloc (Nat.le_refl _) (.cells #[.slice q3 labs.length c3, .int .i64 rn, .bool ro] 95)
          have HD9 := Lib.hid (HDw.out.keep hb9)
          have HK9 := Lib.hid (HKw.out.keep hb9)
          have HL9 := Lib.hid (HL.out.keep hb9)
          have HB9 := Lib.hid (HBw.out.trans (hb9.mono HBw.out.size))
          clear hb9 e0 e1 e2 kb1 hgl hfr
          obtain ⟨X0, hX0⟩ : ∃ z, wr.alloc (.cells #[.slice q3 labs.length c3, .int .i64 rn, .bool ro] 95) = z := ⟨_, rfl⟩
          rw [show (wr.alloc (.cells ([.slice q3 labs.length c3, .int .i64 rn, .bool ro] : List Value).toArray 95)) = X0 from hX0] at HKR
          rw [hX0] at HD9 HK9 HL9 HB9 ⊢
          clear hX0
          have HgR := Lib.hid hg2
          obtain ⟨gR, hgR⟩ : ∃ z, wr.heap.size = z := ⟨_, rfl⟩
          rw [hgR] at HKR HgR ⊢
          clear hgR hg2
          have hik : IntKind.i64.wrap (i : Int) = (i : Int) := IntWalk.i64_in _ (by omega)
          refine wp_region_held_drew (S := fun X => Blk X gB 34 [.int .i64 tm, .slice (some ⟨g2, o2, none⟩) res.length c2] ∧ Blk X gR 95 [.slice q3 labs.length c3, .int .i64 rn, .bool ro]) (by kernel_rfl) ⟨HK9.out.drew, HKR.out.drew⟩ (fun hHeld => ?_)
          have HXD := Lib.hid (Below.drew (Below.refl X0.heap.size X0))
          obtain ⟨X, hX⟩ : ∃ z, X0.drew = z := ⟨_, rfl⟩
          rw [hX] at HXD ⊢
          clear hX
          have hSd : Blk X gB 34 [.int .i64 tm, .slice (some ⟨g2, o2, none⟩) res.length c2] ∧ Blk X gR 95 [.slice q3 labs.length c3, .int .i64 rn, .bool ro] := ⟨HK9.out.keep HXD.out, HKR.out.keep HXD.out⟩
          try clear hHeld
          (refine htk 0 26 (.pointer (some ⟨gB, 1, none⟩)) rfl ?_ ?_; (intro w hSw; clear hSw; first | rfl | go_simp); simp only [lsz, lss])
          (refine htk 1 27 (.slice (some ⟨g2, o2, none⟩) res.length c2) rfl ?_ ?_; (intro w hSw; have s1 := hSw.1.cell 1 _ rfl; have s2 := hSw.2.cell 0 _ rfl; clear hSw; go_simp); simp only [lsz, lss])
          (refine htk 2 28 (.int .i64 (i : Int)) rfl ?_ ?_; (intro w hSw; clear hSw; first | rfl | go_simp); simp only [lsz, lss])
          (refine htk 3 29 (.pointer (some ⟨gR, 0, none⟩)) rfl ?_ ?_; (intro w hSw; clear hSw; first | rfl | go_simp); simp only [lsz, lss])
          (refine htk 4 30 (.slice q3 labs.length c3) rfl ?_ ?_; (intro w hSw; have s1 := hSw.1.cell 1 _ rfl; have s2 := hSw.2.cell 0 _ rfl; clear hSw; go_simp); simp only [lsz, lss])
          refine hrd 5 rfl (fun K hK => ?_)
          rw [if_pos (by kernel_rfl)]
          go_simp
          refine (labs_anew (HL9.out.keep HXD.out) (by have := Hrl.out; omega)).mono ?_
          rintro e w5 ⟨q5, c5, rfl, hlab5, hb5⟩
          have HX5 := Lib.hid (HXD.out.trans (hb5.mono HXD.out.size))
          have HL5 := Lib.hid hlab5
          clear hb5 hlab5
          have hSd : Blk w5 gB 34 [.int .i64 tm, .slice (some ⟨g2, o2, none⟩) res.length c2] ∧ Blk w5 gR 95 [.slice q3 labs.length c3, .int .i64 rn, .bool ro] := ⟨HK9.out.keep HX5.out, HKR.out.keep HX5.out⟩
          refine hK.out _ _ hSd (fun hHeld => ?_)
          clear hK K
          (try simp only [Act.put, lsa, lsz, lss])
          (refine htk 6 32 (.pointer (some ⟨g2, o2 + i * 3, none⟩)) rfl ?_ ?_; (intro w hSw; clear hSw; go_simp); simp only [lsz, lss])
          (refine htk 7 33 (.pointer (some ⟨g2, o2 + i * 3, none⟩)) rfl ?_ ?_; (intro w hSw; clear hSw; first | rfl | go_simp); simp only [lsz, lss])
          have HD5 := Lib.hid (HD9.out.keep HX5.out)
          obtain ⟨g2', o2', q9, c9, hpp, -, hg2, e0, -, -, -, -, hfr, hty5, -⟩ := HD5.out.get HR.out
          simp only [Option.some.injEq, Addr.mk.injEq, and_true] at hpp
          obtain ⟨rfl, rfl⟩ := hpp
          have hf0 := hfr (o2 + i * 3)
          have hgne : gB ≠ g2 := hSd.1.ty.ne hty5 (by decide)
          have hgRB : gB < w5.heap.size := hSd.1.lt
          refine hrd 8 rfl (fun K hK => ?_)
          rw [if_pos (by kernel_rfl)]
          go_simp
          have hSd2 : Blk (w5.setCell ⟨g2, o2 + i * 3, none⟩ (.slice q5 labs.length c5)) gB 34 [.int .i64 tm, .slice (some ⟨g2, o2, none⟩) res.length c2] := hSd.1.far (p := ⟨g2, o2 + i * 3, none⟩) hgne _
          have hSd3 : Blk (w5.setCell ⟨g2, o2 + i * 3, none⟩ (.slice q5 labs.length c5)) gR 95 [.slice q3 labs.length c3, .int .i64 rn, .bool ro] := hSd.2.far (p := ⟨g2, o2 + i * 3, none⟩) (by have := HgR.out; show gR ≠ g2; omega) _
          refine hK.out _ _ ⟨hSd2, hSd3⟩ (fun hHeld => ?_)
          clear hK K
          (try simp only [Act.put, lsa, lsz, lss])
          refine wpAnyH_done (by kernel_rfl) ?_ _
          have HD6 := Lib.hid (DeepR.step (Hoff.out) (Hbl.out) HD5.out HR.out HL5.out HI.out)
          have HB6 := Lib.hid ((HB9.out.trans (HX5.out.mono HB9.out.size)).setCell (p := ⟨g2, o2 + i * 3, none⟩) HLo.out (.slice q5 labs.length c5))
          clear hSd hSd3 e0 hf0 hg2 hfr hty5 hgne hgRB
          have HK6 := Lib.hid hSd2
          clear hSd2
          go_wp2
          exact ⟨⟨i + 1, by omega, by go_num, HD6.out, HK6.out, HB6.out⟩, by simp [intOf]; omega⟩
        · have hil' : i = res.length := by omega
          subst hil'
          have hii : ¬ ((res.length : Int) < (res.length : Int)) := by omega
          have HO2 := Lib.hid (Hown.out.keep HBw.out)
          have HRn := Lib.hid (HDw.out.res)
          have e0 : wr.cell? ⟨gB, 0, none⟩ = some (.int .i64 tm) := HKw.out.cell 0 _ rfl
          have e1 : wr.cell? ⟨gB, 1, none⟩ = some (.slice a2 res.length c2) := HKw.out.cell 1 _ rfl
          have hgl := HKw.out.lt
          have hbel := HBw.out.size
          go_wp2_with (at_builtin; refine app_td rfl _ _ rfl W.heap.size base _ L' (⟨tm, res⟩, .slice a2 res.length c2) wr.heap.size rfl rfl (HO2.out.keep ((Below.refl _ _).alloc (Nat.le_refl _) _)) Hbs.out (HRn.out.keep ((Below.refl _ _).alloc (Nat.le_refl _) _)) (by go_simp) (by go_simp) htl (by simp; omega) ?_)
          intro v' w4 hown4 hg4 _
          have hb4 := below_app (((HB.out.trans (HBw.out.mono hsz))).alloc (by omega) (.cells #[.int .i64 tm, .slice a2 res.length c2] 34)) (HO2.out.keep ((Below.refl _ _).alloc (Nat.le_refl _) (.cells #[.int .i64 tm, .slice a2 res.length c2] 34))).1 hg4 (Nat.le_refl _) (by simp; omega)
          have Hown4 := Lib.hid hown4; have Hb4 := Lib.hid hb4
          have HM4 := Lib.hid (show (L' ++ [((⟨tm, res⟩, .slice a2 res.length c2) : TV)]).map Prod.fst = (L.take (k + 1)).map Prod.fst by
            rw [List.take_add_one, HX.out, List.map_append, List.map_append, Hmap.out]; rfl)
          clear hown4 hg4 hb4
          go_wp2
          exact ⟨⟨k + 1, _, by omega, by go_num, Hown4.out, HM4.out, Hb4.out⟩, by simp [intOf]; omega⟩
    · have hk' : k = N := by omega
      subst hk'
      have hki : ¬ ((k : Int) < (k : Int)) := by omega
      have HM := Lib.hid (show L'.map Prod.fst = L.map Prod.fst by rw [Hmap.out, ← HN.out, List.take_length])
      go_wp2
      go_ret
      exact ⟨_, _, rfl, Hown.out, HM.out, HB.out⟩
end Go.Proofs.YtfmolimnnheaoaaGreat

/- sample.CheckVector. Printed by wip/gen_sm3.py. -/
namespace Go.Proofs.YtfmolimnnheaoaaGreat
open Go.RowKit
set_option linter.unusedSimpArgs false
set_option linter.unusedVariables false

theorem ok_bad {v : List Rs} {k : Nat} (h : ¬ 4096 < v.length) (hk : k < v.length) (hb : okAt v k = false) : checkV v = 2 := by
  unfold checkV
  rw [if_neg h, if_neg]
  rw [Bool.not_eq_true]
  exact upto_not hk hb
theorem ok_all {v : List Rs} (h : ¬ 4096 < v.length) (hu : upto (okAt v) v.length = true) : checkV v = 0 := by
  unfold checkV
  rw [if_neg h, if_pos hu]
theorem ok_wrong {v : List Rs} {k : Nat} {r : Rs} (hr : v[k]? = some r) (h : rightR r = false) : okAt v k = false := by
  unfold okAt
  rw [hr]
  simp [h]
theorem ok_zero {v : List Rs} {r : Rs} (hr : v[0]? = some r) (h : rightR r = true) : okAt v 0 = true := by
  unfold okAt
  rw [hr]
  simp [h]
theorem ok_succ {v : List Rs} {j : Nat} {p r : Rs} (hp : v[j]? = some p) (hr : v[j + 1]? = some r) (h : rightR r = true) : okAt v (j + 1) = decide (compareL p.labs r.labs < 0) := by
  unfold okAt
  rw [hr]
  simp [h, hp]
set_option maxRecDepth 100000 in
set_option maxHeartbeats 16000000 in
theorem sCheckV {l : List Rs} {v : Value} {n : Nat} {W : World} (hn : n ≤ W.heap.size) (hv : IsRes n W v l) :
    Calls Tryz.prog 44 #[v] W fun e w' => e = .returned (.int .i64 (checkV l)) ∧ Below W.heap.size W w' := by
  obtain ⟨pv, cv, rfl, hcv1, hcv2⟩ := hv.open
  unfold maxLen at hcv2
  have HV := Lib.hid hv; have HN := Lib.hid hn
  clear hv hn
  obtain ⟨N, hN⟩ : ∃ z, l.length = z := ⟨_, rfl⟩
  rw [hN] at HV hcv1 ⊢
  have HNL := Lib.hid hN
  clear hN
  have hlen : (N : Int) ≤ 9223372036854775807 := by omega
  by_cases h4 : 4096 < N
  · have h4i : (4096 : Int) < (N : Int) := by omega
    have HC := Lib.hid (show checkV l = 3 from by unfold checkV; rw [if_pos (by rw [HNL.out]; exact h4)])
    go_enter Tryz.func44, Tryz.ntmps44; (try simp only [List.append_eq, List.cons_append, List.nil_append])
    go_wp2
    go_ret
    exact ⟨by rw [HC.out]; rfl, Below.refl _ _⟩
  have h4i : ¬ ((4096 : Int) < (N : Int)) := by omega
  have h4j : (N : Int) ≤ 4096 := by omega
  have H4 := Lib.hid (show ¬ 4096 < l.length from by rw [HNL.out]; exact h4)
  clear h4
  go_enter Tryz.func44, Tryz.ntmps44; (try simp only [List.append_eq, List.cons_append, List.nil_append])
  go_wp2
  go_loopw [10] (fun j wr => ∃ k : Nat, k ≤ N ∧ j = .int .i64 k ∧ upto (okAt l) k = true ∧ Below W.heap.size W wr) (fun j _ => N - (intOf j).toNat)
  case atStart => exact ⟨0, Nat.zero_le _, rfl, rfl, Below.refl _ _⟩
  case round =>
    obtain ⟨k, hk, rfl, hu, hb⟩ := hrel
    have HU := Lib.hid hu; have HB := Lib.hid hb
    have hsz := hb.size
    clear hu hb
    by_cases hlt : k < N
    · have hki : (k : Int) < (N : Int) := by omega
      obtain ⟨r, hr⟩ : ∃ r, l[k]? = some r := ⟨_, List.getElem?_eq_getElem (by have := HNL.out; omega)⟩
      have hvn := HV.out.mono (HB.out.mono HN.out) (Nat.le_refl _)
      obtain ⟨b1, o2, q1, c1, rfl, hb1, d0, d1, d2, hl1, -⟩ := hvn.get hr
      have HVN := Lib.hid hvn
      have HR := Lib.hid hr
      clear hvn hr
      obtain ⟨l1, x1, o1⟩ := r
      simp only at d0 d1 d2 hl1
      obtain ⟨m1, hm1⟩ : ∃ z, l1.length = z := ⟨_, rfl⟩
      have HM1 := Lib.hid hm1
      rw [hm1] at d0 hl1
      clear hm1
      have hb1w : b1 < wr.heap.size := by have := HN.out; omega
      go_upto_region 6 with (refine wpList_store_new rfl 95 _ _ rfl #[.slice q1 m1 c1, .int .i64 x1, .bool o1] _ _ rfl rfl (by kernel_rfl) rfl (by kernel_rfl) ?_)
      have ho1 := (Below.refl wr.heap.size wr).alloc (Nat.le_refl _) (.cells #[.slice q1 m1 c1, .int .i64 x1, .bool o1] 95)
      have hk1 := Blk.new wr [.slice q1 m1 c1, .int .i64 x1, .bool o1] 95
      have hnw : n ≤ wr.heap.size := Nat.le_trans HN.out hsz
      obtain ⟨g1, hg1⟩ : ∃ z, wr.heap.size = z := ⟨_, rfl⟩
      obtain ⟨X, hX⟩ : ∃ z, wr.alloc (.cells #[.slice q1 m1 c1, .int .i64 x1, .bool o1] 95) = z := ⟨_, rfl⟩
      have HVX := Lib.hid (HVN.out.mono (ho1.mono hnw) (Nat.le_trans hnw ho1.size))
      have HL1 := Lib.hid (hl1.mono (ho1.mono hnw) (Nat.le_trans hnw ho1.size))
      have HBX := Lib.hid (HB.out.trans (ho1.mono hsz))
      rw [show wr.alloc (.cells ([.slice q1 m1 c1, .int .i64 x1, .bool o1] : List Value).toArray 95) = X from hX] at hk1
      rw [hX] at HVX HL1 HBX ⊢
      rw [hg1] at hk1 ⊢
      have HK := Lib.hid hk1
      clear hX hg1 ho1 hk1 d0 d1 d2 hl1 hb1w hb1 hnw
      obtain ⟨rb, hrb⟩ : ∃ z, rightR ⟨l1, x1, o1⟩ = z := ⟨_, rfl⟩
      have HRB := Lib.hid hrb
      have hl1m := HM1.out
      subst hl1m
      cases rb with
      | false =>
        have HBAD := Lib.hid (ok_bad H4.out (by rw [HNL.out]; exact hlt) (ok_wrong HR.out hrb))
        refine wp_region_held_drew (S := fun w => Below X.heap.size X w) (by kernel_rfl) (Below.drew (Below.refl _ _)) (fun hHeld => ?_)
        have HS := Lib.hid (Below.drew (Below.refl X.heap.size X))
        try clear hHeld
        have hSS := HS.out
        obtain ⟨X2, hX2⟩ : ∃ z, X.drew = z := ⟨_, rfl⟩
        rw [hX2] at HS hSS ⊢
        clear hX2
        (refine htk 0 15 (.agg #[.slice q1 l1.length c1, .int .i64 x1, .bool o1]) rfl ?_ ?_; (intro w hSw; have e0 := (HK.out.keep hSw).cell 0 _ rfl; have e1 := (HK.out.keep hSw).cell 1 _ rfl; have e2 := (HK.out.keep hSw).cell 2 _ rfl; have eg := (HK.out.keep hSw).lt; clear hSw; go_simp); simp only [lsz, lss])
        refine hrd 1 rfl (fun K hK => ?_)
        rw [if_pos (by kernel_rfl)]
        go_simp
        have hSS := HS.out
        refine (sRight (r := ⟨l1, x1, o1⟩) (n := X.heap.size) HS.out.size (by have h := HL1.out.mono HS.out (Nat.le_refl _); exact h)).mono ?_
        rintro e w9 ⟨rfl, hb9⟩
        rw [HRB.out]
        have HS := Lib.hid (HS.out.trans (hb9.mono HS.out.size))
        clear hb9
        have hSS := HS.out
        refine hK.out _ _ HS.out (fun hHeld => ?_)
        clear hK K
        (try simp only [Act.put, lsa, lsz, lss])
        (refine htk 2 17 ?_ rfl ?_ ?_; rotate_left; (intro w hSw; clear hSw; go_simp); (try with_reducible rfl); simp only [lsz, lss])
        (refine htk 3 18 ?_ rfl ?_ ?_; rotate_left; (intro w hSw; clear hSw; go_simp); (try with_reducible rfl); simp only [lsz, lss])
        (refine held_skip 4 19 rfl (by kernel_rfl) (by kernel_rfl) (by kernel_rfl) (by kernel_rfl) (fun _ _ _ h => h) (by kernel_rfl) (by assumption) ?_; simp only [lsz, lss])
        (refine held_skip 5 20 rfl (by kernel_rfl) (by kernel_rfl) (by kernel_rfl) (by kernel_rfl) (fun _ _ _ h => h) (by kernel_rfl) (by assumption) ?_; simp only [lsz, lss])
        (refine held_skip 6 21 rfl (by kernel_rfl) (by kernel_rfl) (by kernel_rfl) (by kernel_rfl) (fun _ _ _ h => h) (by kernel_rfl) (by assumption) ?_; simp only [lsz, lss])
        (refine held_skip 7 22 rfl (by kernel_rfl) (by kernel_rfl) (by kernel_rfl) (by kernel_rfl) (fun _ _ _ h => h) (by kernel_rfl) (by assumption) ?_; simp only [lsz, lss])
        (refine held_skip 8 23 rfl (by kernel_rfl) (by kernel_rfl) (by kernel_rfl) (by kernel_rfl) (fun _ _ _ h => h) (by kernel_rfl) (by assumption) ?_; simp only [lsz, lss])
        (refine held_skip 9 24 rfl (by kernel_rfl) (by kernel_rfl) (by kernel_rfl) (by kernel_rfl) (fun _ _ _ h => h) (by kernel_rfl) (by assumption) ?_; simp only [lsz, lss])
        (refine held_skip 10 25 rfl (by kernel_rfl) (by kernel_rfl) (by kernel_rfl) (by kernel_rfl) (fun _ _ _ h => h) (by kernel_rfl) (by assumption) ?_; simp only [lsz, lss])
        (refine held_skip 11 26 rfl (by kernel_rfl) (by kernel_rfl) (by kernel_rfl) (by kernel_rfl) (fun _ _ _ h => h) (by kernel_rfl) (by assumption) ?_; simp only [lsz, lss])
        (refine held_skip 12 27 rfl (by kernel_rfl) (by kernel_rfl) (by kernel_rfl) (by kernel_rfl) (fun _ _ _ h => h) (by kernel_rfl) (by assumption) ?_; simp only [lsz, lss])
        (refine held_skip 13 28 rfl (by kernel_rfl) (by kernel_rfl) (by kernel_rfl) (by kernel_rfl) (fun _ _ _ h => h) (by kernel_rfl) (by assumption) ?_; simp only [lsz, lss])
        (refine held_skip 14 29 rfl (by kernel_rfl) (by kernel_rfl) (by kernel_rfl) (by kernel_rfl) (fun _ _ _ h => h) (by kernel_rfl) (by assumption) ?_; simp only [lsz, lss])
        (refine held_skip 15 30 rfl (by kernel_rfl) (by kernel_rfl) (by kernel_rfl) (by kernel_rfl) (fun _ _ _ h => h) (by kernel_rfl) (by assumption) ?_; simp only [lsz, lss])
        (refine held_skip 16 31 rfl (by kernel_rfl) (by kernel_rfl) (by kernel_rfl) (by kernel_rfl) (fun _ _ _ h => h) (by kernel_rfl) (by assumption) ?_; simp only [lsz, lss])
        (refine held_skip 17 32 rfl (by kernel_rfl) (by kernel_rfl) (by kernel_rfl) (by kernel_rfl) (fun _ _ _ h => h) (by kernel_rfl) (by assumption) ?_; simp only [lsz, lss])
        (refine htk 18 33 ?_ rfl ?_ ?_; rotate_left; (intro w hSw; clear hSw; go_simp); (try with_reducible rfl); simp only [lsz, lss])
        refine wpAnyH_done (by kernel_rfl) ?_ _
        go_wp2
        go_ret
        exact ⟨by rw [HBAD.out]; rfl, HBX.out.trans (HS.out.mono HBX.out.size)⟩
      | true =>
        cases k with
        | zero =>
          have HGOOD := Lib.hid (upto_step HU.out (ok_zero HR.out hrb))
          clear hrb
          refine wp_region_held_drew (S := fun w => Below X.heap.size X w) (by kernel_rfl) (Below.drew (Below.refl _ _)) (fun hHeld => ?_)
          have HS := Lib.hid (Below.drew (Below.refl X.heap.size X))
          try clear hHeld
          have hSS := HS.out
          obtain ⟨X2, hX2⟩ : ∃ z, X.drew = z := ⟨_, rfl⟩
          rw [hX2] at HS hSS ⊢
          clear hX2
          (refine htk 0 15 (.agg #[.slice q1 l1.length c1, .int .i64 x1, .bool o1]) rfl ?_ ?_; (intro w hSw; have e0 := (HK.out.keep hSw).cell 0 _ rfl; have e1 := (HK.out.keep hSw).cell 1 _ rfl; have e2 := (HK.out.keep hSw).cell 2 _ rfl; have eg := (HK.out.keep hSw).lt; clear hSw; go_simp); simp only [lsz, lss])
          refine hrd 1 rfl (fun K hK => ?_)
          rw [if_pos (by kernel_rfl)]
          go_simp
          have hSS := HS.out
          refine (sRight (r := ⟨l1, x1, o1⟩) (n := X.heap.size) HS.out.size (by have h := HL1.out.mono HS.out (Nat.le_refl _); exact h)).mono ?_
          rintro e w9 ⟨rfl, hb9⟩
          rw [HRB.out]
          have HS := Lib.hid (HS.out.trans (hb9.mono HS.out.size))
          clear hb9
          have hSS := HS.out
          refine hK.out _ _ HS.out (fun hHeld => ?_)
          clear hK K
          (try simp only [Act.put, lsa, lsz, lss])
          (refine htk 2 17 ?_ rfl ?_ ?_; rotate_left; (intro w hSw; clear hSw; go_simp); (try with_reducible rfl); simp only [lsz, lss])
          (refine htk 3 18 ?_ rfl ?_ ?_; rotate_left; (intro w hSw; clear hSw; go_simp); (try with_reducible rfl); simp only [lsz, lss])
          (refine htk 4 19 ?_ rfl ?_ ?_; rotate_left; (intro w hSw; clear hSw; go_simp); (try with_reducible rfl); simp only [lsz, lss])
          (refine htk 5 20 (.bool false) rfl ?_ ?_; (intro w hSw; clear hSw; first | rfl | go_simp); simp only [lsz, lss])
          (refine htk 6 21 (.bool false) rfl ?_ ?_; (intro w hSw; clear hSw; first | rfl | go_simp); simp only [lsz, lss])
          (refine held_skip 7 22 rfl (by kernel_rfl) (by kernel_rfl) (by kernel_rfl) (by kernel_rfl) (fun _ _ _ h => h) (by kernel_rfl) (by assumption) ?_; simp only [lsz, lss])
          (refine held_skip 8 23 rfl (by kernel_rfl) (by kernel_rfl) (by kernel_rfl) (by kernel_rfl) (fun _ _ _ h => h) (by kernel_rfl) (by assumption) ?_; simp only [lsz, lss])
          (refine held_skip 9 24 rfl (by kernel_rfl) (by kernel_rfl) (by kernel_rfl) (by kernel_rfl) (fun _ _ _ h => h) (by kernel_rfl) (by assumption) ?_; simp only [lsz, lss])
          (refine held_skip 10 25 rfl (by kernel_rfl) (by kernel_rfl) (by kernel_rfl) (by kernel_rfl) (fun _ _ _ h => h) (by kernel_rfl) (by assumption) ?_; simp only [lsz, lss])
          (refine held_skip 11 26 rfl (by kernel_rfl) (by kernel_rfl) (by kernel_rfl) (by kernel_rfl) (fun _ _ _ h => h) (by kernel_rfl) (by assumption) ?_; simp only [lsz, lss])
          (refine held_skip 12 27 rfl (by kernel_rfl) (by kernel_rfl) (by kernel_rfl) (by kernel_rfl) (fun _ _ _ h => h) (by kernel_rfl) (by assumption) ?_; simp only [lsz, lss])
          (refine held_skip 13 28 rfl (by kernel_rfl) (by kernel_rfl) (by kernel_rfl) (by kernel_rfl) (fun _ _ _ h => h) (by kernel_rfl) (by assumption) ?_; simp only [lsz, lss])
          (refine held_skip 14 29 rfl (by kernel_rfl) (by kernel_rfl) (by kernel_rfl) (by kernel_rfl) (fun _ _ _ h => h) (by kernel_rfl) (by assumption) ?_; simp only [lsz, lss])
          (refine held_skip 15 30 rfl (by kernel_rfl) (by kernel_rfl) (by kernel_rfl) (by kernel_rfl) (fun _ _ _ h => h) (by kernel_rfl) (by assumption) ?_; simp only [lsz, lss])
          (refine held_skip 16 31 rfl (by kernel_rfl) (by kernel_rfl) (by kernel_rfl) (by kernel_rfl) (fun _ _ _ h => h) (by kernel_rfl) (by assumption) ?_; simp only [lsz, lss])
          (refine htk 17 32 (.bool false) rfl ?_ ?_; (intro w hSw; clear hSw; first | rfl | go_simp); simp only [lsz, lss])
          (refine htk 18 33 (.bool false) rfl ?_ ?_; (intro w hSw; clear hSw; first | rfl | go_simp); simp only [lsz, lss])
          refine wpAnyH_done (by kernel_rfl) ?_ _
          go_wp2
          exact ⟨⟨1, by omega, by go_num, HGOOD.out, HBX.out.trans (HS.out.mono HBX.out.size)⟩, by simp [intOf]; omega⟩
        | succ j =>
          obtain ⟨r2, hr2⟩ : ∃ r, l[j]? = some r := ⟨_, List.getElem?_eq_getElem (by have := HNL.out; omega)⟩
          have hok := ok_succ hr2 HR.out hrb
          obtain ⟨b3, o3, q2, c2, hp3, hb1, hd0, -, -, hl2, -⟩ := HVX.out.get hr2
          obtain ⟨rfl, rfl⟩ : b1 = b3 ∧ o2 = o3 := by simpa using hp3
          clear hp3 hrb hr2
          obtain ⟨l2, x2, o9⟩ := r2
          simp only at hd0 hl2 hok
          have HL2 := Lib.hid hl2
          have HOK := Lib.hid hok
          have hw1 : IntKind.i64.wrap (((j + 1 : Nat) : Int) - 1) = (j : Int) := by rw [IntWalk.i64_in _ (by omega)]; omega
          have hw2 : IntKind.i64.wrap (j : Int) = (j : Int) := IntWalk.i64_in _ (by omega)
          have hj0 : (0 : Int) ≤ (j : Int) := by omega
          have hjn : (j : Int) < (N : Int) := by omega
          have hjp : (0 : Int) < ((j + 1 : Nat) : Int) := by omega
          clear hl2 hok
          refine wp_region_held_drew (S := fun w => Below X.heap.size X w) (by kernel_rfl) (Below.drew (Below.refl _ _)) (fun hHeld => ?_)
          have HS := Lib.hid (Below.drew (Below.refl X.heap.size X))
          try clear hHeld
          have hSS := HS.out
          obtain ⟨X2, hX2⟩ : ∃ z, X.drew = z := ⟨_, rfl⟩
          rw [hX2] at HS hSS ⊢
          clear hX2
          (refine htk 0 15 (.agg #[.slice q1 l1.length c1, .int .i64 x1, .bool o1]) rfl ?_ ?_; (intro w hSw; have e0 := (HK.out.keep hSw).cell 0 _ rfl; have e1 := (HK.out.keep hSw).cell 1 _ rfl; have e2 := (HK.out.keep hSw).cell 2 _ rfl; have eg := (HK.out.keep hSw).lt; clear hSw; go_simp); simp only [lsz, lss])
          refine hrd 1 rfl (fun K hK => ?_)
          rw [if_pos (by kernel_rfl)]
          go_simp
          have hSS := HS.out
          refine (sRight (r := ⟨l1, x1, o1⟩) (n := X.heap.size) HS.out.size (by have h := HL1.out.mono HS.out (Nat.le_refl _); exact h)).mono ?_
          rintro e w9 ⟨rfl, hb9⟩
          rw [HRB.out]
          have HS := Lib.hid (HS.out.trans (hb9.mono HS.out.size))
          clear hb9
          have hSS := HS.out
          refine hK.out _ _ HS.out (fun hHeld => ?_)
          clear hK K
          (try simp only [Act.put, lsa, lsz, lss])
          (refine htk 2 17 ?_ rfl ?_ ?_; rotate_left; (intro w hSw; clear hSw; go_simp); (try with_reducible rfl); simp only [lsz, lss])
          (refine htk 3 18 ?_ rfl ?_ ?_; rotate_left; (intro w hSw; clear hSw; go_simp); (try with_reducible rfl); simp only [lsz, lss])
          (refine htk 4 19 ?_ rfl ?_ ?_; rotate_left; (intro w hSw; clear hSw; go_simp); (try with_reducible rfl); simp only [lsz, lss])
          (refine htk 5 20 ?_ rfl ?_ ?_; rotate_left; (intro w hSw; clear hSw; go_simp); (try with_reducible rfl); simp only [lsz, lss])
          (refine htk 6 21 ?_ rfl ?_ ?_; rotate_left; (intro w hSw; clear hSw; go_simp); (try with_reducible rfl); simp only [lsz, lss])
          (refine htk 7 22 ?_ rfl ?_ ?_; rotate_left; (intro w hSw; clear hSw; go_simp); (try with_reducible rfl); simp only [lsz, lss])
          (refine htk 8 23 ?_ rfl ?_ ?_; rotate_left; (intro w hSw; clear hSw; go_simp); (try with_reducible rfl); simp only [lsz, lss])
          (refine htk 9 24 (.int .i64 (j : Int)) rfl ?_ ?_; (intro w hSw; clear hSw; go_simp; (try rw [hw2])); simp only [lsz, lss])
          (refine htk 10 25 (.pointer (some ⟨b1, o2 + j * 3, none⟩)) rfl ?_ ?_; (intro w hSw; clear hSw; go_simp); simp only [lsz, lss])
          (refine htk 11 26 (.pointer (some ⟨b1, o2 + j * 3, none⟩)) rfl ?_ ?_; (intro w hSw; clear hSw; first | rfl | go_simp); simp only [lsz, lss])
          (refine htk 12 27 (.slice q2 l2.length c2) rfl ?_ ?_; (intro w hSw; have e0 := hSw.cell (p := ⟨b1, o2 + j * 3, none⟩) hb1; rw [hd0] at e0; clear hSw; go_simp); simp only [lsz, lss])
          (refine htk 13 28 ?_ rfl ?_ ?_; rotate_left; (intro w hSw; clear hSw; go_simp); (try with_reducible rfl); simp only [lsz, lss])
          (refine htk 14 29 (.slice q1 l1.length c1) rfl ?_ ?_; (intro w hSw; have e0 := (HK.out.keep hSw).cell 0 _ rfl; have eg := (HK.out.keep hSw).lt; clear hSw; go_simp); simp only [lsz, lss])
          refine hrd 15 rfl (fun K hK => ?_)
          rw [if_pos (by kernel_rfl)]
          go_simp
          refine (lCompare (la := l2) (lb := l1) (n := X.heap.size) HS.out.size (HL2.out.mono HS.out (Nat.le_refl _)) (HL1.out.mono HS.out (Nat.le_refl _))).mono ?_
          rintro e w9 ⟨rfl, hb9⟩
          have HS := Lib.hid (HS.out.trans (hb9.mono HS.out.size))
          clear hb9
          have hSS := HS.out
          refine hK.out _ _ HS.out (fun hHeld => ?_)
          clear hK K
          (try simp only [Act.put, lsa, lsz, lss])
          (refine htk 16 31 ?_ rfl ?_ ?_; rotate_left; (intro w hSw; clear hSw; go_simp); (try with_reducible rfl); simp only [lsz, lss])
          (refine htk 17 32 ?_ rfl ?_ ?_; rotate_left; (intro w hSw; clear hSw; go_simp); (try with_reducible rfl); simp only [lsz, lss])
          (refine htk 18 33 ?_ rfl ?_ ?_; rotate_left; (intro w hSw; clear hSw; go_simp); (try with_reducible rfl); simp only [lsz, lss])
          refine wpAnyH_done (by kernel_rfl) ?_ _
          obtain ⟨cc, hcc⟩ : ∃ z, compareL l2 l1 = z := ⟨_, rfl⟩
          rw [hcc] at HOK
          simp only [hcc]
          clear hcc
          by_cases hlo : cc < 0
          · have hge : ¬ (0 ≤ cc) := by omega
            have HGOOD := Lib.hid (upto_step HU.out (by rw [HOK.out]; simpa using hlo))
            have hge2 : decide (0 ≤ cc) = false := decide_eq_false hge
            go_wp2
            exact ⟨⟨j + 2, by omega, by go_num, HGOOD.out, HBX.out.trans (HS.out.mono HBX.out.size)⟩, by simp [intOf]; omega⟩
          · have hge : 0 ≤ cc := by omega
            have HBAD := Lib.hid (ok_bad H4.out (by rw [HNL.out]; exact hlt) (by rw [HOK.out]; simpa using hlo))
            have hge2 : decide (0 ≤ cc) = true := decide_eq_true hge
            go_wp2
            go_ret
            exact ⟨by rw [HBAD.out]; rfl, HBX.out.trans (HS.out.mono HBX.out.size)⟩
    · have hkN : k = N := by omega
      subst hkN
      have hki : ¬ ((k : Int) < (k : Int)) := by omega
      have HC := Lib.hid (ok_all H4.out (by rw [HNL.out]; exact HU.out))
      go_wp2
      go_ret
      exact ⟨by rw [HC.out]; rfl, HB.out⟩
end Go.Proofs.YtfmolimnnheaoaaGreat

/- The reference's functions of label sets: cmp, Check, Order, Compare, labels. -/
namespace Go.Proofs.YtfmolimnnheaoaaGreat
open Go.RowKit
set_option linter.unusedSimpArgs false
set_option linter.unusedVariables false

theorem rCmp (a b : ByteArray) (W : World) : Calls Tryz.prog 97 #[.string a, .string b] W fun e w' => e = .returned (.int .i64 (cmpW a b)) ∧ w' = W := by
  unfold cmpW
  by_cases h1 : sless a b = true
  · rw [if_pos h1]
    have h1' : Op.bytesLess a.toList b.toList = true := h1
    clear h1
    go_enter Tryz.func97, Tryz.ntmps97; (try simp only [List.append_eq, List.cons_append, List.nil_append])
    go_wp2
    go_ret
    exact ⟨rfl, rfl⟩
  · have h1' : Op.bytesLess a.toList b.toList = false := by have h := h1; unfold sless at h; simpa using h
    rw [if_neg h1]
    by_cases h2 : sless b a = true
    · rw [if_pos h2]
      have h2' : (a.toList == b.toList) = false := by rw [toList_beq]; exact decide_eq_false (fun e => by subst e; rw [sless_irrefl] at h2; cases h2)
      go_enter Tryz.func97, Tryz.ntmps97; (try simp only [List.append_eq, List.cons_append, List.nil_append])
      go_wp2
      go_ret
      exact ⟨rfl, rfl⟩
    · have h2' : (a.toList == b.toList) = true := by
        rw [toList_beq]
        refine decide_eq_true ?_
        rcases sless_tri a b with h | h | h
        · exact absurd h h1
        · exact h
        · exact absurd h h2
      rw [if_neg h2]
      go_enter Tryz.func97, Tryz.ntmps97; (try simp only [List.append_eq, List.cons_append, List.nil_append])
      go_wp2
      go_ret
      exact ⟨rfl, rfl⟩
/-- It answers so, and only draws. -/
def Qt (v : Value) (W : World) (e : Ending) (w' : World) : Prop := e = .returned v ∧ ∃ n, w' = W.drewN n
theorem rName' (s : ByteArray) (W : World) (hs : s.size ≤ maxLen) : Calls Tryz.prog 88 #[.string s] W fun e w' => e = .returned (.bool (nameB s)) ∧ w' = W := (rName s W hs).mono fun _ _ ⟨h1, h2⟩ => ⟨h1, h2.symm⟩
theorem rise_at {l : List Lab} {j : Nat} (hj : j < l.length) : lastN ByteArray.empty (l.take (j + 1)) = l[j].name := lastN_step hj
set_option maxRecDepth 100000 in
set_option maxHeartbeats 8000000 in
theorem rCheck3 {l : List Lab} {v : Value} {n : Nat} {W : World} (hn : n ≤ W.heap.size) (h : IsLabs n W v l) :
    Calls Tryz.prog 75 #[v] W (Qt (.int .i64 (checkL l)) W) := by
  obtain ⟨p, cap, rfl, _, _, hl⟩ := h.open
  unfold maxLen at hl
  have HL := Lib.hid h; have HN := Lib.hid hn
  clear h hn
  obtain ⟨N, hN⟩ : ∃ z, l.length = z := ⟨_, rfl⟩
  rw [hN] at HL hl ⊢
  have HNL := Lib.hid hN
  clear hN
  have hN2 : (N : Int) ≤ 9223372036854775807 := by omega
  by_cases h8 : 8 < N
  · have h8i : (8 : Int) < (N : Int) := by omega
    have HE := Lib.hid (checkL_long (l := l) (by rw [HNL.out]; exact h8))
    go_enter Tryz.func75, Tryz.ntmps75; (try simp only [List.append_eq, List.cons_append, List.nil_append])
    go_wp2
    go_ret
    exact ⟨by rw [HE.out]; rfl, 0, rfl⟩
  have h8i : (N : Int) ≤ 8 := by omega
  have h8b : decide ((8 : Int) < (N : Int)) = false := decide_eq_false (by omega)
  have H8 := Lib.hid (show ¬ 8 < l.length by rw [HNL.out]; exact h8)
  clear h8
  go_enter Tryz.func75, Tryz.ntmps75; (try simp only [List.append_eq, List.cons_append, List.nil_append])
  go_wp2
  go_loopw [3] (fun j wr => ∃ k m : Nat, k ≤ N ∧ j = .int .i64 k ∧ rising ByteArray.empty (l.take k) = true ∧ wr = W.drewN m) (fun j _ => N - (intOf j).toNat)
  case atStart => exact ⟨0, 0, Nat.zero_le _, rfl, rfl, rfl⟩
  case round =>
    obtain ⟨k, m, hk, rfl, hr, hw⟩ := hrel
    have HR := Lib.hid hr; have HW := Lib.hid hw
    have hbw := below_drewN (Below.refl W.heap.size W) m
    rw [← hw] at hbw
    have HBW := Lib.hid hbw
    clear hr hw hbw
    by_cases hlt : k < N
    · have hki : (k : Int) < (N : Int) := by omega
      have hk0 : (0 : Int) ≤ (k : Int) := by omega
      have hkl : k < l.length := by have := HNL.out; omega
      obtain ⟨b1, o1, rfl, hb1, d0, d1, s0, s1⟩ := (HL.out.mono (HBW.out.mono HN.out) (Nat.le_refl _)).get hkl
      have HGOOD := Lib.hid (fun h1 h2 => rising_step HR.out hkl h1 h2)
      have HBAD := Lib.hid (fun hx => checkL_bad H8.out (rising_bad hkl hx))
      obtain ⟨nm, tx, hx⟩ : ∃ nm tx, l[k] = ⟨nm, tx⟩ := ⟨l[k].name, l[k].text, rfl⟩
      rw [hx] at d0 d1 s0 s1 HGOOD HBAD
      have HX := Lib.hid hx
      clear hx
      simp only at d0 d1 s0 s1 HGOOD HBAD
      have hb1w : b1 < wr.heap.size := by have := HN.out; have := HBW.out.size; omega
      have S0 := Lib.hid s0
      unfold maxLen at s1
      have hs1 : (tx.size : Int) ≤ 9223372036854775807 := by omega
      clear s0 s1 hb1
      obtain ⟨nb, hnb⟩ : ∃ z, nameB nm = z := ⟨_, rfl⟩
      have HNB := Lib.hid hnb
      have hnm : ∀ X, Calls Tryz.prog 88 #[.string nm] X fun e w' => e = .returned (.bool nb) ∧ w' = X := fun X => by rw [← hnb]; exact rName' nm X S0.out
      have HNM := Lib.hid hnm
      clear hnb hnm
      cases nb with
      | false =>
        go_wp2_with fail
        go_quiet ((go_at_call 88; exact Calls.quiet_of_same (HNM.out _)))
        go_wp2
        go_ret
        exact ⟨by rw [HBAD.out (.inl (labB_name HNB.out))]; rfl, m + nq, by rw [HW.out, World.drewN_drewN]⟩
      | true =>
        by_cases ht0 : tx.size < 1
        · have hte : tx.toList.isEmpty = true := by rw [ByteArray.toList_eq]; simp; exact Array.eq_empty_of_size_eq_zero (by have : tx.data.size = tx.size := rfl; omega)
          have htl : tx.toList = [] := by simpa using hte
          have HT := Lib.hid ht0
          clear ht0
          go_wp2_with fail
          go_quiet ((go_at_call 88; exact Calls.quiet_of_same (HNM.out _)))
          go_wp2
          go_ret
          exact ⟨by rw [HBAD.out (.inl (labB_text (.inl HT.out)))]; rfl, m + nq, by rw [HW.out, World.drewN_drewN]⟩
        have hte : tx.toList.isEmpty = false := by
          cases hb : tx.toList.isEmpty with
          | false => rfl
          | true =>
            rw [ByteArray.toList_eq] at hb
            simp at hb
            have : tx.data.size = tx.size := rfl
            rw [hb] at this
            simp at this
            omega
        by_cases ht1 : 64 < tx.size
        · have ht1i : decide ((64 : Int) < (tx.size : Int)) = true := decide_eq_true (by omega)
          have ht1j : (64 : Int) < (tx.size : Int) := by omega
          have HT := Lib.hid ht1
          clear ht0 ht1
          go_wp2_with fail
          go_quiet ((go_at_call 88; exact Calls.quiet_of_same (HNM.out _)))
          go_wp2
          go_ret
          exact ⟨by rw [HBAD.out (.inl (labB_text (.inr HT.out)))]; rfl, m + nq, by rw [HW.out, World.drewN_drewN]⟩
        have ht1i : decide ((64 : Int) < (tx.size : Int)) = false := decide_eq_false (by omega)
        have ht1j : (tx.size : Int) ≤ 64 := by omega
        have HLB := Lib.hid (labB_ok (x := ⟨nm, tx⟩) HNB.out (by show 1 ≤ tx.size; omega) (by show tx.size ≤ 64; omega))
        clear ht0 ht1
        cases k with
        | zero =>
          have HGD := Lib.hid (HGOOD.out HLB.out (sless_empty (nameB_size HNB.out).1))
          simp only [Nat.zero_mul, Nat.add_zero] at d0 d1
          have h00 : decide ((0 : Int) < ((0 : Nat) : Int)) = false := by decide
          have h01 : decide ((0 : Int) < (0 : Int)) = false := by decide
          have h02 : decide ((0 : Nat) < (0 : Nat)) = false := by decide
          go_wp2_with fail
          go_quiet ((go_at_call 88; exact Calls.quiet_of_same (HNM.out _)))
          go_wp2
          exact ⟨⟨1, m + nq, by omega, by go_num, HGD.out, by rw [HW.out, World.drewN_drewN]⟩, by simp [intOf]; omega⟩
        | succ j =>
          have hjl : j < l.length := by omega
          obtain ⟨b2, o2, hp2, hb2, e0, -, -, -⟩ := (HL.out.mono (HBW.out.mono HN.out) (Nat.le_refl _)).get hjl
          obtain ⟨rfl, rfl⟩ : b1 = b2 ∧ o1 = o2 := by simpa using hp2
          rw [rise_at hjl] at HGOOD HBAD
          obtain ⟨pn, hpn⟩ : ∃ z, l[j].name = z := ⟨_, rfl⟩
          rw [hpn] at e0 HGOOD HBAD
          have hjp : (0 : Int) < ((j + 1 : Nat) : Int) := by omega
          have hw1 : IntKind.i64.wrap (((j + 1 : Nat) : Int) - 1) = (j : Int) := by rw [IntWalk.i64_in _ (by omega)]; omega
          have hw2 : IntKind.i64.wrap (j : Int) = (j : Int) := IntWalk.i64_in _ (by omega)
          have hj0 : (0 : Int) ≤ (j : Int) := by omega
          have hjn : (j : Int) < (N : Int) := by omega
          have hjb : decide ((0 : Int) < ((j : Int) + 1)) = true := decide_eq_true (by omega)
          clear hp2 hpn hjl hb2
          by_cases hs : sless pn nm = true
          · have HGD := Lib.hid (HGOOD.out HLB.out hs)
            have hs1 : Op.bytesLess pn.toList nm.toList = true := hs
            have hs2 : Op.bytesLess nm.toList pn.toList = false := sless_asymm hs
            have hs3 : (pn.toList == nm.toList) = false := by rw [toList_beq]; exact decide_eq_false (fun e => by subst e; rw [sless_irrefl] at hs; cases hs)
            have hs4 : (nm.toList == pn.toList) = false := by rw [toList_beq]; exact decide_eq_false (fun e => by subst e; rw [sless_irrefl] at hs; cases hs)
            clear hs
            go_wp2_with fail
            go_quiet ((go_at_call 88; exact Calls.quiet_of_same (HNM.out _)))
            go_wp2
            exact ⟨⟨j + 2, m + nq, by omega, by go_num, HGD.out, by rw [HW.out, World.drewN_drewN]⟩, by simp [intOf]; omega⟩
          · have hs' : sless pn nm = false := by simpa using hs
            have HSN := Lib.hid hs'
            have hs1 : Op.bytesLess pn.toList nm.toList = false := hs'
            clear hs hs'
            go_wp2_with fail
            go_quiet ((go_at_call 88; exact Calls.quiet_of_same (HNM.out _)))
            go_wp2
            go_ret
            exact ⟨by rw [HBAD.out (.inr HSN.out)]; rfl, m + nq, by rw [HW.out, World.drewN_drewN]⟩
    · have hkN : k = N := by omega
      subst hkN
      have hki : ¬ ((k : Int) < (k : Int)) := by omega
      have HE := Lib.hid (checkL_ok H8.out (by have h := HR.out; rwa [List.take_of_length_le (by rw [HNL.out]; exact Nat.le_refl _)] at h))
      go_wp2
      go_ret
      exact ⟨by rw [HE.out]; rfl, m, HW.out⟩
set_option maxRecDepth 100000 in
set_option maxHeartbeats 8000000 in
theorem rOrder {la lb : List Lab} {va vb : Value} {n : Nat} {W : World} (hn : n ≤ W.heap.size) (ha : IsLabs n W va la) (hb : IsLabs n W vb lb) :
    Calls Tryz.prog 89 #[va, vb] W (Qt (.int .i64 (orderL la lb)) W) := by
  obtain ⟨p, cap, rfl, _, _, hla⟩ := ha.open
  obtain ⟨q, cbp, rfl, _, _, hlb⟩ := hb.open
  unfold maxLen at hla hlb
  have HA := Lib.hid ha; have HB := Lib.hid hb; have HN := Lib.hid hn
  clear ha hb hn
  obtain ⟨N, hN⟩ : ∃ z, la.length = z := ⟨_, rfl⟩
  obtain ⟨M, hM⟩ : ∃ z, lb.length = z := ⟨_, rfl⟩
  rw [hN] at hla HA ⊢
  rw [hM] at hlb HB ⊢
  have hla2 : (N : Int) ≤ 9223372036854775807 := by omega
  have hlb2 : (M : Int) ≤ 9223372036854775807 := by omega
  have HNL := Lib.hid hN; have HML := Lib.hid hM
  clear hN hM
  go_enter Tryz.func89, Tryz.ntmps89; (try simp only [List.append_eq, List.cons_append, List.nil_append])
  go_wp2
  go_loopw [5] (fun j wr => ∃ k m : Nat, k ≤ N ∧ k ≤ M ∧ j = .int .i64 k ∧ orderL la lb = orderL (la.drop k) (lb.drop k) ∧ wr = W.drewN m) (fun j _ => N - (intOf j).toNat)
  case atStart => exact ⟨0, 0, Nat.zero_le _, Nat.zero_le _, rfl, rfl, rfl⟩
  case round =>
    obtain ⟨k, m, hk, hkm, rfl, ho, hw⟩ := hrel
    have HO := Lib.hid ho; have HW := Lib.hid hw
    have hbw := below_drewN (Below.refl W.heap.size W) m
    rw [← hw] at hbw
    have HBW := Lib.hid hbw
    clear ho hw hbw
    by_cases hboth : k < N ∧ k < M
    · obtain ⟨h1, h2⟩ := hboth
      have hki : (k : Int) < (N : Int) := by omega
      have hkj : (k : Int) < (M : Int) := by omega
      have hk0 : (0 : Int) ≤ (k : Int) := by omega
      have hka : k < la.length := by have := HNL.out; omega
      have hkb : k < lb.length := by have := HML.out; omega
      obtain ⟨b1, o1, rfl, hb1, d0, d1, -, -⟩ := (HA.out.mono (HBW.out.mono HN.out) (Nat.le_refl _)).get hka
      obtain ⟨b2, o2, rfl, hb2, e0, e1, -, -⟩ := (HB.out.mono (HBW.out.mono HN.out) (Nat.le_refl _)).get hkb
      have HS := Lib.hid (order_step (List.getElem?_eq_getElem hka) (List.getElem?_eq_getElem hkb))
      obtain ⟨x1, x2, hx⟩ : ∃ nm tx, la[k] = ⟨nm, tx⟩ := ⟨la[k].name, la[k].text, rfl⟩
      obtain ⟨y1, y2, hy⟩ : ∃ nm tx, lb[k] = ⟨nm, tx⟩ := ⟨lb[k].name, lb[k].text, rfl⟩
      rw [hx] at d0 d1
      rw [hy] at e0 e1
      rw [hx, hy] at HS
      simp only at d0 d1 e0 e1
      have HCL := Lib.hid (show cmpLab ⟨x1, x2⟩ ⟨y1, y2⟩ = if cmpW x1 y1 = 0 then cmpW x2 y2 else cmpW x1 y1 from rfl)
      have hb1w : b1 < wr.heap.size := by have := HN.out; have := HBW.out.size; omega
      have hb2w : b2 < wr.heap.size := by have := HN.out; have := HBW.out.size; omega
      have hsz := HBW.out.size
      clear hx hy hka hkb hb1 hb2
      have HC1 := Lib.hid (fun X => rCmp x1 y1 X); have HC2 := Lib.hid (fun X => rCmp x2 y2 X)
      obtain ⟨c1, hc1⟩ : ∃ z, cmpW x1 y1 = z := ⟨_, rfl⟩
      obtain ⟨c2, hc2⟩ : ∃ z, cmpW x2 y2 = z := ⟨_, rfl⟩
      rw [hc1] at HC1 HCL
      rw [hc2] at HC2 HCL
      clear hc1 hc2
      go_wp2_with fail
      go_quiet ((go_at_call 97; exact Calls.quiet_of_same (HC1.out _)))
      by_cases hz1 : c1 = 0
      · subst hz1
        have HCL2 := Lib.hid (show cmpLab ⟨x1, x2⟩ ⟨y1, y2⟩ = c2 from by rw [HCL.out]; simp)
        have hbq : Below wr.heap.size wr (wr.drewN nq) := below_drewN (Below.refl _ _) _
        have d1' := (hbq.cell (p := ⟨b1, o1 + k * 2 + 1, none⟩) hb1w).trans d1
        have e1' := (hbq.cell (p := ⟨b2, o2 + k * 2 + 1, none⟩) hb2w).trans e1
        have hb1x := Nat.lt_of_lt_of_le hb1w hbq.size
        have hb2x := Nat.lt_of_lt_of_le hb2w hbq.size
        have HWQ := Lib.hid (show wr.drewN nq = W.drewN (m + nq) by rw [HW.out, World.drewN_drewN])
        obtain ⟨X, hX⟩ : ∃ z, wr.drewN nq = z := ⟨_, rfl⟩
        rw [hX] at d1' e1' hb1x hb2x HWQ ⊢
        clear hX hbq d0 d1 e0 e1 hb1w hb2w
        go_wp2_with fail
        go_quiet ((go_at_call 97; exact Calls.quiet_of_same (HC2.out _)))
        by_cases hz2 : c2 = 0
        · have hx : (c2 != 0) = false := by simp [hz2]
          have HZ := Lib.hid hz2
          clear hz2
          go_wp2
          exact ⟨⟨k + 1, _, by omega, by omega, by go_num, by rw [HO.out, HS.out, HCL2.out, if_pos HZ.out], by rw [HWQ.out, World.drewN_drewN]⟩, by simp [intOf]; omega⟩
        · have hx : (c2 != 0) = true := by simp [hz2]
          have HZ := Lib.hid hz2
          clear hz2
          go_wp2
          go_ret
          exact ⟨by rw [HO.out, HS.out, HCL2.out, if_neg HZ.out]; rfl, _, by rw [HWQ.out, World.drewN_drewN]⟩
      · have hx : (c1 == 0) = false := by simp [hz1]
        have hx2 : (c1 != 0) = true := by simp [hz1]
        have HZ := Lib.hid hz1
        have HCL2 := Lib.hid (show cmpLab ⟨x1, x2⟩ ⟨y1, y2⟩ = c1 from by rw [HCL.out, if_neg hz1])
        clear hz1
        go_wp2
        go_ret
        exact ⟨by rw [HO.out, HS.out, HCL2.out, if_neg HZ.out]; rfl, _, by rw [HW.out, World.drewN_drewN]⟩
    · have HE := Lib.hid (order_end (la := la) (lb := lb) (k := k) (by have := HNL.out; omega) (by have := HML.out; omega) (by have := HNL.out; have := HML.out; omega))
      have HLE := Lib.hid (show (la.length = N ∧ lb.length = M) from ⟨HNL.out, HML.out⟩)
      by_cases h1 : k < N
      · have hki : (k : Int) < (N : Int) := by omega
        have hkj : ¬ ((k : Int) < (M : Int)) := by omega
        have hnm : ¬ ((N : Int) < (M : Int)) := by omega
        have hnm2 : (M : Int) < (N : Int) := by omega
        go_wp2
        go_ret
        exact ⟨by rw [HO.out, HE.out, if_pos (by have := HNL.out; omega)]; rfl, m, HW.out⟩
      · have hki : ¬ ((k : Int) < (N : Int)) := by omega
        by_cases hnm : N < M
        · have hnm1 : (N : Int) < (M : Int) := by omega
          go_wp2
          go_ret
          exact ⟨by rw [HO.out, HE.out, if_neg (by have := HNL.out; omega), if_pos (by have := HML.out; omega)]; rfl, m, HW.out⟩
        · have hnm1 : ¬ ((N : Int) < (M : Int)) := by omega
          have hnm2 : ¬ ((M : Int) < (N : Int)) := by omega
          go_wp2
          go_ret
          exact ⟨by rw [HO.out, HE.out, if_neg (by have := HNL.out; omega), if_neg (by have := HML.out; omega)]; rfl, m, HW.out⟩
set_option maxHeartbeats 1000000 in
theorem rCompare {la lb : List Lab} {va vb : Value} {n : Nat} {W : World} (hn : n ≤ W.heap.size) (ha : IsLabs n W va la) (hb : IsLabs n W vb lb) :
    Calls Tryz.prog 77 #[va, vb] W (Qt (.int .i64 (compareL la lb)) W) := by
  have HA := Lib.hid ha; have HB := Lib.hid hb; have HN := Lib.hid hn
  have HC := Lib.hid (show compareL la lb = if checkL la = 0 ∧ checkL lb = 0 then orderL la lb else 0 from rfl)
  clear ha hb hn
  go_enter Tryz.func77, Tryz.ntmps77; (try simp only [List.append_eq, List.cons_append, List.nil_append])
  go_wp2_with fail
  refine (rCheck3 HN.out HA.out).mono ?_
  rintro e w1 ⟨rfl, m1, hw1⟩
  have hb1 := below_drewN (Below.refl W.heap.size W) m1
  rw [← hw1] at hb1
  have HB1 := Lib.hid hb1; have HW1 := Lib.hid hw1
  clear hb1 hw1
  obtain ⟨c1, hc1⟩ : ∃ z, checkL la = z := ⟨_, rfl⟩
  rw [hc1] at HC ⊢
  clear hc1
  by_cases h1 : c1 = 0
  · subst h1
    go_wp2_with fail
    refine (rCheck3 (Nat.le_trans HN.out HB1.out.size) (HB.out.mono (HB1.out.mono HN.out) (Nat.le_refl _))).mono ?_
    rintro e w2 ⟨rfl, m2, hw2⟩
    have hb2 := below_drewN HB1.out m2
    rw [← hw2] at hb2
    have HB2 := Lib.hid hb2; have HW2 := Lib.hid (show w2 = W.drewN (m1 + m2) by rw [hw2, HW1.out, World.drewN_drewN])
    clear hb2 hw2
    obtain ⟨c2, hc2⟩ : ∃ z, checkL lb = z := ⟨_, rfl⟩
    rw [hc2] at HC ⊢
    clear hc2
    by_cases h2 : c2 = 0
    · subst h2
      go_wp2_with fail
      refine (rOrder (Nat.le_trans HN.out HB2.out.size) (HA.out.mono (HB2.out.mono HN.out) (Nat.le_refl _)) (HB.out.mono (HB2.out.mono HN.out) (Nat.le_refl _))).mono ?_
      rintro e w3 ⟨rfl, m3, hw3⟩
      have HW3 := Lib.hid (show w3 = W.drewN (m1 + m2 + m3) by rw [hw3, HW2.out, World.drewN_drewN])
      clear hw3
      go_wp2
      go_ret
      exact ⟨by rw [HC.out, if_pos (by simp)]; rfl, _, HW3.out⟩
    · have hx : (c2 != 0) = true := by simp [h2]
      have HZ := Lib.hid h2
      clear h2
      go_wp2
      go_ret
      exact ⟨by rw [HC.out, if_neg (fun h => HZ.out h.2)]; rfl, _, HW2.out⟩
  · have hx : (c1 != 0) = true := by simp [h1]
    have HZ := Lib.hid h1
    clear h1
    go_wp2
    go_ret
    exact ⟨by rw [HC.out, if_neg (fun h => HZ.out h.1)]; rfl, _, HW1.out⟩
end Go.Proofs.YtfmolimnnheaoaaGreat
