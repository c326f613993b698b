/- label.Get, takes, Takes: what they compute. -/
import Derived.Test.YtkheeiipkdeihaaLa2
import Derived.Test.YtkheeiipkdeihaaBase2
import Derived.Deep.RegionHeld3
import Derived.Deep.CutRange
namespace Go.Proofs.Ytkheeiipkdeihaa
open Go.RowKit
set_option linter.unusedSimpArgs false
set_option linter.unusedVariables false

theorem lGet1 (x : Lab) (name : ByteArray) (nB : Nat) (w : World) (h : w.cell? ⟨nB, 0, none⟩ = some (.string name)) :
    Calls Try.prog 57 #[.agg #[.string x.name, .string x.text], .pointer (some ⟨nB, 0, none⟩)] w fun e w' => e = .returned (.bool (decide (x.name = name))) ∧ Below w.heap.size w w' := by
  have hl := World.block_lt_of_cell? w _ h
  have hd := toList_beq x.name name
  have Hd := Lib.hid hd; clear hd
  go_enter Try.func57, Try.ntmps57; (try simp only [List.append_eq, List.cons_append, List.nil_append])
  go_wp2
  go_ret
  exact ⟨ret_bool Hd.out, (Below.refl _ _).alloc (Nat.le_refl _) _⟩

/-- The place of a name, or below 0. -/
def IdxAt (l : List Lab) (name : ByteArray) (i : Int) : Prop := (i = -1 ∧ ∀ x ∈ l, x.name ≠ name) ∨ ∃ (k : Nat) (hk : k < l.length), i = k ∧ l[k].name = name ∧ ∀ x ∈ l.take k, x.name ≠ name
def FoundL (l : List Lab) (name : ByteArray) (w : World) (e : Ending) (w' : World) : Prop := ∃ i : Int, e = .returned (.int .i64 i) ∧ IdxAt l name i ∧ Below w.heap.size w w'
set_option maxHeartbeats 1000000 in
theorem sIdxL (l : List Lab) (name : ByteArray) (nB : Nat) (v : Value) (n : Nat) (w : World) (hn : n ≤ w.heap.size) (h : IsLabs n w v l) (hB : w.cell? ⟨nB, 0, none⟩ = some (.string name)) :
    Calls Try.prog 56 #[v, .func (.func 57) #[] #[.pointer (some ⟨nB, 0, none⟩)]] w (FoundL l name w) := by
  obtain ⟨p, cap, rfl, _, _, hl⟩ := h.open
  unfold maxLen at hl
  have hlB := World.block_lt_of_cell? w _ hB
  have HC := Lib.hid (fun x X (hX : Below w.heap.size w X) => lGet1 x name nB X ((hX.cell (p := ⟨nB, 0, none⟩) hlB).trans hB))
  have H := Lib.hid h; clear h hB
  go_enter Try.func56, Try.ntmps56; (try simp only [List.append_eq, List.cons_append, List.nil_append])
  go_upto_region 2 with fail
  go_loopw [8] (fun i wr => ∃ k : Nat, k ≤ l.length ∧ i = .int .i64 k ∧ (∀ x ∈ l.take k, x.name ≠ name) ∧ Below w.heap.size w wr) (fun i _ => l.length - (intOf i).toNat)
  case atStart => exact ⟨0, Nat.zero_le _, rfl, by simp, Below.refl _ _⟩
  case round =>
    obtain ⟨k, hk, rfl, hr, hb⟩ := hrel
    have Hr := Lib.hid hr; clear hr
    have Hb := Lib.hid hb; clear hb
    have hsb := Hb.out.size
    by_cases hlt : k < l.length
    · obtain ⟨b, off, rfl, hbn, h1, h2, hs1, hs2⟩ := (H.out.mono (Hb.out.mono hn) (Nat.le_refl _)).get hlt
      have Hno : Hid (l[k].name ≠ name → ∀ x ∈ l.take (k + 1), x.name ≠ name) := fun h => find_step Hr.out hlt h
      have Hyes : Hid (l[k].name = name → IdxAt l name k) := fun h => .inr ⟨k, hlt, rfl, h, Hr.out⟩
      generalize l[k] = x at *
      have HCx := Lib.hid (HC.out x _ Hb.out)
      by_cases hx : x.name = name
      · rw [decide_eq_true hx] at HCx
        have hx' := Lib.hid hx; clear hx
        go_wp2_with (go_at_call 57; refine HCx.out.mono ?_; rintro e w' ⟨rfl, hb⟩; have HB2 := Lib.hid (Hb.out.trans (hb.mono hsb)); clear hb)
        go_ret
        exact ⟨_, rfl, Hyes.out hx'.out, HB2.out⟩
      · rw [decide_eq_false hx] at HCx
        have hx' := Lib.hid hx; clear hx
        go_wp2_with (go_at_call 57; refine HCx.out.mono ?_; rintro e w' ⟨rfl, hb⟩; have HB2 := Lib.hid (Hb.out.trans (hb.mono hsb)); clear hb)
        exact ⟨⟨k + 1, by omega, by go_num, Hno.out hx'.out, HB2.out⟩, by simp [intOf]; omega⟩
    · have hk' : k = l.length := by omega
      subst hk'
      rw [List.take_length] at Hr
      go_wp2
      go_ret
      exact ⟨_, rfl, .inl ⟨rfl, Hr.out⟩, Hb.out⟩

set_option maxHeartbeats 1000000 in
theorem lGet (l : List Lab) (name : ByteArray) (v : Value) (n : Nat) (w : World) (hn : n ≤ w.heap.size) (h : IsLabs n w v l) :
    Calls Try.prog 34 #[v, .string name] w fun e w' => e = .returned (.string (getL l name)) ∧ Below w.heap.size w w' := by
  obtain ⟨p, cap, rfl, _, _, hl⟩ := h.open
  unfold maxLen at hl
  have HI := Lib.hid (fun X (hX : (w.alloc (.cells #[.string name] 9)) = X) => sIdxL l name w.heap.size (.slice p l.length cap) n X (by subst hX; simp; omega) (by subst hX; exact h.mono ((Below.refl _ _).alloc hn _) (Nat.le_refl _)) (by subst hX; exact World.cell?_alloc_new _ _ _ _))
  have H := Lib.hid h; clear h
  go_enter Try.func34, Try.ntmps34; (try simp only [List.append_eq, List.cons_append, List.nil_append])
  go_upto_region 2 with (go_at_call 56; refine (HI.out _ rfl).mono ?_; rintro e w' ⟨i, rfl, hi, hb⟩; have HX := Lib.hid hi; clear hi; have HB := Lib.hid (((Below.refl _ _).alloc (Nat.le_refl _) _).trans (hb.mono (by simp))); clear hb)
  rcases HX.out with ⟨rfl, hx⟩ | ⟨k, hk, rfl, hx, hx2⟩
  · have Hg := Lib.hid (getL_none hx); clear hx
    go_wp2
    go_ret
    exact ⟨ret_string Hg.out.symm, HB.out⟩
  · have Hg := Lib.hid (getL_at hx2 hk hx); clear hx hx2
    obtain ⟨b, off, rfl, hbn, h1, h2, hs1, hs2⟩ := (H.out.mono (HB.out.mono hn) (Nat.le_refl _)).get hk
    have k0 : (0 : Int) ≤ (k : Int) := by omega
    go_wp2
    go_ret
    exact ⟨ret_string Hg.out.symm, HB.out⟩

/-- A matcher's cells. -/
def MCells (m : Mat) : List Value := [.int .i64 m.kind, .string m.name, .string m.text]
set_option maxHeartbeats 1000000 in
theorem ltakes (m : Mat) (l : List Lab) (v : Value) (n : Nat) (w : World) (hn : n ≤ w.heap.size) (h : IsLabs n w v l) :
    Calls Try.prog 55 #[.agg #[.int .i64 m.kind, .string m.name, .string m.text], v] w fun e w' => e = .returned (.bool (takesOne l m)) ∧ Below w.heap.size w w' := by
  obtain ⟨p, cap, rfl, _, _, hl⟩ := h.open
  unfold maxLen at hl
  have H := Lib.hid h; clear h
  have HG := Lib.hid (fun X (hX : Below w.heap.size w X) => show Calls Try.prog 34 #[.slice p l.length cap, .string m.name] X (fun e w' => e = .returned (.string (getL l m.name)) ∧ Below w.heap.size w w') from (lGet l m.name _ n X (by have := hX.size; omega) (H.out.mono (hX.mono hn) (Nat.le_refl _))).mono (fun e' w' ⟨h1, h2⟩ => ⟨h1, hX.trans (h2.mono hX.size)⟩))
  have hd := toList_beq (getL l m.name) m.text
  have Hd := Lib.hid hd; clear hd
  go_enter Try.func55, Try.ntmps55; (try simp only [List.append_eq, List.cons_append, List.nil_append])
  go_upto_region 1 with fail
  have hX : Below w.heap.size w (w.alloc (.cells #[.int .i64 m.kind, .string m.name, .string m.text] 71)) := (Below.refl _ _).alloc (Nat.le_refl _) _
  have hblk := Blk.new w [.int .i64 m.kind, .string m.name, .string m.text] 71
  obtain ⟨W1, hW1⟩ : ∃ W1, w.alloc (.cells #[.int .i64 m.kind, .string m.name, .string m.text] 71) = W1 := ⟨_, rfl⟩
  have hblk' : Blk W1 w.heap.size 71 [.int .i64 m.kind, .string m.name, .string m.text] := by rw [← hW1]; exact hblk
  rw [hW1] at hX ⊢
  clear hblk hW1
  have HQ := Lib.hid hblk'; clear hblk'
  have HX1 := Lib.hid hX
  have hX := Below.refl W1.heap.size W1
  have HS := Lib.hid (fun X (h : Below W1.heap.size W1 X) => show X.cell? ⟨w.heap.size, 0, none⟩ = some (.int .i64 m.kind) ∧ X.cell? ⟨w.heap.size, 1, none⟩ = some (.string m.name) ∧ X.cell? ⟨w.heap.size, 2, none⟩ = some (.string m.text) from
    ⟨(HQ.out.mono h HQ.out.lt).cell 0 _ rfl, (HQ.out.mono h HQ.out.lt).cell 1 _ rfl, (HQ.out.mono h HQ.out.lt).cell 2 _ rfl⟩)
  have HG1 := Lib.hid (fun X (hX : Below W1.heap.size W1 X) => show Calls Try.prog 34 #[.slice p l.length cap, .string m.name] X (fun e w' => e = .returned (.string (getL l m.name)) ∧ Below W1.heap.size W1 w') from (lGet l m.name _ n X (by have := hX.size; have := HX1.out.size; omega) (H.out.mono ((HX1.out.trans (hX.mono HX1.out.size)).mono hn) (Nat.le_refl _))).mono (fun e' w' ⟨h1, h2⟩ => ⟨h1, hX.trans (h2.mono hX.size)⟩))
  go_region_held3 (fun w' => w'.cell? ⟨w.heap.size, 0, none⟩ = some (.int .i64 m.kind) ∧ w'.cell? ⟨w.heap.size, 1, none⟩ = some (.string m.name) ∧ w'.cell? ⟨w.heap.size, 2, none⟩ = some (.string m.text))
    ((first | exact HS.out _ (by assumption) | exact HS.out _ (Below.drew (by assumption))))
    ((go_at_call 34; refine (HG1.out _ (by first | assumption | exact Below.drew (by assumption))).mono ?_; rintro e' X6 ⟨rfl, hA1⟩; have HA1 := Lib.hid hA1))
  all_goals go_wp2
  all_goals go_ret
  all_goals exact ⟨ret_bool (by unfold takesOne; rw [Hd.out]), HX1.out.trans (HA1.out.mono HX1.out.size)⟩

set_option maxHeartbeats 1000000 in
theorem lTakes1 (m : Mat) (l : List Lab) (v : Value) (lB n : Nat) (w : World) (hn : n ≤ w.heap.size) (h : IsLabs n w v l) (hB : w.cell? ⟨lB, 0, none⟩ = some v) :
    Calls Try.prog 54 #[.agg #[.int .i64 m.kind, .string m.name, .string m.text], .pointer (some ⟨lB, 0, none⟩)] w fun e w' => e = .returned (.bool (!takesOne l m)) ∧ Below w.heap.size w w' := by
  have hlB := World.block_lt_of_cell? w _ hB
  obtain ⟨p, cap, rfl, _, _, hl⟩ := h.open
  have HT := Lib.hid (fun X (hX : w.alloc (.cells #[.int .i64 m.kind, .string m.name, .string m.text] 71) = X) => ltakes m l (.slice p l.length cap) n X (by subst hX; simp; omega) (by subst hX; exact h.mono ((Below.refl _ _).alloc hn _) (Nat.le_refl _)))
  clear h
  go_enter Try.func54, Try.ntmps54; (try simp only [List.append_eq, List.cons_append, List.nil_append])
  go_wp2_with (go_at_call 55; refine (HT.out _ rfl).mono ?_; rintro e w' ⟨rfl, hb⟩; have HB := Lib.hid (((Below.refl _ _).alloc (Nat.le_refl _) _).trans (hb.mono (by simp))); clear hb)
  go_ret
  exact ⟨rfl, HB.out⟩

/-- One that does not take, or none. -/
def NotTaken (ms : List Mat) (l : List Lab) (w : World) (e : Ending) (w' : World) : Prop := ∃ i : Int, e = .returned (.int .i64 i) ∧ decide (0 ≤ i) = (!ms.all (takesOne l)) ∧ Below w.heap.size w w'
set_option maxHeartbeats 1000000 in
theorem sIdxM (ms : List Mat) (l : List Lab) (lB : Nat) (v vl : Value) (n : Nat) (w : World) (hn : n ≤ w.heap.size) (hm : IsMats n w v ms) (h : IsLabs n w vl l) (hB : w.cell? ⟨lB, 0, none⟩ = some vl) :
    Calls Try.prog 69 #[v, .func (.func 54) #[] #[.pointer (some ⟨lB, 0, none⟩)]] w (NotTaken ms l w) := by
  obtain ⟨p, cap, rfl, _, _, hl⟩ := hm.open
  unfold maxLen at hl
  have hlB := World.block_lt_of_cell? w _ hB
  have HC := Lib.hid (fun x X (hX : Below w.heap.size w X) => lTakes1 x l vl lB n X (by have := hX.size; omega) (h.mono (hX.mono hn) (Nat.le_refl _)) ((hX.cell (p := ⟨lB, 0, none⟩) hlB).trans hB))
  have H := Lib.hid hm; clear h hm hB
  go_enter Try.func69, Try.ntmps69; (try simp only [List.append_eq, List.cons_append, List.nil_append])
  go_upto_region 2 with fail
  go_loopw [8] (fun i wr => ∃ k : Nat, k ≤ ms.length ∧ i = .int .i64 k ∧ (ms.take k).all (takesOne l) = true ∧ Below w.heap.size w wr) (fun i _ => ms.length - (intOf i).toNat)
  case atStart => exact ⟨0, Nat.zero_le _, rfl, by simp, Below.refl _ _⟩
  case round =>
    obtain ⟨k, hk, rfl, hr, hb⟩ := hrel
    have Hr := Lib.hid hr; clear hr
    have Hb := Lib.hid hb; clear hb
    have hsb := Hb.out.size
    by_cases hlt : k < ms.length
    · obtain ⟨b, off, rfl, hbn, h1, h2, h3, hs1, hs2⟩ := (H.out.mono (Hb.out.mono hn) (Nat.le_refl _)).get hlt
      have Hyes : Hid (takesOne l ms[k] = true → (ms.take (k + 1)).all (takesOne l) = true) := fun h => all_step Hr.out hlt h
      have Hno : Hid (takesOne l ms[k] = false → ms.all (takesOne l) = false) := fun h => all_not hlt h
      generalize ms[k] = x at *
      have HCx := Lib.hid (HC.out x _ Hb.out)
      cases hx : takesOne l x with
      | true =>
        rw [hx] at HCx Hyes
        have hx' := Lib.hid hx; clear hx
        go_wp2_with (go_at_call 54; refine HCx.out.mono ?_; rintro e w' ⟨rfl, hb⟩; have HB2 := Lib.hid (Hb.out.trans (hb.mono hsb)); clear hb)
        exact ⟨⟨k + 1, by omega, by go_num, Hyes.out (by first | rfl | trivial), HB2.out⟩, by simp [intOf]; omega⟩
      | false =>
        rw [hx] at HCx Hno
        have hx' := Lib.hid hx; clear hx
        go_wp2_with (go_at_call 54; refine HCx.out.mono ?_; rintro e w' ⟨rfl, hb⟩; have HB2 := Lib.hid (Hb.out.trans (hb.mono hsb)); clear hb)
        go_ret
        exact ⟨_, rfl, by rw [Hno.out (by first | rfl | trivial)]; simp, HB2.out⟩
    · have hk' : k = ms.length := by omega
      subst hk'
      rw [List.take_length] at Hr
      go_wp2
      go_ret
      exact ⟨_, rfl, by rw [Hr.out]; rfl, Hb.out⟩
set_option maxHeartbeats 1000000 in
theorem sContM (ms : List Mat) (l : List Lab) (lB : Nat) (v vl : Value) (n : Nat) (w : World) (hn : n ≤ w.heap.size) (hm : IsMats n w v ms) (h : IsLabs n w vl l) (hB : w.cell? ⟨lB, 0, none⟩ = some vl) :
    Calls Try.prog 53 #[v, .func (.func 54) #[] #[.pointer (some ⟨lB, 0, none⟩)]] w fun e w' => e = .returned (.bool (!ms.all (takesOne l))) ∧ Below w.heap.size w w' := by
  have HS := Lib.hid (sIdxM ms l lB v vl n w hn hm h hB)
  clear hm h hB
  go_enter Try.func53, Try.ntmps53; (try simp only [List.append_eq, List.cons_append, List.nil_append])
  go_wp2_with (go_at_call 69; refine HS.out.mono ?_; rintro e w' ⟨i, rfl, hi, hb⟩; have Hi := Lib.hid hi; have HB := Lib.hid hb; clear hi hb)
  all_goals go_ret
  all_goals exact ⟨ret_bool (by rw [← Hi.out]), HB.out⟩

set_option maxHeartbeats 1000000 in
theorem lTakes (ms : List Mat) (l : List Lab) (v vl : Value) (n : Nat) (w : World) (hn : n ≤ w.heap.size) (hm : IsMats n w v ms) (h : IsLabs n w vl l) :
    Calls Try.prog 33 #[v, vl] w fun e w' => e = .returned (.bool (takesAll ms l)) ∧ Below w.heap.size w w' := by
  obtain ⟨p, cap, rfl, _, _, hl⟩ := h.open
  have hb0 := (Below.refl w.heap.size w).alloc (Nat.le_refl _) (.cells #[.slice p l.length cap] 31)
  have hc0 : (w.alloc (.cells #[.slice p l.length cap] 31)).cell? ⟨w.heap.size, 0, none⟩ = some (.slice p l.length cap) := World.cell?_alloc_new _ _ _ _
  obtain ⟨W1, hW1⟩ : ∃ W1, w.alloc (.cells #[.slice p l.length cap] 31) = W1 := ⟨_, rfl⟩
  have HW1 := Lib.hid hW1
  rw [hW1] at hb0 hc0
  have hs0 : w.heap.size < W1.heap.size := by rw [← hW1]; simp
  have HB0 := Lib.hid hb0; have HC0 := Lib.hid hc0
  have HM := Lib.hid (fun X (hX : Below W1.heap.size W1 X) => lCheckMatch ms v n X (by have := hX.size; omega) (hm.mono ((hb0.trans (hX.mono (by omega))).mono hn) (Nat.le_refl _)))
  have HL := Lib.hid (fun X (hX : Below W1.heap.size W1 X) => lCheck l (.slice p l.length cap) n X (by have := hX.size; omega) (h.mono ((hb0.trans (hX.mono (by omega))).mono hn) (Nat.le_refl _)))
  have HS := Lib.hid (fun X (hX : Below W1.heap.size W1 X) => sContM ms l w.heap.size v (.slice p l.length cap) n X (by have := hX.size; omega) (hm.mono ((hb0.trans (hX.mono (by omega))).mono hn) (Nat.le_refl _)) (h.mono ((hb0.trans (hX.mono (by omega))).mono hn) (Nat.le_refl _)) ((hX.cell (p := ⟨w.heap.size, 0, none⟩) hs0).trans hc0))
  clear hm h hb0 hc0 hW1
  unfold takesAll
  go_enter Try.func33, Try.ntmps33; (try simp only [List.append_eq, List.cons_append, List.nil_append])
  go_upto_region 1 with fail
  rw [HW1.out]
  have HR := Lib.hid (Below.refl W1.heap.size W1)
  have c0 := HC0.out
  by_cases h1 : checkMats ms = 0
  · by_cases h2 : checkL l = 0
    · go_wp2_with (first
        | (go_at_call 52; refine (HM.out _ HR.out).mono ?_; rintro e w2 ⟨rfl, hb⟩; rw [h1]; have HR := Lib.hid (HR.out.trans (hb.mono HR.out.size)); clear hb; clear c0; have c0 := (HR.out.cell (p := ⟨w.heap.size, 0, none⟩) hs0).trans HC0.out)
        | (go_at_call 39; refine (HL.out _ HR.out).mono ?_; rintro e w3 ⟨rfl, hb⟩; rw [h2]; have HR := Lib.hid (HR.out.trans (hb.mono HR.out.size)); clear hb; clear c0; have c0 := (HR.out.cell (p := ⟨w.heap.size, 0, none⟩) hs0).trans HC0.out)
        | (go_at_call 53; refine (HS.out _ HR.out).mono ?_; rintro e w4 ⟨rfl, hb⟩; have HR := Lib.hid (HR.out.trans (hb.mono HR.out.size)); clear hb))
      all_goals go_ret
      all_goals exact ⟨ret_bool (by rw [h1, h2]; simp), HB0.out.trans (HR.out.mono HB0.out.size)⟩
    · have h2' : (checkL l != 0) = true := by simpa using h2
      go_wp2_with (first
        | (go_at_call 52; refine (HM.out _ HR.out).mono ?_; rintro e w2 ⟨rfl, hb⟩; rw [h1]; have HR := Lib.hid (HR.out.trans (hb.mono HR.out.size)); clear hb; clear c0; have c0 := (HR.out.cell (p := ⟨w.heap.size, 0, none⟩) hs0).trans HC0.out)
        | (go_at_call 39; refine (HL.out _ HR.out).mono ?_; rintro e w3 ⟨rfl, hb⟩; have HR := Lib.hid (HR.out.trans (hb.mono HR.out.size)); clear hb))
      all_goals go_ret
      all_goals exact ⟨ret_bool (by simp [h2]), HB0.out.trans (HR.out.mono HB0.out.size)⟩
  · have h1' : (checkMats ms != 0) = true := by simpa using h1
    go_wp2_with (go_at_call 52; refine (HM.out _ HR.out).mono ?_; rintro e w2 ⟨rfl, hb⟩; have HR := Lib.hid (HR.out.trans (hb.mono HR.out.size)); clear hb; clear c0; have c0 := (HR.out.cell (p := ⟨w.heap.size, 0, none⟩) hs0).trans HC0.out)
    all_goals go_ret
    all_goals exact ⟨ret_bool (by simp [h1]), HB0.out.trans (HR.out.mono HB0.out.size)⟩
end Go.Proofs.Ytkheeiipkdeihaa
