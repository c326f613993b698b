/- label.part, Only, Without; the kit's Labels, Set, LightTexts. -/
import Derived.Test.YtbllkddpmmeloaaLa6
import Derived.Test.YtbllkddpmmeloaaShelf
import Derived.BigQuiet
namespace Go.Proofs.Ytbllkddpmmeloaa
open Go.RowKit
set_option linter.unusedSimpArgs false
set_option linter.unusedVariables false

theorem sContains (l : List ByteArray) (x : ByteArray) (v : Value) (n : Nat) (w : World) (h : IsStrs n w v l) :
    Calls Try.prog 32 #[v, .string x] w fun e w' => e = .returned (.bool (amongB x l)) ∧ w = w' := by
  obtain ⟨p, cap, rfl, _, _, hl⟩ := h.open
  cases l with
  | nil => exact (Try.slices_Contains_string_empty p cap x w).mono fun e w' ⟨h1, h2⟩ => ⟨by rw [h1]; rfl, h2.symm⟩
  | cons s l =>
    obtain ⟨b, off, rfl, hbn, -⟩ := h.get (k := 0) (by simp)
    refine (Try.slices_Contains_string b off (s :: l).length cap (s :: l) x w (Nat.le_refl _) (by unfold maxLen at hl; omega) (fun j hj => ?_)).mono fun e w' ⟨h1, h2⟩ => ⟨?_, h2.symm⟩
    · obtain ⟨b', off', hp, _, hc, _⟩ := h.get hj
      cases hp
      rw [hc, List.getD_eq_getElem?_getD, List.getElem?_eq_getElem hj]; rfl
    · rw [h1, List.take_length]
      refine ret_bool ?_
      rw [Bool.eq_iff_iff, Lib.containsS_iff]
      unfold amongB
      rw [List.any_eq_true]
      constructor
      · intro h; exact ⟨x, h, by simp⟩
      · rintro ⟨y, hy, e⟩; have := of_decide_eq_true e; subst this; exact hy
theorem two_new (w : World) (x y : Value) (t g : Nat) (hg : g = w.heap.size) : ∀ j u, [x, y][j]? = some u → (w.alloc (.cells #[x, y] t)).cell? ((⟨g, 0, none⟩ : Addr).add j) = some u := by
  intro j u hu
  subst hg
  have e : (⟨w.heap.size, 0, none⟩ : Addr).add j = ⟨w.heap.size, j, none⟩ := by
    unfold Addr.add; split <;> simp
  rw [e, World.cell?_alloc_new]
  match j, hu with
  | 0, hu => simpa using hu
  | 1, hu => simpa using hu
  | j + 2, hu => simp at hu

theorem partL_step {l : List Lab} {names : List ByteArray} {among : Bool} {k : Nat} (hk : k < l.length) : (l.take (k + 1)).filter (fun x => amongB x.name names == among) = (l.take k).filter (fun x => amongB x.name names == among) ++ if amongB l[k].name names == among then [l[k]] else [] := by
  rw [List.take_succ_eq_append_getElem hk, List.filter_append]
  congr 1
  cases h : amongB l[k].name names == among <;> simp [h]

/-- A part of a set. -/
def PartIs (w : World) (l : List Lab) (e : Ending) (w' : World) : Prop := ∃ v', e = .returned v' ∧ OwnL w.heap.size w' v' l ∧ Below w.heap.size w w'
set_option maxRecDepth 100000 in
set_option maxHeartbeats 2000000 in
theorem lPart (l : List Lab) (names : List ByteArray) (among : Bool) (v vn : Value) (n : Nat) (w : World) (hn : n ≤ w.heap.size) (h : IsLabs n w v l) (hns : IsStrs n w vn names) :
    Calls Try.prog 23 #[v, vn, .bool among] w (PartIs w (partL l names among)) := by
  obtain ⟨i0, hi, hz0, hz1, hz2⟩ := info_parts infoLab
  have HCk := Lib.hid (lCheck l v n w hn h)
  obtain ⟨p, cap, rfl, _, _, hll⟩ := h.open
  unfold maxLen at hll
  have H := Lib.hid h; clear h
  have HN := Lib.hid hns; clear hns
  have HP : Hid (checkL l = 0 → partL l names among = l.filter fun x => amongB x.name names == among) := fun h => by unfold partL; rw [if_pos h]
  have HP0 : Hid (checkL l ≠ 0 → partL l names among = []) := fun h => by unfold partL; rw [if_neg h]
  obtain ⟨P, hP⟩ : ∃ P, partL l names among = P := ⟨_, rfl⟩
  rw [hP] at HP HP0 ⊢
  clear hP
  go_enter Try.func23, Try.ntmps23; (try simp only [List.append_eq, List.cons_append, List.nil_append])
  by_cases hck : checkL l = 0
  · have h8 : l.length ≤ 8 := by
      rcases Nat.lt_or_ge 8 l.length with h | h
      · rw [checkL_long h] at hck; cases hck
      · exact h
    have HPl := Lib.hid (HP.out hck)
    go_upto_region 5 with (go_at_call 11; refine HCk.out.mono ?_; rintro e w1 ⟨rfl, hb⟩; rw [hck]; have HB := Lib.hid hb; clear hb)
    have HB0 := HB; clear HB
    go_loopw [7, 15] (fun s7 i wr => ∃ k : Nat, k ≤ l.length ∧ i = .int .i64 k ∧ OwnL w.heap.size wr s7 ((l.take k).filter fun x => amongB x.name names == among) ∧ Below w.heap.size w wr) (fun _ i _ => l.length - (intOf i).toNat)
    case atStart => exact ⟨0, Nat.zero_le _, rfl, World.ownsRow_nil _ _ _ _, HB0.out⟩
    case round =>
      obtain ⟨k, hk, rfl, ho, hb⟩ := hrel
      have HO := Lib.hid ho; clear ho
      have HB := Lib.hid hb; clear hb
      have hsb := HB.out.size
      by_cases hlt : k < l.length
      · have Hstep := Lib.hid (partL_step (names := names) (among := among) hlt)
        have hfl : ((l.take k).filter fun x => amongB x.name names == among).length ≤ l.length := Nat.le_trans (List.length_filter_le _ _) (by rw [List.length_take]; omega)
        obtain ⟨b, off, rfl, hbn, h1, h2, hs1, hs2⟩ := (H.out.mono (HB.out.mono hn) (Nat.le_refl _)).get hlt
        obtain ⟨F, hF⟩ : ∃ F, (l.take k).filter (fun x => amongB x.name names == among) = F := ⟨_, rfl⟩
        rw [hF] at HO Hstep hfl
        clear hF
        generalize l[k] = x at *
        have HCt := Lib.hid (fun X (hX : wr.alloc (.cells #[.string x.name, .string x.text] 28) = X) => sContains names x.name vn n X (by subst hX; exact (HN.out.mono (HB.out.mono hn) (Nat.le_refl _)).mono ((Below.refl _ _).alloc (by omega) _) (Nat.le_refl _)))
        have hb2 : Below w.heap.size w (wr.alloc (.cells #[.string x.name, .string x.text] 28)) := HB.out.alloc hsb _
        have HB2 := Lib.hid hb2; clear hb2
        cases ha : amongB x.name names == among with
        | false =>
          rw [ha] at Hstep
          have ha' : (amongB x.name names == among) = false := ha
          go_wp2_with (go_at_call 32; refine (HCt.out _ rfl).mono ?_; rintro e w' ⟨rfl, rfl⟩)
          refine ⟨⟨k + 1, by omega, by go_num, ?_, HB2.out⟩, by simp [intOf]; omega⟩
          rw [Hstep.out, if_neg (by simp), List.append_nil]
          exact HO.out.keep ((Below.refl _ _).alloc (Nat.le_refl _) _)
        | true =>
          rw [ha] at Hstep
          have ha' : (amongB x.name names == among) = true := ha
          go_wp2_with (first
            | (go_at_call 32; refine (HCt.out _ rfl).mono ?_; rintro e w' ⟨rfl, rfl⟩)
            | (at_builtin; refine wpList_append_src _ rfl _ _ _ rfl w.heap.size 28 i0 _ 2 32 Try.underlying22 hi hz0 hz1 hz2 rfl (by decide) _ _ (flat F) rfl (ownsRow_keep HO.out (((Below.refl _ _).alloc (Nat.le_refl _) _).alloc (by simp) _)) _ 1 [.string x.name, .string x.text] rfl (.inr ⟨_, 1, rfl, rfl, two_new (wr.alloc (.cells #[.string x.name, .string x.text] 28)) _ _ _ (wr.heap.size + 1) (by simp)⟩) (flat_one [x]) (by unfold maxLen; omega) (by omega) (by simp; omega) ?_; intro v3 w3 hown3 hgr3 hat3))
          refine ⟨⟨k + 1, by omega, by go_num, ?_, below_app (HB2.out.alloc (by simp; omega) _) (ownsRow_keep HO.out (((Below.refl _ _).alloc (Nat.le_refl _) _).alloc (by simp) _)) hgr3 (Nat.le_refl _) (by simp; omega)⟩, by simp [intOf]; omega⟩
          rw [Hstep.out, if_pos trivial]
          unfold OwnL
          rw [List.length_append, flat_append]
          exact hown3
      · have hk' : k = l.length := by omega
        subst hk'
        rw [List.take_length, ← HPl.out] at HO
        go_wp2
        go_ret
        exact ⟨_, rfl, HO.out, HB.out⟩
  · have hck' : (checkL l != 0) = true := by simpa using hck
    have HP1 := Lib.hid (HP0.out hck)
    go_wp2_with (go_at_call 11; refine HCk.out.mono ?_; rintro e w1 ⟨rfl, hb⟩; have HB := Lib.hid hb; clear hb)
    go_ret
    exact ⟨_, rfl, by rw [HP1.out]; exact World.ownsRow_nil _ _ _ _, HB.out⟩

theorem lOnly (l : List Lab) (names : List ByteArray) (v vn : Value) (n : Nat) (w : World) (hn : n ≤ w.heap.size) (h : IsLabs n w v l) (hns : IsStrs n w vn names) :
    Calls Try.prog 9 #[v, vn] w (PartIs w (partL l names true)) := by
  have HP := Lib.hid (lPart l names true v vn n w hn h hns); clear h hns
  go_enter Try.func9, Try.ntmps9; (try simp only [List.append_eq, List.cons_append, List.nil_append])
  go_wp2_with (go_at_call 23; refine HP.out.mono ?_; rintro e w1 ⟨v1, rfl, ho, hb⟩; have HR := Lib.hid (show PartIs w (partL l names true) (.returned v1) w1 from ⟨v1, rfl, ho, hb⟩); clear ho hb)
  go_ret
  exact HR.out
theorem lWithout (l : List Lab) (names : List ByteArray) (v vn : Value) (n : Nat) (w : World) (hn : n ≤ w.heap.size) (h : IsLabs n w v l) (hns : IsStrs n w vn names) :
    Calls Try.prog 10 #[v, vn] w (PartIs w (partL l names false)) := by
  have HP := Lib.hid (lPart l names false v vn n w hn h hns); clear h hns
  go_enter Try.func10, Try.ntmps10; (try simp only [List.append_eq, List.cons_append, List.nil_append])
  go_wp2_with (go_at_call 23; refine HP.out.mono ?_; rintro e w1 ⟨v1, rfl, ho, hb⟩; have HR := Lib.hid (show PartIs w (partL l names false) (.returned v1) w1 from ⟨v1, rfl, ho, hb⟩); clear ho hb)
  go_ret
  exact HR.out

theorem lab_ext {a b : Lab} (h2 : a.name = b.name) (h3 : a.text = b.text) : a = b := by
  cases a; cases b; simp_all
theorem eq_of_upto' {α : Type} {a b : List α} (hl : a.length = b.length) (h : a.take a.length = b.take a.length) : a = b := by
  rwa [List.take_of_length_le (Nat.le_refl _), List.take_of_length_le (by omega)] at h
theorem take_eq_step' {α : Type} {a b : List α} {k : Nat} (h : a.take k = b.take k) (ha : k < a.length) (hb : k < b.length) (he : a[k] = b[k]) : a.take (k + 1) = b.take (k + 1) := by
  rw [List.take_succ_eq_append_getElem ha, List.take_succ_eq_append_getElem hb, h, he]
theorem ne_of_at' {α : Type} {a b : List α} {k : Nat} (ha : k < a.length) (hb : k < b.length) (he : ¬ a[k] = b[k]) : ¬ a = b := by
  intro e; subst e; exact he rfl
theorem labNe (a b : Lab) (w : World) :
    (binOp BinOp.neq 28 (.agg #[.string a.name, .string a.text]) (.agg #[.string b.name, .string b.text])).run Try.prog w = .ok (.bool (!decide (a = b))) w := by
  rw [run_neq_struct]
  have h : (Op.equalIn 10000 28 (.agg #[.string a.name, .string a.text]) (.agg #[.string b.name, .string b.text])).run Try.prog w = .ok (decide (a = b)) w := by
    by_cases h2 : a.name = b.name
    · by_cases h3 : a.text = b.text
      · rw [decide_eq_true (lab_ext h2 h3)]
        simp [go_sem, h2, h3]
      · rw [decide_eq_false (fun e => h3 (by rw [e]))]
        have h3' : (a.text == b.text) = false := by rw [beq_ba]; exact decide_eq_false h3
        simp [go_sem, h2, h3', ← beq_toListBytes]
    · rw [decide_eq_false (fun e => h2 (by rw [e]))]
      have h2' : (a.name == b.name) = false := by rw [beq_ba]; exact decide_eq_false h2
      simp [go_sem, h2', ← beq_toListBytes]
  rw [h]; rfl

set_option maxHeartbeats 400000 in
theorem kLabels (la lb : List Lab) (va vb : Value) (n : Nat) (w : World) (hn : n ≤ w.heap.size) (ha : IsLabs n w va la) (hb : IsLabs n w vb lb) :
    Calls Try.prog 8 #[va, vb] w fun e w' => e = .returned (.bool (decide (la = lb))) ∧ Below w.heap.size w w' := by
  obtain ⟨p, cap, rfl, _, _, hla⟩ := ha.open
  obtain ⟨q, cbp, rfl, _, _, hlb⟩ := hb.open
  unfold maxLen at hla hlb
  go_enter Try.func8, Try.ntmps8
  by_cases hl : la.length = lb.length
  · have Hl := Lib.hid hl; clear hl
    have hl : ((la.length : Int) != (lb.length : Int)) = false := by simp [Hl.out]
    go_wp2
    go_loopw [5] (fun i wr => ∃ k : Nat, k ≤ la.length ∧ i = .int .i64 k ∧ la.take k = lb.take k ∧ Below w.heap.size w wr) (fun i _ => la.length - (intOf i).toNat)
    case atStart => exact ⟨0, Nat.zero_le _, rfl, by simp, Below.refl _ _⟩
    case round =>
      obtain ⟨k, hk, rfl, hr, hbl⟩ := hrel
      have Hr := Lib.hid hr; clear hr
      have Hb := Lib.hid hbl; clear hbl
      by_cases hlt : k < la.length
      · have hltb : k < lb.length := by have := Hl.out; omega
        obtain ⟨b, off, rfl, hbn, h1, h2, hs1, hs2⟩ := (ha.mono (Hb.out.mono hn) (Nat.le_refl _)).get hlt
        obtain ⟨b', off', rfl, hbn', h1', h2', hs1', hs2'⟩ := (hb.mono (Hb.out.mono hn) (Nat.le_refl _)).get hltb
        have Ha := Lib.hid ha; clear ha
        have Hbb := Lib.hid hb; clear hb
        have hne := fun w => labNe la[k] lb[k] w
        go_wp2
        go_quiet (fail)
        go_wp2
        all_goals (try simp only [Bool.not_eq_true', Bool.not_eq_false', Bool.not_true, Bool.not_false, Bool.not_eq_true, Bool.not_eq_false, beq_iff_eq, beq_eq_false_iff_ne, bne_iff_ne, ne_eq, bne_eq_false_iff_eq, decide_eq_true_eq, decide_eq_false_iff_not, toList_inj] at *)
        · go_ret
          refine ⟨ret_bool (Eq.symm (decide_eq_false (ne_of_at' hlt hltb ?_))), below_drewN Hb.out _⟩
          assumption
        · refine ⟨⟨k + 1, by omega, by go_num, take_eq_step' Hr.out hlt hltb ?_, below_drewN Hb.out _⟩, by simp [intOf]; omega⟩
          assumption
      · go_wp2
        go_ret
        refine ⟨ret_bool (Eq.symm (decide_eq_true ?_)), Hb.out⟩
        have hk' : k = la.length := by omega
        subst hk'
        exact eq_of_upto' Hl.out Hr.out
  · have hl' : ((la.length : Int) != (lb.length : Int)) = true := by simp; omega
    go_wp2
    go_ret
    exact ⟨ret_bool (Eq.symm (decide_eq_false (fun e => hl (by rw [e])))), Below.refl _ _⟩

def LightIs (l : List ByteArray) (w : World) (e : Ending) (w' : World) : Prop := ∃ b, e = .returned (.bool b) ∧ (b = true → l.length ≤ 30) ∧ w = w'
set_option maxHeartbeats 1000000 in
theorem kLightTexts (l : List ByteArray) (v : Value) (n : Nat) (w : World) (h : IsStrs n w v l) :
    Calls Try.prog 15 #[v, .int .i64 30] w (LightIs l w) := by
  obtain ⟨p, cap, rfl, _, _, hl⟩ := h.open
  unfold maxLen at hl
  have H := Lib.hid h; clear h
  go_enter Try.func15, Try.ntmps15; (try simp only [List.append_eq, List.cons_append, List.nil_append])
  go_upto_region 2 with fail
  go_loop [5] (fun i => ∃ k : Nat, k ≤ l.length ∧ k ≤ 31 ∧ i = .int .i64 k) (fun i => l.length - (intOf i).toNat)
  case atStart => exact ⟨0, Nat.zero_le _, by omega, rfl⟩
  case round =>
    obtain ⟨k, hk, hk2, rfl⟩ := hrel
    by_cases hlt : k < l.length
    · by_cases h30 : k ≤ 30
      · obtain ⟨b, off, rfl, hbn, h1, hs1⟩ := H.out.get hlt
        generalize l[k] = s at *
        have c1 : (k : Int) ≤ 30 := by omega
        go_wp2
        · go_ret
          exact ⟨_, rfl, by simp, rfl⟩
        · exact ⟨⟨k + 1, by omega, by omega, by go_num⟩, by simp [intOf]; omega⟩
      · have c1 : ¬ (k : Int) ≤ 30 := by omega
        go_wp2
        all_goals go_ret
        all_goals exact ⟨_, rfl, by simp <;> omega, rfl⟩
    · go_wp2
      all_goals go_ret
      all_goals exact ⟨_, rfl, by simp <;> omega, rfl⟩
end Go.Proofs.Ytbllkddpmmeloaa
