/- Lines tell a vector, and no other one: plain. No program function is walked here. -/
import Derived.Test.YtgmdlnobajmjfaaDoorSm6
namespace Go.Proofs.YtgmdlnobajmjfaaDoor
open Go.RowKit
set_option linter.unusedSimpArgs false
set_option linter.unusedVariables false

theorem split_at {d : UInt8} : ∀ {a b A B : List UInt8}, (∀ c ∈ a, c ≠ d) → (∀ c ∈ b, c ≠ d) → a ++ d :: A = b ++ d :: B → a = b ∧ A = B
  | [], [], _, _, _, _, h => ⟨rfl, by simpa using h⟩
  | [], y :: b, _, _, _, hb, h => by
    simp only [List.nil_append, List.cons_append, List.cons.injEq] at h
    exact absurd h.1.symm (hb y (by simp))
  | x :: a, [], _, _, ha, _, h => by
    simp only [List.nil_append, List.cons_append, List.cons.injEq] at h
    exact absurd h.1 (ha x (by simp))
  | x :: a, y :: b, A, B, ha, hb, h => by
    simp only [List.cons_append, List.cons.injEq] at h
    obtain ⟨h1, h2⟩ := split_at (fun c hc => ha c (by simp [hc])) (fun c hc => hb c (by simp [hc])) h.2
    exact ⟨by rw [h.1, h1], h2⟩
/-! ### numbers -/
def dv (l : List UInt8) : Nat := l.foldl (fun a c => a * 10 + (c.toNat - 48)) 0
theorem dig_toNat (m : Nat) : (UInt8.ofNat (48 + m % 10)).toNat = 48 + m % 10 := by
  rw [UInt8.toNat_ofNat']
  omega
theorem dec_all (n : Nat) : ∀ c ∈ Lib.decDigits n, 48 ≤ c.toNat ∧ c.toNat ≤ 57 := by
  induction n using Nat.strongRecOn with
  | ind n ih =>
    intro c hc
    rw [Lib.decDigits] at hc
    split at hc
    · rename_i h
      have hc := List.mem_singleton.1 hc
      subst hc
      have := dig_toNat n
      rw [show n % 10 = n by omega] at this
      omega
    · rename_i h
      rcases List.mem_append.1 hc with hc | hc
      · exact ih (n / 10) (by omega) c hc
      · have hc := List.mem_singleton.1 hc
        subst hc
        have := dig_toNat n
        omega
theorem dec_val (n : Nat) : dv (Lib.decDigits n) = n := by
  induction n using Nat.strongRecOn with
  | ind n ih =>
    rw [Lib.decDigits]
    split
    · rename_i h
      have := dig_toNat n
      rw [show n % 10 = n by omega] at this
      show 0 * 10 + ((UInt8.ofNat (48 + n)).toNat - 48) = n
      rw [this]; omega
    · rename_i h
      have h1 := ih (n / 10) (by omega)
      have h2 := dig_toNat n
      unfold dv at h1 ⊢
      rw [List.foldl_append, h1]
      simp only [List.foldl_cons, List.foldl_nil]
      rw [h2]
      omega
theorem itoa_inj {a b : Int} (h : Lib.itoa a = Lib.itoa b) : a = b := by
  unfold Lib.itoa at h
  by_cases ha : a < 0
  · rw [if_pos ha] at h
    by_cases hb : b < 0
    · rw [if_pos hb] at h
      simp only [List.cons.injEq, true_and] at h
      have := congrArg dv h
      rw [dec_val, dec_val] at this
      omega
    · rw [if_neg hb] at h
      have := dec_all b.toNat 45 (by rw [← h]; simp)
      exact absurd this.1 (by decide)
  · rw [if_neg ha] at h
    by_cases hb : b < 0
    · rw [if_pos hb] at h
      have := dec_all a.toNat 45 (by rw [h]; simp)
      exact absurd this.1 (by decide)
    · rw [if_neg hb] at h
      have := congrArg dv h
      rw [dec_val, dec_val] at this
      omega
theorem itoa_all (n : Int) : ∀ c ∈ Lib.itoa n, c = 45 ∨ (48 ≤ c.toNat ∧ c.toNat ≤ 57) := by
  intro c hc
  unfold Lib.itoa at hc
  split at hc
  · rcases List.mem_cons.1 hc with rfl | hc
    · exact .inl rfl
    · exact .inr (dec_all _ c hc)
  · exact .inr (dec_all _ c hc)
theorem itoa_ne (n : Int) : Lib.itoa n ≠ [111, 118, 101, 114] := by
  intro h
  rcases itoa_all n 111 (by rw [h]; simp) with h1 | h1
  · exact absurd h1 (by decide)
  · exact absurd h1.2 (by decide)
theorem val_no (r : Rs) : ∀ c ∈ valT r, c ≠ 10 ∧ c ≠ 32 := by
  intro c hc
  unfold valT at hc
  split at hc
  · simp at hc
    rcases hc with rfl | rfl | rfl | rfl <;> decide
  · rcases itoa_all _ c hc with rfl | h
    · decide
    · constructor <;> (rintro rfl; simp at h)
theorem val_inj {r s : Rs} (hr : valB r = true) (hs : valB s = true) (h : valT r = valT s) : r.n = s.n ∧ r.over = s.over := by
  obtain ⟨l1, x1, y1⟩ := r
  obtain ⟨l2, x2, y2⟩ := s
  unfold valB at hr hs
  unfold valT at h
  cases y1 <;> cases y2 <;> simp at h hr hs ⊢
  · exact itoa_inj h
  · exact absurd h (itoa_ne _)
  · exact absurd h.symm (itoa_ne _)
  · rw [hr, hs]
/-! ### texts in quotes -/
theorem hex_inj : ∀ i j : Fin 16, hexAt i.val = hexAt j.val → i = j := by decide +kernel
theorem hex_vals : ∀ i : Fin 16, hexAt i.val ≠ 10 := by decide +kernel
theorem qc_no10 (c : UInt8) : ∀ x ∈ qc c, x ≠ 10 := by
  intro x hx
  unfold qc at hx
  split at hx
  · rename_i h
    simp at hx
    rcases hx with rfl | rfl
    · decide
    · rcases h with rfl | rfl <;> decide
  · split at hx
    · simp at hx
      rcases hx with rfl | rfl | rfl | rfl
      · decide
      · decide
      · have := c.toNat_lt
        exact hex_vals ⟨c.toNat / 16, by omega⟩
      · exact hex_vals ⟨c.toNat % 16, by omega⟩
    · rename_i h
      simp at hx; subst hx
      rintro rfl
      exact h (.inl (by decide))
theorem quote_no10 (l : List UInt8) : ∀ x ∈ quoteL l, x ≠ 10 := by
  intro x hx
  unfold quoteL qs at hx
  simp only [List.mem_append, List.mem_cons, List.mem_flatMap, List.not_mem_nil, or_false] at hx
  rcases hx with (rfl | ⟨c, -, hc⟩) | rfl
  · decide
  · exact qc_no10 c x hc
  · decide
theorem qc_head (c : UInt8) : ∃ a r, qc c = a :: r ∧ a ≠ 34 := by
  unfold qc
  split
  · exact ⟨_, _, rfl, by decide⟩
  · split
    · exact ⟨_, _, rfl, by decide⟩
    · rename_i h _
      exact ⟨_, _, rfl, fun e => h (.inr e)⟩
theorem qc_inj {c d : UInt8} {X Y : List UInt8} (h : qc c ++ X = qc d ++ Y) : c = d ∧ X = Y := by
  unfold qc at h
  by_cases c1 : c = 92 ∨ c = 34
  · rw [if_pos c1] at h
    by_cases d1 : d = 92 ∨ d = 34
    · rw [if_pos d1] at h
      simp only [List.cons_append, List.nil_append, List.cons.injEq, true_and] at h
      exact h
    · rw [if_neg d1] at h
      by_cases d2 : d < 32 ∨ 126 < d
      · rw [if_pos d2] at h
        simp only [List.cons_append, List.nil_append, List.cons.injEq, true_and] at h
        rcases c1 with rfl | rfl
        · exact absurd h.1 (by decide)
        · exact absurd h.1 (by decide)
      · rw [if_neg d2] at h
        simp only [List.cons_append, List.nil_append, List.cons.injEq] at h
        exact absurd (.inl h.1.symm) d1
  · rw [if_neg c1] at h
    by_cases c2 : c < 32 ∨ 126 < c
    · rw [if_pos c2] at h
      by_cases d1 : d = 92 ∨ d = 34
      · rw [if_pos d1] at h
        simp only [List.cons_append, List.nil_append, List.cons.injEq, true_and] at h
        rcases d1 with rfl | rfl
        · exact absurd h.1 (by decide)
        · exact absurd h.1 (by decide)
      · rw [if_neg d1] at h
        by_cases d2 : d < 32 ∨ 126 < d
        · rw [if_pos d2] at h
          simp only [List.cons_append, List.nil_append, List.cons.injEq, true_and] at h
          have hc := c.toNat_lt
          have hd := d.toNat_lt
          have e1 := hex_inj ⟨c.toNat / 16, by omega⟩ ⟨d.toNat / 16, by omega⟩ h.1
          have e2 := hex_inj ⟨c.toNat % 16, by omega⟩ ⟨d.toNat % 16, by omega⟩ h.2.1
          simp only [Fin.mk.injEq] at e1 e2
          exact ⟨UInt8.toNat_inj.1 (by omega), h.2.2⟩
        · rw [if_neg d2] at h
          simp only [List.cons_append, List.nil_append, List.cons.injEq] at h
          exact absurd (.inl h.1.symm) d1
    · rw [if_neg c2] at h
      by_cases d1 : d = 92 ∨ d = 34
      · rw [if_pos d1] at h
        simp only [List.cons_append, List.nil_append, List.cons.injEq] at h
        exact absurd (.inl h.1) c1
      · rw [if_neg d1] at h
        by_cases d2 : d < 32 ∨ 126 < d
        · rw [if_pos d2] at h
          simp only [List.cons_append, List.nil_append, List.cons.injEq] at h
          exact absurd (.inl h.1) c1
        · rw [if_neg d2] at h
          simp only [List.cons_append, List.nil_append, List.cons.injEq] at h
          exact h
theorem qs_inj : ∀ {a b A B : List UInt8}, qs a ++ 34 :: A = qs b ++ 34 :: B → a = b ∧ A = B
  | [], [], _, _, h => ⟨rfl, by simpa [qs] using h⟩
  | [], d :: b, A, B, h => by
    obtain ⟨x, r, e, hx⟩ := qc_head d
    unfold qs at h
    rw [List.flatMap_cons, e] at h
    simp only [List.flatMap_nil, List.nil_append, List.cons_append, List.cons.injEq] at h
    exact absurd h.1.symm hx
  | c :: a, [], A, B, h => by
    obtain ⟨x, r, e, hx⟩ := qc_head c
    unfold qs at h
    rw [List.flatMap_cons, e] at h
    simp only [List.flatMap_nil, List.nil_append, List.cons_append, List.cons.injEq] at h
    exact absurd h.1 hx
  | c :: a, d :: b, A, B, h => by
    unfold qs at h
    rw [List.flatMap_cons, List.flatMap_cons, List.append_assoc, List.append_assoc] at h
    obtain ⟨e1, h2⟩ := qc_inj h
    obtain ⟨e2, h3⟩ := qs_inj (a := a) (b := b) h2
    exact ⟨by rw [e1, e2], h3⟩
theorem quote_inj {a b A B : List UInt8} (h : quoteL a ++ A = quoteL b ++ B) : a = b ∧ A = B := by
  unfold quoteL at h
  simp only [List.cons_append, List.append_assoc, List.cons.injEq, true_and, List.nil_append] at h
  exact qs_inj h
/-! ### labels -/
def partL8 (x : Lab) : List UInt8 := x.name.data.toList ++ 61 :: quoteL x.text.data.toList
theorem part_eq (x : Lab) : (partT x).data.toList = partL8 x := by
  unfold partT partL8
  simp
theorem name_no {s : ByteArray} (h : nameB s = true) : ∀ c ∈ s.data.toList, c ≠ 61 ∧ c ≠ 10 := by
  intro c hc
  unfold nameB at h
  simp only [Bool.and_eq_true, decide_eq_true_eq] at h
  have := List.all_eq_true.1 h.2 c hc
  constructor <;> (rintro rfl; exact absurd this (by decide))
theorem part_inj {x y : Lab} {A B : List UInt8} (hx : nameB x.name = true) (hy : nameB y.name = true) (h : partL8 x ++ A = partL8 y ++ B) : x = y ∧ A = B := by
  unfold partL8 at h
  simp only [List.append_assoc, List.cons_append] at h
  obtain ⟨e1, h2⟩ := split_at (fun c hc => (name_no hx c hc).1) (fun c hc => (name_no hy c hc).1) h
  obtain ⟨e2, h3⟩ := quote_inj h2
  refine ⟨?_, h3⟩
  obtain ⟨⟨⟨n1⟩⟩, ⟨⟨t1⟩⟩⟩ := x
  obtain ⟨⟨⟨n2⟩⟩, ⟨⟨t2⟩⟩⟩ := y
  simp at e1 e2
  rw [e1, e2]
def tailT : List Lab → List UInt8
  | [] => [125]
  | x :: l => 44 :: (partL8 x ++ tailT l)
def bodyT : List Lab → List UInt8
  | [] => [125]
  | x :: l => partL8 x ++ tailT l
theorem join_tail : ∀ (l : List Lab) (x : Lab), Lib.join ((x :: l).map partL8) [44] ++ [125] = partL8 x ++ tailT l
  | [], x => by simp [Lib.join_one, tailT]
  | y :: l, x => by
    have h := join_tail l y
    have e : Lib.join ((x :: y :: l).map partL8) [44] = partL8 x ++ [44] ++ Lib.join ((y :: l).map partL8) [44] := by
      simp only [List.map_cons]
      rw [Lib.join_cons, Lib.join_cons]; simp [Lib.joinTail]
    rw [e, List.append_assoc, h]
    simp [tailT]
theorem text_eq (l : List Lab) : (textB l).data.toList = 123 :: bodyT l := by
  unfold textB
  have e : (l.map fun x => (partT x).data.toList) = l.map partL8 := List.map_congr_left fun x _ => part_eq x
  rw [e]
  cases l with
  | nil => simp [bodyT, Lib.join_nil]
  | cons x l =>
    have := join_tail l x
    simp only [bodyT]
    rw [← this]
    simp
theorem tail_inj : ∀ {l m : List Lab} {A B : List UInt8}, (∀ x ∈ l, nameB x.name = true) → (∀ x ∈ m, nameB x.name = true) → tailT l ++ A = tailT m ++ B → l = m ∧ A = B
  | [], [], _, _, _, _, h => ⟨rfl, by simpa [tailT] using h⟩
  | [], y :: m, _, _, _, _, h => by simp [tailT] at h
  | x :: l, [], _, _, _, _, h => by simp [tailT] at h
  | x :: l, y :: m, A, B, hl, hm, h => by
    simp only [tailT, List.cons_append, List.cons.injEq, true_and, List.append_assoc] at h
    obtain ⟨e1, h2⟩ := part_inj (hl x (by simp)) (hm y (by simp)) h
    obtain ⟨e2, h3⟩ := tail_inj (fun z hz => hl z (by simp [hz])) (fun z hz => hm z (by simp [hz])) h2
    exact ⟨by rw [e1, e2], h3⟩
theorem part_head {x : Lab} (hx : nameB x.name = true) : ∃ a r, partL8 x = a :: r ∧ a ≠ 125 := by
  unfold partL8
  cases h : x.name.data.toList with
  | nil => exact ⟨61, _, rfl, by decide⟩
  | cons a r =>
    refine ⟨a, _, rfl, ?_⟩
    rintro rfl
    unfold nameB at hx
    simp only [Bool.and_eq_true, decide_eq_true_eq] at hx
    have := List.all_eq_true.1 hx.2 125 (by rw [h]; simp)
    exact absurd this (by decide)
theorem text_inj {l m : List Lab} {A B : List UInt8} (hl : checkL l = 0) (hm : checkL m = 0) (h : (textA l).data.toList ++ A = (textA m).data.toList ++ B) : l = m ∧ A = B := by
  have nl := fun x hx => ((checkL_mem hl).2 x hx).1
  have nm := fun x hx => ((checkL_mem hm).2 x hx).1
  unfold textA at h
  rw [if_pos hl, if_pos hm, text_eq, text_eq] at h
  simp only [List.cons_append, List.cons.injEq, true_and] at h
  cases l with
  | nil =>
    cases m with
    | nil => exact ⟨rfl, by simpa [bodyT] using h⟩
    | cons y m =>
      obtain ⟨a, r, e, ha⟩ := part_head (nm y (by simp))
      simp only [bodyT, e, List.cons_append, List.nil_append, List.cons.injEq] at h
      exact absurd h.1.symm ha
  | cons x l =>
    cases m with
    | nil =>
      obtain ⟨a, r, e, ha⟩ := part_head (nl x (by simp))
      simp only [bodyT, e, List.cons_append, List.nil_append, List.cons.injEq] at h
      exact absurd h.1 ha
    | cons y m =>
      simp only [bodyT, List.append_assoc] at h
      obtain ⟨e1, h2⟩ := part_inj (nl x (by simp)) (nm y (by simp)) h
      obtain ⟨e2, h3⟩ := tail_inj (fun z hz => nl z (by simp [hz])) (fun z hz => nm z (by simp [hz])) h2
      exact ⟨by rw [e1, e2], h3⟩
theorem tail_no10 : ∀ {l : List Lab}, (∀ x ∈ l, nameB x.name = true) → ∀ c ∈ tailT l, c ≠ 10
  | [], _, c, hc => by simp [tailT] at hc; subst hc; decide
  | x :: l, h, c, hc => by
    simp only [tailT, List.mem_cons, List.mem_append] at hc
    rcases hc with rfl | hc | hc
    · decide
    · unfold partL8 at hc
      simp only [List.mem_append, List.mem_cons] at hc
      rcases hc with hc | rfl | hc
      · exact (name_no (h x (by simp)) c hc).2
      · decide
      · exact quote_no10 _ c hc
    · exact tail_no10 (fun y hy => h y (by simp [hy])) c hc
theorem textA_no10 (l : List Lab) : ∀ c ∈ (textA l).data.toList, c ≠ 10 := by
  intro c hc
  unfold textA at hc
  by_cases h : checkL l = 0
  · rw [if_pos h, text_eq] at hc
    have hn := fun x hx => ((checkL_mem h).2 x hx).1
    rcases List.mem_cons.1 hc with rfl | hc
    · decide
    · cases l with
      | nil => simp [bodyT] at hc; subst hc; decide
      | cons x l =>
        exact tail_no10 hn c (by simp only [tailT]; exact List.mem_cons.2 (.inr hc))
  · rw [if_neg h] at hc
    simp at hc
/-! ### lines -/
def bodyL (r : Rs) : List UInt8 := (textA r.labs).data.toList ++ 32 :: valT r
theorem line_eq (r : Rs) : lineT r = bodyL r ++ [10] := by unfold lineT bodyL; simp
theorem body_no (r : Rs) : ∀ c ∈ bodyL r, c ≠ 10 := by
  intro c hc
  unfold bodyL at hc
  simp only [List.mem_append, List.mem_cons] at hc
  rcases hc with hc | rfl | hc
  · exact textA_no10 _ c hc
  · decide
  · exact (val_no r c hc).1
theorem body_inj {r s : Rs} (hr : rightR r = true) (hs : rightR s = true) (h : bodyL r = bodyL s) : r = s := by
  unfold bodyL at h
  have hr' : checkL r.labs = 0 ∧ valB r = true := by unfold rightR at hr; simpa using hr
  have hs' : checkL s.labs = 0 ∧ valB s = true := by unfold rightR at hs; simpa using hs
  obtain ⟨e1, h2⟩ := text_inj hr'.1 hs'.1 h
  simp only [List.cons.injEq, true_and] at h2
  obtain ⟨e3, e4⟩ := val_inj hr'.2 hs'.2 h2
  cases r; cases s
  simp_all
theorem lines_inj : ∀ {v w : List Rs}, (∀ r ∈ v, rightR r = true) → (∀ r ∈ w, rightR r = true) → linesT v = linesT w → v = w
  | [], [], _, _, _ => rfl
  | [], s :: w, _, _, h => by
    unfold linesT at h
    rw [List.flatMap_cons, line_eq] at h
    simp at h
  | r :: v, [], _, _, h => by
    unfold linesT at h
    rw [List.flatMap_cons, line_eq] at h
    simp at h
  | r :: v, s :: w, hv, hw, h => by
    unfold linesT at h
    rw [List.flatMap_cons, List.flatMap_cons, line_eq, line_eq] at h
    simp only [List.append_assoc, List.cons_append, List.nil_append] at h
    obtain ⟨e1, h2⟩ := split_at (body_no r) (body_no s) h
    rw [body_inj (hv r (by simp)) (hw s (by simp)) e1, lines_inj (fun x hx => hv x (by simp [hx])) (fun x hx => hw x (by simp [hx])) h2]
theorem lines_count (v : List Rs) : (linesT v).count 10 = v.length := by
  induction v with
  | nil => rfl
  | cons r v ih =>
    unfold linesT at ih ⊢
    rw [List.flatMap_cons, List.count_append, ih, line_eq, List.count_append, List.count_eq_zero.2 (fun h => body_no r 10 h rfl)]
    simp; omega
theorem lines_same {v w : List Rs} (hv : checkV v = 0) (hw : checkV w = 0) : decide ((⟨(linesT v).toArray⟩ : ByteArray) = ⟨(linesT w).toArray⟩) = decide (v = w) := by
  rw [Bool.eq_iff_iff]
  simp only [decide_eq_true_eq]
  constructor
  · intro h
    have h1 : (linesT v).toArray = (linesT w).toArray := by injection h
    exact lines_inj (checkV_mem hv) (checkV_mem hw) (by simpa using h1)
  · rintro rfl; rfl
end Go.Proofs.YtgmdlnobajmjfaaDoor
