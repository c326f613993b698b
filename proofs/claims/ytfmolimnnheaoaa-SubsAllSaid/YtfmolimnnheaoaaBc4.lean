/- (*Board).Poll. -/
import Derived.Test.YtfmolimnnheaoaaBc3
namespace Go.Proofs.Ytfmolimnnheaoaa
open Go.RowKit
set_option linter.unusedSimpArgs false
set_option linter.unusedVariables false
open Go.Maps

theorem bPoll0 (n m : Int) (W : World) : Calls Try.prog 16 #[.pointer none, .int .i64 n, .int .i64 m] W fun e w' => e = .returned (.tuple #[.slice none 0 0, .int .i64 1]) ∧ w' = W := by
  go_enter Try.func16, Try.ntmps16; (try simp only [List.append_eq, List.cons_append, List.nil_append])
  go_wp2_with fail
  refine (bSub0 _ _).mono ?_
  rintro e w2 ⟨rfl, rfl⟩
  go_wp2
  go_ret2
  exact ⟨rfl, rfl⟩
/-- Another block turns: one of whole numbers alone. -/
theorem IsT.off {n x : Nat} {W W' : World} {v : Value} {l : List Int} {s : Sb} (h : IsT n W v l) (hx : Blk W x 70 (subC s)) (ho : OffM (fun k => k = x) W W') (hn : n ≤ W.heap.size) : IsT n W' v l := by
  obtain ⟨p, cap, hv, h1, h2, h3⟩ := h
  refine ⟨p, cap, hv, h1, h2, fun hne => ?_⟩
  obtain ⟨b, off, hp, hb, hc⟩ := h3 hne
  refine ⟨b, off, hp, hb, fun k r hr j y hy => ?_⟩
  have hbx : b ≠ x := by
    intro e
    subst e
    rw [List.getElem?_map] at hr
    cases hk : l[k]? with
    | none => rw [hk] at hr; cases hr
    | some t =>
      have h9 := hc k (toldC t) (by rw [List.getElem?_map, hk]; rfl) 1 _ rfl
      have hx' : W.heap[b]? = some (.cells (subC s).toArray 70 (0, 0)) := hx
      simp only [World.cell?, hx'] at h9
      have h8 : ∀ j : Nat, (subC s).toArray[j]? ≠ some (.slice none 0 0) := fun j => by
        match j with
        | 0 => simp [subC]
        | 1 => simp [subC]
        | 2 => simp [subC]
        | 3 => simp [subC]
        | j + 4 => simp [subC]
      exact h8 _ (by simpa using h9)
  have hcell := hc k r hr j y hy
  rw [← hcell]
  have hbk := ho.block b (by omega) hbx
  simp only [World.cell?, hbk]
theorem IsT.head {n : Nat} {w : World} {p : Option Addr} {len cap : Nat} {l : List Int} (h : IsT n w (.slice p len cap) l) {k : Nat} (hk : k ≤ l.length) : IsT n w (.slice p k cap) (l.take k) := by
  obtain ⟨p0, c0, hv, h1, h2, h3⟩ := h
  simp only [List.length_map, Value.slice.injEq] at hv
  obtain ⟨rfl, rfl, rfl⟩ := hv
  rw [List.length_map] at h1
  refine ⟨p, cap, by rw [List.length_map, List.length_take, Nat.min_eq_left hk], by rw [List.length_map, List.length_take]; omega, h2, fun hne => ?_⟩
  have hl : l ≠ [] := by intro e; subst e; simp at hne
  obtain ⟨b, off, hp, hb, hc⟩ := h3 (by simpa using hl)
  refine ⟨b, off, hp, hb, fun i r hr j y hy => hc i r ?_ j y hy⟩
  rw [List.map_take] at hr
  have hi := (List.getElem?_eq_some_iff.1 hr).1
  rw [List.length_take] at hi
  rwa [List.getElem?_take_of_lt (by omega)] at hr
theorem take_min (l : List Int) (j : Nat) : l.take (min l.length j) = l.take j := by
  rcases Nat.le_total j l.length with h | h
  · rw [Nat.min_eq_right h]
  · rw [Nat.min_eq_left h, List.take_length, List.take_of_length_le h]
section
variable {base : Nat} {W W' : World} {g hq hs nq ns xq : Nat} {q : Option Nat} {b b' : Bd} {kv kv' : Value} {bl : List Nat}
set_option maxRecDepth 100000 in
set_option maxHeartbeats 4000000 in
theorem bPoll {n m : Int} (h : BrdM base W g hq hs nq ns (some xq) b kv bl) (hn : i64 n) (hm : i64 m) (hr : Rise b.kept) (hbs : base ≤ W.heap.size) :
    Calls Try.prog 16 #[.pointer (some ⟨g, 0, none⟩), .int .i64 n, .int .i64 m] W fun e w' => ∃ v, e = .returned (.tuple #[v, .int .i64 (pollB b n m).2.2]) ∧ OwnT W.heap.size w' v (pollB b n m).2.1 ∧ BrdM base w' g hq hs nq ns (some xq) (pollB b n m).1 kv bl ∧ OffM (BTyM base W) W w' := by
  have H := Lib.hid h
  have Hr := Lib.hid hr
  have Hn := Lib.hid hn
  obtain ⟨rr, hrr⟩ : ∃ r, pollB b n m = r := ⟨_, rfl⟩
  rw [hrr]
  unfold pollB at hrr
  cases hf : findB b n with
  | none =>
    rw [hf] at hrr
    have HR := Lib.hid hrr
    have HF := Lib.hid hf
    clear hrr hf h hr
    go_enter Try.func16, Try.ntmps16; (try simp only [List.append_eq, List.cons_append, List.nil_append])
    go_wp2_with fail
    refine (bSubNone H.out Hn.out HF.out).mono ?_
    rintro e w2 ⟨rfl, rfl⟩
    go_wp2
    go_ret2
    have hr := HR.out
    subst hr
    exact ⟨_, rfl, OwnT.nil, H.out, OffM.refl _ _⟩
  | some s =>
    rw [hf] at hrr
    have HR := Lib.hid hrr
    obtain ⟨hid, k, x, h1, h2⟩ := find_at h hf
    subst hid
    have HC := Lib.hid (bSub h h1 h2)
    have hsb := h.sb k s x h1 h2
    have hx := hsb.lt
    have hg := h.blk.lt
    have hxq := (h.qb xq rfl).1
    have hxl := hxq.lt
    have c1 : W.cell? ⟨g, 1, none⟩ = some (.map (some hq)) := h.blk.cell 1 _ rfl
    have d0 : W.cell? ⟨xq, 0, none⟩ = some kv := hxq.cell 0 _ rfl
    have k1 : W.cell? ⟨x, 1, none⟩ = some (.int .i64 1) := hsb.cell 1 _ rfl
    have k2 : W.cell? ⟨x, 2, none⟩ = some (.int .i64 s.cursor) := hsb.cell 2 _ rfl
    have hlookN : ∀ k, (Instr.lookup 56 (.map (some hq)) (.int .i64 1) false).run Try.prog (W.drewN k) = .ok (.pointer (some ⟨xq, 0, none⟩)) (W.drewN k) := fun k => (h.keep (below_drewN (Below.refl _ _) k)).lookQ
    have HS := Lib.hid hsb
    have H1 := Lib.hid h1; have H2 := Lib.hid h2
    clear hrr hf h hsb h1 h2 hr hxq
    go_enter Try.func16, Try.ntmps16; (try simp only [List.append_eq, List.cons_append, List.nil_append])
    go_wp2_with fail
    refine HC.out.mono ?_
    rintro e w2 ⟨rfl, rfl⟩
    go_wp2_with fail
    go_quiet (fail)
    go_wp2_with fail
    have hbq : Below w2.heap.size w2 (w2.drewN nq) := below_drewN (Below.refl _ _) _
    obtain ⟨W3, hW3⟩ : ∃ z, w2.drewN nq = z := ⟨_, rfl⟩
    rw [hW3] at hbq ⊢
    clear hW3 hlookN c1 d0 k1 k2 hx hg hxl
    have HT := Lib.hid (OwnT.isT (H.out.keep hbq).kept (Nat.le_refl _))
    have hk4 := H.out.keptN
    refine (bAbove HT.out (Nat.le_refl _) Hr.out (by omega) s.cursor).mono ?_
    rintro e w4 ⟨rfl, hb4⟩
    have HB4 := Lib.hid (hbq.trans (hb4.mono hbq.size))
    have HT4 := Lib.hid (HT.out.mono hb4 (Nat.le_refl _))
    have hz4 := hb4.size
    clear hb4
    obtain ⟨sv, hsv, hst⟩ := cut_told HT4.out (aboveN_le b.kept s.cursor)
    obtain ⟨p5, cap5, rfl, hc5, hc6⟩ := hst.open
    obtain ⟨nl, hnl⟩ : ∃ z, (b.kept.drop (aboveN b.kept s.cursor)).length = z := ⟨_, rfl⟩
    have hnl9 : nl ≤ 4096 := by rw [← hnl, List.length_drop]; omega
    rw [hnl] at hsv hst hc5
    have HK2 := Lib.hid (show min nl (max 0 m).toNat ≤ (b.kept.drop (aboveN b.kept s.cursor)).length by rw [hnl]; exact Nat.min_le_left _ _)
    have hst2 := hst.head HK2.out
    rw [show (b.kept.drop (aboveN b.kept s.cursor)).take (min nl (max 0 m).toNat) = handed b s m by rw [← hnl, take_min]; rfl] at hst2
    have hlen2 : (handed b s m).length = min nl (max 0 m).toNat := by unfold handed; rw [List.length_take, hnl, Nat.min_comm]
    obtain ⟨n2, hn2⟩ : ∃ z, min nl (max 0 m).toNat = z := ⟨_, rfl⟩
    have hmin : min (nl : Int) (max 0 m) = (n2 : Int) := by omega
    rw [hn2] at hst2 hlen2
    have hn29 : n2 ≤ nl := by omega
    obtain ⟨hl, hhl⟩ : ∃ z, handed b s m = z := ⟨_, rfl⟩
    rw [hhl] at hst2 hlen2 HR
    have HT6 := Lib.hid hst2
    have HL2 := Lib.hid hlen2
    have H4 := Lib.hid (H.out.keep HB4.out)
    have HS4 := Lib.hid (HS.out.keep HB4.out)
    have HX := Lib.hid (H.out.low.2.2.2.2 x (List.mem_of_getElem? H2.out))
    have HN := Lib.hid (H.out.subsN s (List.mem_of_getElem? H1.out))
    have hcap : n2 ≤ cap5 := by omega
    have HB5 := Lib.hid (show OffM (BTyM base w2) w2 w4 from OffM.of HB4.out)
    have HO2 := Lib.hid (show ∀ t ∈ hl, 1 ≤ t ∧ t ≤ 1099511627776 from fun t ht => H.out.keptN.2 t (by rw [← hhl] at ht; exact List.mem_of_mem_drop (List.mem_of_mem_take ht)))
    have hx4 := HS4.out.lt
    have HHL := Lib.hid hhl
    clear hst hst2 hn2 hhl hlen2 hnl
    cases n2 with
    | zero =>
      have hnil : hl = [] := List.eq_nil_of_length_eq_zero HL2.out
      subst hnil
      go_wp2_with fail
      refine (bCopied HT6.out hz4 (by simp)).mono ?_
      rintro e w7 ⟨v7, rfl, hown, hb7⟩
      have HO7 := Lib.hid hown; have HB7 := Lib.hid hb7
      clear hown hb7
      go_wp2
      go_ret2
      have hr := HR.out
      subst hr
      have HF := Lib.hid (show (handed b s m).getLastD s.cursor = s.cursor by rw [HHL.out]; rfl)
      refine ⟨_, rfl, ownsRow_base HO7.out (by have := HB4.out.size; omega), H4.out.turnS (W' := w7) H1.out H2.out (fun _ => rfl) ?_ (OffM.of HB7.out) ?_, HB5.out.trans (OffM.of (M := fun _ => False) HB7.out) (fun _ _ h => h.elim)⟩
      · show (0 ≤ (handed b s m).getLastD s.cursor ∧ (handed b s m).getLastD s.cursor ≤ _) ∧ _
        rw [HF.out]
        exact HN.out
      · show Blk w7 x 70 [.int .i64 s.id, .int .i64 1, .int .i64 ((handed b s m).getLastD s.cursor), .int .i64 s.acked]
        rw [HF.out]
        exact HS4.out.keep HB7.out
    | succ n3 =>
      obtain ⟨t6, ht6⟩ : ∃ t, hl[n3]? = some t := ⟨_, List.getElem?_eq_getElem (by rw [HL2.out]; omega)⟩
      obtain ⟨b6, off6, rfl, hb6, e0, e1⟩ := HT6.out.get ht6
      have hb69 : b6 < w4.heap.size := by omega
      have f2 := HS4.out.free 2
      have k2 : w4.cell? ⟨x, 2, none⟩ = some (.int .i64 s.cursor) := HS4.out.cell 2 _ rfl
      have HT9 := Lib.hid ht6
      clear ht6
      have HF := Lib.hid (show (handed b s m).getLastD s.cursor = t6 by
        rw [HHL.out, List.getLastD_eq_getLast?, List.getLast?_eq_getElem?, HL2.out]
        show (hl[n3]?).getD _ = _
        rw [HT9.out]; rfl)
      have HOx := Lib.hid (OffM.cell1 w4 x 2 (.int .i64 t6))
      have HSx := Lib.hid (HS4.out.set_ 2 (.int .i64 t6))
      have HTx := Lib.hid (HT6.out.off HS4.out HOx.out hz4)
      have hz5 := HOx.out.size
      go_wp2_with fail
      obtain ⟨W5, hW5⟩ : ∃ z, w4.setCell ⟨x, 2, none⟩ (.int .i64 t6) = z := ⟨_, rfl⟩
      rw [hW5] at HOx HSx HTx hz5 ⊢
      clear hW5
      refine (bCopied HTx.out (Nat.le_trans hz4 hz5) (by have := HL2.out; omega)).mono ?_
      rintro e w7 ⟨v7, rfl, hown, hb7⟩
      have HO7 := Lib.hid hown; have HB7 := Lib.hid hb7
      clear hown hb7
      go_wp2
      go_ret2
      have hr := HR.out
      subst hr
      have HOy := Lib.hid (HOx.out.trans (OffM.of (M := fun _ => False) HB7.out) (fun _ _ h => h.elim))
      refine ⟨_, rfl, ownsRow_base HO7.out (by have := HB4.out.size; omega), H4.out.turnS (W' := w7) H1.out H2.out (fun _ => rfl) ?_ HOy.out ?_, OffB.trans HB5.out (HOy.out.more (fun k hk e => by subst e; exact BTyM.blk HS4.out (.inr (.inr (.inl rfl))) HX.out))⟩
      · show (0 ≤ (handed b s m).getLastD s.cursor ∧ (handed b s m).getLastD s.cursor ≤ _) ∧ _
        rw [HF.out]
        have := HO2.out t6 (List.mem_of_getElem? HT9.out)
        exact ⟨⟨by omega, this.2⟩, HN.out.2⟩
      · show Blk w7 x 70 [.int .i64 s.id, .int .i64 1, .int .i64 ((handed b s m).getLastD s.cursor), .int .i64 s.acked]
        rw [HF.out]
        exact HSx.out.keep HB7.out
end
end Go.Proofs.Ytfmolimnnheaoaa
