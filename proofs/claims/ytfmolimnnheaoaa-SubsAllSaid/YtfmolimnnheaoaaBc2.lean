/- (*Board).Back, Ack, Unsubscribe. -/
import Derived.Test.YtfmolimnnheaoaaBc1
namespace Go.Proofs.Ytfmolimnnheaoaa
open Go.RowKit
set_option linter.unusedSimpArgs false
set_option linter.unusedVariables false
open Go.Maps

theorem bBack0 (n : Int) (W : World) : Calls Try.prog 14 #[.pointer none, .int .i64 n] W fun e w' => e = .returned (.int .i64 1) ∧ w' = W := by
  go_enter Try.func14, Try.ntmps14; (try simp only [List.append_eq, List.cons_append, List.nil_append])
  go_wp2_with fail
  refine (bSub0 _ _).mono ?_
  rintro e w2 ⟨rfl, rfl⟩
  go_wp2
  go_ret
  exact ⟨rfl, rfl⟩
set_option maxRecDepth 100000 in
theorem bAck0 (n t : Int) (W : World) : Calls Try.prog 15 #[.pointer none, .int .i64 n, .int .i64 t] W fun e w' => e = .returned (.int .i64 1) ∧ w' = W := by
  go_enter Try.func15, Try.ntmps15; (try simp only [List.append_eq, List.cons_append, List.nil_append])
  go_wp2_with fail
  refine (bSub0 _ _).mono ?_
  rintro e w2 ⟨rfl, rfl⟩
  go_wp2
  go_ret
  exact ⟨rfl, rfl⟩
set_option maxRecDepth 100000 in
theorem bUnsub0 (n : Int) (W : World) : Calls Try.prog 13 #[.pointer none, .int .i64 n] W fun e w' => e = .returned (.int .i64 1) ∧ w' = W := by
  go_enter Try.func13, Try.ntmps13; (try simp only [List.append_eq, List.cons_append, List.nil_append])
  go_wp2_with fail
  refine (bSub0 _ _).mono ?_
  rintro e w2 ⟨rfl, rfl⟩
  go_wp2
  go_ret
  exact ⟨rfl, rfl⟩
section
variable {base : Nat} {W W' : World} {g hq hs nq ns xq : Nat} {q : Option Nat} {b b' : Bd} {kv kv' : Value} {bl : List Nat}
theorem turn_get {n : Int} {f : Sb → Sb} {l : List Sb} {i : Nat} {s : Sb} (h : (turnS n f l)[i]? = some s) : ∃ s0, l[i]? = some s0 ∧ s = if s0.id = n then f s0 else s0 := by
  unfold turnS at h
  rw [List.getElem?_map] at h
  cases h0 : l[i]? with
  | none => rw [h0] at h; cases h
  | some s0 => rw [h0] at h; exact ⟨s0, rfl, (Option.some.inj h).symm⟩
/-- One subscriber's block turns. -/
theorem BrdM.turnS {k x : Nat} {s : Sb} {f : Sb → Sb} (h : BrdM base W g hq hs nq ns q b kv bl) (h1 : b.subs[k]? = some s) (h2 : bl[k]? = some x) (hid : ∀ s, (f s).id = s.id) (hf : (0 ≤ (f s).cursor ∧ (f s).cursor ≤ 1099511627776) ∧ (0 ≤ (f s).acked ∧ (f s).acked ≤ 1099511627776))
    (ho : OffM (fun k => k = x) W W') (hb : Blk W' x 70 (subC (f s))) : BrdM base W' g hq hs nq ns q { b with subs := turnS s.id f b.subs } kv bl := by
  have hsx := h.sb k s x h1 h2
  have hmap : (Go.Proofs.Ytfmolimnnheaoaa.turnS s.id f b.subs).map Sb.id = b.subs.map Sb.id := by
    unfold Go.Proofs.Ytfmolimnnheaoaa.turnS
    rw [List.map_map]
    refine List.map_congr_left fun s' _ => ?_
    show (if s'.id = s.id then f s' else s').id = s'.id
    split
    · exact hid s'
    · rfl
  have uniq : ∀ i s', b.subs[i]? = some s' → s'.id = s.id → i = k := fun i s' hi he => by
    have hp := h.ids
    have e1 : (b.subs.map Sb.id)[i]? = some s.id := by rw [List.getElem?_map, hi]; simp [he]
    have e2 : (b.subs.map Sb.id)[k]? = some s.id := by rw [List.getElem?_map, h1]; rfl
    rcases Nat.lt_trichotomy i k with h9 | h9 | h9
    · have := List.pairwise_iff_getElem.1 hp i k (List.getElem?_eq_some_iff.1 e1).1 (List.getElem?_eq_some_iff.1 e2).1 h9
      rw [(List.getElem?_eq_some_iff.1 e1).2, (List.getElem?_eq_some_iff.1 e2).2] at this
      omega
    · exact h9
    · have := List.pairwise_iff_getElem.1 hp k i (List.getElem?_eq_some_iff.1 e2).1 (List.getElem?_eq_some_iff.1 e1).1 h9
      rw [(List.getElem?_eq_some_iff.1 e1).2, (List.getElem?_eq_some_iff.1 e2).2] at this
      omega
  have mem : ∀ s' ∈ Go.Proofs.Ytfmolimnnheaoaa.turnS s.id f b.subs, ∃ s0 ∈ b.subs, s' = if s0.id = s.id then f s0 else s0 := fun s' hs' => by
    obtain ⟨i, hi, he⟩ := List.getElem_of_mem hs'
    obtain ⟨s0, hs0, e⟩ := turn_get (by rw [List.getElem?_eq_getElem hi, he])
    exact ⟨s0, List.mem_of_getElem? hs0, e⟩
  refine ⟨(ho.block _ h.blk.lt (h.blk.ne_ty hsx (by decide))).trans h.blk, h.mq.keep (ho.block _ h.mq.lt (fun e => h.mq.ne hsx e.symm)), ?_, ?_, fun y hy => ⟨(ho.block _ (h.qb y hy).1.lt ((h.qb y hy).1.ne_ty hsx (by decide))).trans (h.qb y hy).1, (h.qb y hy).2⟩, ownsRow_offM h.kept ho (fun g1 hg1 e => hsx.not_own h.kept (by decide) (by rw [hg1, e])), fun i s' y e1 e2 => ?_, h.nd, ?_, fun s' hs' => ?_, h.low, h.num, fun s' hs' => ?_, h.keptN⟩
  · show MapB W' hs ns (((Go.Proofs.Ytfmolimnnheaoaa.turnS s.id f b.subs).map Sb.id).zip bl)
    rw [hmap]
    exact h.ms.keep (ho.block _ h.ms.lt (fun e => h.ms.ne hsx e.symm))
  · show bl.length = (Go.Proofs.Ytfmolimnnheaoaa.turnS s.id f b.subs).length
    unfold Go.Proofs.Ytfmolimnnheaoaa.turnS
    rw [List.length_map]; exact h.len
  · obtain ⟨s0, hs0, rfl⟩ := turn_get e1
    by_cases hi : i = k
    · subst hi
      rw [h1] at hs0; cases hs0
      rw [h2] at e2; cases e2
      rw [if_pos rfl]; exact hb
    · rw [if_neg (fun he => hi (uniq i s0 hs0 he))]
      have hby := h.sb i s0 y hs0 e2
      refine (ho.block _ hby.lt (fun e => ?_)).trans hby
      have e : y = x := e
      subst e
      have hnd := h.nd
      obtain ⟨hi1, hi2⟩ := List.getElem?_eq_some_iff.1 e2
      obtain ⟨hk1, hk2⟩ := List.getElem?_eq_some_iff.1 h2
      rcases Nat.lt_trichotomy i k with h9 | h9 | h9
      · exact List.pairwise_iff_getElem.1 hnd i k hi1 hk1 h9 (hi2.trans hk2.symm)
      · exact hi h9
      · exact List.pairwise_iff_getElem.1 hnd k i hk1 hi1 h9 (hk2.trans hi2.symm)
  · show ((Go.Proofs.Ytfmolimnnheaoaa.turnS s.id f b.subs).map Sb.id).Pairwise (· < ·)
    rw [hmap]; exact h.ids
  · obtain ⟨s0, hs0, rfl⟩ := mem s' hs'
    have := h.next s0 hs0
    split
    · rw [hid]; exact this
    · exact this
  · obtain ⟨s0, hs0, rfl⟩ := mem s' hs'
    by_cases he : s0.id = s.id
    · rw [if_pos he]
      obtain ⟨i, hi, he2⟩ := List.getElem_of_mem hs0
      have hik := uniq i s0 (by rw [List.getElem?_eq_getElem hi, he2]) he
      subst hik
      rw [List.getElem?_eq_getElem hi, he2] at h1
      cases h1
      exact hf
    · rw [if_neg he]; exact h.subsN s0 hs0
set_option maxRecDepth 100000 in
set_option maxHeartbeats 4000000 in
theorem bBack {n : Int} (h : BrdM base W g hq hs nq ns q b kv bl) (hn : i64 n) :
    Calls Try.prog 14 #[.pointer (some ⟨g, 0, none⟩), .int .i64 n] W fun e w' => e = .returned (.int .i64 (backB b n).2) ∧ BrdM base w' g hq hs nq ns q (backB b n).1 kv bl ∧ OffM (BTyM base W) W w' := by
  have H := Lib.hid h
  obtain ⟨rr, hrr⟩ : ∃ r, backB b n = r := ⟨_, rfl⟩
  rw [hrr]
  unfold backB at hrr
  cases hf : findB b n with
  | none =>
    rw [hf] at hrr
    have HR := Lib.hid hrr
    have HF := Lib.hid hf
    have Hn := Lib.hid hn
    clear hrr hf h
    go_enter Try.func14, Try.ntmps14; (try simp only [List.append_eq, List.cons_append, List.nil_append])
    go_wp2_with fail
    refine (bSubNone H.out Hn.out HF.out).mono ?_
    rintro e w2 ⟨rfl, rfl⟩
    go_wp2
    go_ret
    have hr := HR.out
    subst hr
    exact ⟨rfl, H.out, OffM.refl _ _⟩
  | some s =>
    rw [hf] at hrr
    have HR := Lib.hid hrr
    obtain ⟨hid, k, x, h1, h2⟩ := find_at h hf
    subst hid
    have hsb := h.sb k s x h1 h2
    have hx := hsb.lt
    have k2 : W.cell? ⟨x, 2, none⟩ = some (.int .i64 s.cursor) := hsb.cell 2 _ rfl
    have k3 : W.cell? ⟨x, 3, none⟩ = some (.int .i64 s.acked) := hsb.cell 3 _ rfl
    have f2 := hsb.free 2
    have HS := Lib.hid hsb
    have HN := Lib.hid (h.subsN s (List.mem_of_getElem? h1))
    have HC := Lib.hid (bSub h h1 h2)
    have HX := Lib.hid (h.low.2.2.2.2 x (List.mem_of_getElem? h2))
    have HT := Lib.hid (h.turnS (W' := W.setCell ⟨x, 2, none⟩ (.int .i64 s.acked)) (f := fun s => { s with cursor := s.acked }) h1 h2 (fun _ => rfl) ⟨HN.out.2, HN.out.2⟩ (OffM.cell1 _ _ _ _) (hsb.set_ 2 (.int .i64 s.acked)))
    clear hrr hf h hsb h1 h2
    go_enter Try.func14, Try.ntmps14; (try simp only [List.append_eq, List.cons_append, List.nil_append])
    go_wp2_with fail
    refine HC.out.mono ?_
    rintro e w2 ⟨rfl, rfl⟩
    go_wp2
    go_ret
    have hr := HR.out
    subst hr
    exact ⟨rfl, HT.out, (OffM.cell1 _ _ _ _).more (fun k hk e => by subst e; exact BTyM.blk HS.out (.inr (.inr (.inl rfl))) HX.out)⟩
theorem turn_rise {n : Int} {f : Sb → Sb} {b : Bd} (hr : Rise b.kept) : Rise ({ b with subs := turnS n f b.subs } : Bd).kept := hr
set_option maxRecDepth 100000 in
set_option maxHeartbeats 4000000 in
theorem bAck {n t : Int} (h : BrdM base W g hq hs nq ns (some xq) b kv bl) (hn : i64 n) (hr : Rise b.kept) (hbs : base ≤ W.heap.size) :
    Calls Try.prog 15 #[.pointer (some ⟨g, 0, none⟩), .int .i64 n, .int .i64 t] W fun e w' => ∃ kv', e = .returned (.int .i64 (ackB b n t).2) ∧ BrdM base w' g hq hs nq ns (some xq) (ackB b n t).1 kv' bl ∧ OffM (BTyM base W) W w' := by
  have H := Lib.hid h
  have Hr := Lib.hid hr
  obtain ⟨rr, hrr⟩ : ∃ r, ackB b n t = r := ⟨_, rfl⟩
  rw [hrr]
  unfold ackB at hrr
  cases hf : findB b n with
  | none =>
    rw [hf] at hrr
    have HR := Lib.hid hrr
    have HF := Lib.hid hf
    have Hn := Lib.hid hn
    clear hrr hf h hr
    go_enter Try.func15, Try.ntmps15; (try simp only [List.append_eq, List.cons_append, List.nil_append])
    go_wp2_with fail
    refine (bSubNone H.out Hn.out HF.out).mono ?_
    rintro e w2 ⟨rfl, rfl⟩
    go_wp2
    go_ret
    have hr := HR.out
    subst hr
    exact ⟨kv, rfl, H.out, OffM.refl _ _⟩
  | some s =>
    rw [hf] at hrr
    have HR := Lib.hid hrr
    obtain ⟨hid, k, x, h1, h2⟩ := find_at h hf
    subst hid
    have hsb := h.sb k s x h1 h2
    have hx := hsb.lt
    have k1 : W.cell? ⟨x, 1, none⟩ = some (.int .i64 1) := hsb.cell 1 _ rfl
    have k2 : W.cell? ⟨x, 2, none⟩ = some (.int .i64 s.cursor) := hsb.cell 2 _ rfl
    have k3 : W.cell? ⟨x, 3, none⟩ = some (.int .i64 s.acked) := hsb.cell 3 _ rfl
    have f3 := hsb.free 3
    have HS := Lib.hid hsb
    have HN := Lib.hid (h.subsN s (List.mem_of_getElem? h1))
    have HC := Lib.hid (bSub h h1 h2)
    have HX := Lib.hid (h.low.2.2.2.2 x (List.mem_of_getElem? h2))
    have H1 := Lib.hid h1; have H2 := Lib.hid h2
    clear hrr hf h hsb h1 h2 hr
    by_cases c1 : s.cursor < t
    · have HR := Lib.hid ((if_pos c1).symm.trans HR.out)
      go_enter Try.func15, Try.ntmps15; (try simp only [List.append_eq, List.cons_append, List.nil_append])
      go_wp2_with fail
      refine HC.out.mono ?_
      rintro e w2 ⟨rfl, rfl⟩
      go_wp2
      go_ret
      have hr := HR.out
      subst hr
      exact ⟨kv, rfl, H.out, OffM.refl _ _⟩
    have HR := Lib.hid ((if_neg c1).symm.trans HR.out)
    by_cases c2 : t < s.acked
    · have HR := Lib.hid ((if_pos c2).symm.trans HR.out)
      go_enter Try.func15, Try.ntmps15; (try simp only [List.append_eq, List.cons_append, List.nil_append])
      go_wp2_with fail
      refine HC.out.mono ?_
      rintro e w2 ⟨rfl, rfl⟩
      go_wp2
      go_ret
      have hr := HR.out
      subst hr
      exact ⟨kv, rfl, H.out, OffM.refl _ _⟩
    have HR := Lib.hid ((if_neg c2).symm.trans HR.out)
    have HT := Lib.hid (H.out.turnS (W' := W.setCell ⟨x, 3, none⟩ (.int .i64 t)) (f := fun s => { s with acked := t }) H1.out H2.out (fun _ => rfl) ⟨HN.out.1, by have := HN.out; show 0 ≤ t ∧ t ≤ _; omega⟩ (OffM.cell1 _ _ _ _) (HS.out.set_ 3 (.int .i64 t)))
    have HO := Lib.hid ((OffM.cell1 W x 3 (.int .i64 t)).more (N := BTyM base W) (fun k hk e => by subst e; exact BTyM.blk HS.out (.inr (.inr (.inl rfl))) HX.out))
    go_enter Try.func15, Try.ntmps15; (try simp only [List.append_eq, List.cons_append, List.nil_append])
    go_wp2_with fail
    refine HC.out.mono ?_
    rintro e w2 ⟨rfl, rfl⟩
    go_wp2_with fail
    refine (bLetGo HT.out (turn_rise Hr.out) (Nat.le_trans hbs HO.out.size)).mono ?_
    rintro e w9 ⟨rfl, kv9, hB9, ho9⟩
    have HB9 := Lib.hid hB9; have Ho9 := Lib.hid ho9; clear hB9 ho9
    go_wp2
    go_ret
    have hr := HR.out
    subst hr
    exact ⟨kv9, rfl, HB9.out, OffB.trans HO.out Ho9.out⟩
end
end Go.Proofs.Ytfmolimnnheaoaa
