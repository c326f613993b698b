/- (*Board).Unsubscribe. -/
import Derived.Test.YtfmolimnnheaoaaBc2
namespace Go.Proofs.Ytfmolimnnheaoaa
open Go.RowKit
set_option linter.unusedSimpArgs false
set_option linter.unusedVariables false
open Go.Maps

section
variable {base : Nat} {W W' : World} {g hq hs nq ns xq : Nat} {q : Option Nat} {b b' : Bd} {kv kv' : Value} {bl : List Nat}
def gonePairs (b : Bd) (bl : List Nat) (n : Int) : List (Sb × Nat) := (b.subs.zip bl).filter fun p => p.1.id != n
/-- A subscriber is gone. -/
theorem BrdM.gone {n : Int} (h : BrdM base W g hq hs nq ns q b kv bl) (hM : MapB W' hs ns (((b.subs.map Sb.id).zip bl).filter fun x => x.1 != n)) (hg : W.grownBy W' (some hs)) :
    BrdM base W' g hq hs nq ns q { b with subs := b.subs.filter fun s => s.id != n } kv ((gonePairs b bl n).map Prod.snd) := by
  have hb := Below.refl W.heap.size W
  have e1 : (b.subs.filter fun s => s.id != n) = (gonePairs b bl n).map Prod.fst := by
    unfold gonePairs
    have := List.filter_map (p := fun s : Sb => s.id != n) (f := Prod.fst) (l := b.subs.zip bl)
    rw [List.map_fst_zip (by rw [h.len]; exact Nat.le_refl _)] at this
    rw [this]; rfl
  have sub2 : ((gonePairs b bl n).map Prod.snd).Sublist bl := by
    have h1 : ((gonePairs b bl n).map Prod.snd).Sublist ((b.subs.zip bl).map Prod.snd) := List.Sublist.map _ List.filter_sublist
    rwa [List.map_snd_zip (by rw [h.len]; exact Nat.le_refl _)] at h1
  have pair : ∀ (i : Nat) (s : Sb) (x : Nat), (b.subs.filter fun s => s.id != n)[i]? = some s → ((gonePairs b bl n).map Prod.snd)[i]? = some x → Blk W x 70 (subC s) := fun i s x h1 h2 => by
    rw [e1, List.getElem?_map] at h1
    rw [List.getElem?_map] at h2
    cases hp : (gonePairs b bl n)[i]? with
    | none => rw [hp] at h1; cases h1
    | some p =>
      rw [hp] at h1 h2
      cases h1; cases h2
      have hm := (List.mem_filter.1 (List.mem_of_getElem? hp)).1
      obtain ⟨j, hj, he⟩ := List.getElem_of_mem hm
      rw [List.getElem_zip] at he
      subst he
      exact h.sb j _ _ (List.getElem?_eq_getElem _) (List.getElem?_eq_getElem _)
  refine ⟨h.blk.grown hb hg (h.ms.ne h.blk), h.mq.grown hb hg h.low.2.2.2.1, ?_, by show _ = (b.subs.filter _).length; rw [e1, List.length_map, List.length_map], fun y hy => ⟨(h.qb y hy).1.grown hb hg (h.ms.ne (h.qb y hy).1), (h.qb y hy).2⟩, ?_, fun i s x h1 h2 => (pair i s x h1 h2).grown hb hg (h.ms.ne (pair i s x h1 h2)), h.nd.sublist sub2, ?_, fun s hs1 => h.next s (List.mem_filter.1 hs1).1, ⟨h.low.1, h.low.2.1, h.low.2.2.1, h.low.2.2.2.1, fun x hx => h.low.2.2.2.2 x (sub2.subset hx)⟩, h.num, fun s hs1 => h.subsN s (List.mem_filter.1 hs1).1, h.keptN⟩
  · show MapB W' hs ns (((b.subs.filter fun s => s.id != n).map Sb.id).zip ((gonePairs b bl n).map Prod.snd))
    have e2 : (((b.subs.filter fun s => s.id != n).map Sb.id).zip ((gonePairs b bl n).map Prod.snd)) = (((b.subs.map Sb.id).zip bl).filter fun x => x.1 != n) := by
      rw [e1, List.map_map, List.zip_map']
      rw [List.zip_map_left, List.filter_map]
      rfl
    rw [e2]; exact hM
  · refine ownsRow_offM (M := fun k => some hs = some k) h.kept (OffM.grown hg) (fun k hk e => ?_)
    have e' : hs = k := Option.some.inj e
    subst e'
    have hm := h.ms
    obtain ⟨es, clock, hm, -⟩ := hm
    rcases h.kept.2 with ⟨hv, _⟩ | ⟨g1, c1, u1, hv, _, hh, _⟩
    · rw [hv] at hk; cases hk
    · rw [hv] at hk
      simp [Value.ownBlock] at hk
      subst hk
      rw [hm] at hh; cases hh
  · show ((b.subs.filter fun s => s.id != n).map Sb.id).Pairwise (· < ·)
    exact h.ids.sublist (List.Sublist.map _ List.filter_sublist)
set_option maxRecDepth 100000 in
set_option maxHeartbeats 4000000 in
theorem bUnsub {n : Int} (h : BrdM base W g hq hs nq ns (some xq) b kv bl) (hn : i64 n) (hr : Rise b.kept) (hbs : base ≤ W.heap.size) :
    Calls Try.prog 13 #[.pointer (some ⟨g, 0, none⟩), .int .i64 n] W fun e w' => ∃ kv' bl', e = .returned (.int .i64 (unsubB b n).2) ∧ BrdM base w' g hq hs nq ns (some xq) (unsubB b n).1 kv' bl' ∧ OffM (BTyM base W) W w' := by
  have H := Lib.hid h
  have Hr := Lib.hid hr
  have Hn := Lib.hid hn
  obtain ⟨rr, hrr⟩ : ∃ r, unsubB b n = r := ⟨_, rfl⟩
  rw [hrr]
  unfold unsubB at hrr
  cases hf : findB b n with
  | none =>
    rw [hf] at hrr
    have HR := Lib.hid hrr
    have HF := Lib.hid hf
    clear hrr hf h hr
    go_enter Try.func13, Try.ntmps13; (try simp only [List.append_eq, List.cons_append, List.nil_append])
    go_wp2_with fail
    refine (bSubNone H.out Hn.out HF.out).mono ?_
    rintro e w2 ⟨rfl, rfl⟩
    go_wp2
    go_ret
    have hr := HR.out
    subst hr
    exact ⟨kv, bl, rfl, H.out, OffM.refl _ _⟩
  | some s =>
    rw [hf] at hrr
    have HR := Lib.hid hrr
    obtain ⟨hid, k, x, h1, h2⟩ := find_at h hf
    subst hid
    have hsb := h.sb k s x h1 h2
    have hg := h.blk.lt
    have c2 : W.cell? ⟨g, 2, none⟩ = some (.map (some hs)) := h.blk.cell 2 _ rfl
    obtain ⟨W2, hdel, hM, hgr⟩ := h.ms.dropS Hn.out 0
    have hx2 := (hsb.grown (Below.refl _ _) hgr (h.ms.ne hsb))
    have k1 : W2.cell? ⟨x, 1, none⟩ = some (.int .i64 1) := hx2.cell 1 _ rfl
    have hxl := hx2.lt
    have HC := Lib.hid (bSub h h1 h2)
    have HG := Lib.hid (h.gone hM hgr)
    have HO := Lib.hid ((OffM.grown hgr).more (N := BTyM base W) (fun k hk e => by cases e; exact BTyM.map h.ms h.low.2.2.1))
    clear hrr hf h hsb h1 h2 hr hM hgr hx2
    go_enter Try.func13, Try.ntmps13; (try simp only [List.append_eq, List.cons_append, List.nil_append])
    go_wp2_with fail
    refine HC.out.mono ?_
    rintro e w2 ⟨rfl, rfl⟩
    go_wp2_with fail
    have hrr : Rise ({ b with subs := b.subs.filter fun s' => s'.id != s.id } : Bd).kept := Hr.out
    refine (bLetGo HG.out hrr (Nat.le_trans hbs HO.out.size)).mono ?_
    rintro e w9 ⟨rfl, kv9, hB9, ho9⟩
    have HB9 := Lib.hid hB9; have Ho9 := Lib.hid ho9; clear hB9 ho9
    go_wp2
    go_ret
    have hr := HR.out
    subst hr
    exact ⟨kv9, _, rfl, HB9.out, OffB.trans HO.out Ho9.out⟩
end
end Go.Proofs.Ytfmolimnnheaoaa
