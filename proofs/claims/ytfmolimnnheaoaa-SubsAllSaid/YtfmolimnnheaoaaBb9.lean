/- (*Board).Put of a time without results. -/
import Derived.Test.YtfmolimnnheaoaaBb8
import Derived.BigQuiet
namespace Go.Proofs.Ytfmolimnnheaoaa
open Go.RowKit
set_option linter.unusedSimpArgs false
set_option linter.unusedVariables false
open Go.Maps

theorem bCheck0 (w : World) : Calls Try.prog 36 #[.slice none 0 0] w fun e' w' => e' = .returned (.int .i64 0) ∧ w' = w := by
  go_enter Try.func36, Try.ntmps36; (try simp only [List.append_eq, List.cons_append, List.nil_append])
  go_wp2
  go_loopw [10] (fun j wr => j = .int .i64 0 ∧ wr = w) (fun _ _ => 0)
  case atStart => exact ⟨rfl, rfl⟩
  case round =>
    obtain ⟨rfl, hw⟩ := hrel
    subst hw
    go_wp2
    go_ret
    exact ⟨rfl, rfl⟩
section
variable {base : Nat} {W W' : World} {g hq hs nq ns xq : Nat} {q : Option Nat} {b b' : Bd} {kv kv' : Value} {bl : List Nat}
/-- The query's block turns, and what is kept, in its own row or a new one. -/
theorem BrdM.turnK (h : BrdM base W g hq hs nq ns (some xq) b kv bl) (ho : OffM (fun k => k = xq ∨ kv.ownBlock = some k) W W') (hb : Blk W' xq 63 (queryC b' kv')) (hk : OwnT base W' kv' b'.kept) (h1 : b'.room = b.room) (h2 : b'.subs = b.subs) (h3 : b'.next = b.next)
    (h4 : 0 ≤ b'.last ∧ b'.last ≤ 1099511627776) (h5 : 0 ≤ b'.floor ∧ b'.floor ≤ 1099511627776) (h6 : b'.kept.length ≤ 4096 ∧ ∀ t ∈ b'.kept, 1 ≤ t ∧ t ≤ 1099511627776) : BrdM base W' g hq hs nq ns (some xq) b' kv' bl := by
  have hqb := (h.qb xq rfl).1
  have hbase := (h.qb xq rfl).2
  have blkK : ∀ {y t : Nat} {cs : List Value}, Blk W y t cs → t ≠ 63 → t ≠ 36 → Blk W' y t cs := fun hy hne hne2 =>
    (ho.block _ hy.lt (fun e => by
      rcases e with e | e
      · exact hy.ne_ty hqb hne e
      · exact hy.not_own h.kept hne2 e)).trans hy
  have mapK : ∀ {y n : Nat} {l : List (Int × Nat)}, MapB W y n l → MapB W' y n l := fun hy =>
    hy.keep (ho.block _ hy.lt (fun e => by
      rcases e with e | e
      · exact hy.ne hqb e.symm
      · obtain ⟨es, clock, hm, -⟩ := hy
        rcases h.kept.2 with ⟨hv, _⟩ | ⟨g1, c1, u1, hv, _, hh, _⟩
        · rw [hv] at e; cases e
        · rw [hv] at e
          simp [Value.ownBlock] at e
          subst e
          rw [hm] at hh; cases hh))
  refine ⟨?_, mapK h.mq, by rw [h2]; exact mapK h.ms, by rw [h2]; exact h.len, fun x hx => ?_, hk, fun i s x e1 e2 => ?_, h.nd, by rw [h2]; exact h.ids, ?_, h.low, ?_, by rw [h2]; exact h.subsN, h6⟩
  · unfold boardC
    rw [h1, h3]
    exact blkK h.blk (by decide) (by decide)
  · cases hx; exact ⟨hb, hbase⟩
  · rw [h2] at e1
    exact blkK (h.sb i s x e1 e2) (by decide) (by decide)
  · rw [h2, h3]; exact h.next
  · have := h.num
    rw [h1, h3]
    exact ⟨this.1, this.2.1, h4, h5, this.2.2.2.2⟩
theorem BTyM.own {v : Value} {n k : Nat} {xs : List Value} (h : W.ownsRow base 36 2 v n xs) (hk : v.ownBlock = some k) : BTyM base W k := by
  rcases h.2 with ⟨rfl, _⟩ | ⟨g1, c1, u1, rfl, hb, hh, _⟩
  · cases hk
  · simp [Value.ownBlock] at hk
    subst hk
    refine ⟨hb, ?_⟩
    rw [hh]
    exact .inr (.inr (.inr rfl))
theorem isT_one (X : World) (t : Int) : IsT (X.alloc (.cells #[.int .i64 t, .slice none 0 0] 36)).heap.size (X.alloc (.cells #[.int .i64 t, .slice none 0 0] 36)) (.slice (some ⟨X.heap.size, 0, none⟩) 1 1) [t] := by
  refine ⟨_, 1, rfl, by simp, by unfold maxLen; omega, fun _ => ⟨X.heap.size, 0, rfl, by simp, fun k r hr j x hx => ?_⟩⟩
  match k, hr with
  | 0, hr =>
    simp at hr; subst hr
    have := (Blk.new X [.int .i64 t, .slice none 0 0] 36).cell j x hx
    simpa using this
  | k + 1, hr => simp at hr
theorem bPut0 (t : Int) (v : Value) (W : World) (n : Int) : Calls Try.prog 17 #[.pointer none, .int .i64 n, .agg #[.int .i64 t, v]] W fun e w' => e = .returned (.int .i64 1) ∧ Below W.heap.size W w' := by
  go_enter Try.func17, Try.ntmps17; (try simp only [List.append_eq, List.cons_append, List.nil_append])
  go_wp2_with fail
  refine (bMade0 _).mono ?_
  rintro e w2 ⟨rfl, rfl⟩
  go_wp2
  go_ret
  exact ⟨rfl, (Below.refl _ _).alloc (Nat.le_refl _) _⟩
set_option maxRecDepth 100000 in
set_option maxHeartbeats 4000000 in
theorem bPut {t : Int} (h : BrdM base W g hq hs nq ns (some xq) b kv bl) (hr : Rise b.kept) (hlast : ∀ x ∈ b.kept, x ≤ b.last) (hbs : base ≤ W.heap.size) :
    Calls Try.prog 17 #[.pointer (some ⟨g, 0, none⟩), .int .i64 1, .agg #[.int .i64 t, .slice none 0 0]] W fun e w' => e = .returned (.int .i64 (putB b t).2) ∧ ∃ kv', BrdM base w' g hq hs nq ns (some xq) (putB b t).1 kv' bl ∧ OffM (BTyM base W) W w' := by
  have hb0 := (Below.refl W.heap.size W).alloc (Nat.le_refl _) (.cells #[.int .i64 t, .slice none 0 0] 36)
  have HW := Lib.hid h
  have H1 := Lib.hid (h.keep hb0)
  have HB1 := Lib.hid (Blk.new W [.int .i64 t, .slice none 0 0] 36)
  have Ho1 := Lib.hid (OffM.of (M := BTyM base W) hb0)
  have Hr := Lib.hid hr; have Hlast := Lib.hid hlast
  clear h hb0 hr hlast
  obtain ⟨pr, hpr⟩ : ∃ r, putB b t = r := ⟨_, rfl⟩
  rw [hpr]
  unfold putB maxTimeB at hpr
  have HP := Lib.hid hpr; clear hpr
  go_enter Try.func17, Try.ntmps17; (try simp only [List.append_eq, List.cons_append, List.nil_append])
  go_wp2_with fail
  have hsz1 := Ho1.out.size
  obtain ⟨gB, hgB⟩ : ∃ z, W.heap.size = z := ⟨_, rfl⟩
  obtain ⟨W1, hW1⟩ : ∃ z, W.alloc (.cells #[.int .i64 t, .slice none 0 0] 36) = z := ⟨_, rfl⟩
  rw [show (W.alloc (.cells ([.int .i64 t, .slice none 0 0] : List Value).toArray 36)) = W1 from hW1] at HB1
  rw [hW1] at H1 Ho1 hsz1 ⊢
  rw [hgB] at HB1 ⊢
  have Hbs1 := Lib.hid (show base ≤ W1.heap.size from Nat.le_trans hbs hsz1)
  have hxq := (H1.out.qb xq rfl).1
  have hxl := hxq.lt
  have hgl := H1.out.blk.lt
  have hgb := HB1.out.lt
  have c0 : W1.cell? ⟨g, 0, none⟩ = some (.int .i64 b.room) := H1.out.blk.cell 0 _ rfl
  have c1 : W1.cell? ⟨g, 1, none⟩ = some (.map (some hq)) := H1.out.blk.cell 1 _ rfl
  have d0 : W1.cell? ⟨xq, 0, none⟩ = some kv := hxq.cell 0 _ rfl
  have d1 : W1.cell? ⟨xq, 1, none⟩ = some (.int .i64 b.last) := hxq.cell 1 _ rfl
  have k0 : W1.cell? ⟨gB, 0, none⟩ = some (.int .i64 t) := HB1.out.cell 0 _ rfl
  have k1 : W1.cell? ⟨gB, 1, none⟩ = some (.slice none 0 0) := HB1.out.cell 1 _ rfl
  have hlook := H1.out.lookQ
  obtain ⟨ak, ck, hkv⟩ := ownsRow_slice H1.out.kept
  have HKV := Lib.hid hkv
  clear hxq
  refine (bMade H1.out.blk).mono ?_
  rintro e w2 ⟨rfl, rfl⟩
  go_wp2_with fail
  refine (bCheck0 _).mono ?_
  rintro e w2 ⟨rfl, rfl⟩
  have HGB := Lib.hid hgB
  clear hgB hW1 HKV
  subst hkv
  by_cases h1 : t < 1
  · go_wp2
    go_ret
    have hp := HP.out
    rw [if_pos (.inl h1)] at hp
    subst hp
    first | exact ⟨rfl, _, H1.out, Ho1.out⟩ | exact ⟨rfl, ⟨_, H1.out⟩, Ho1.out⟩
  by_cases h2 : 1099511627776 < t
  · go_wp2
    go_ret
    have hp := HP.out
    rw [if_pos (.inr h2)] at hp
    subst hp
    first | exact ⟨rfl, _, H1.out, Ho1.out⟩ | exact ⟨rfl, ⟨_, H1.out⟩, Ho1.out⟩
  have HP := Lib.hid ((if_neg (show ¬ (t < 1 ∨ 1099511627776 < t) by omega)).symm.trans HP.out)
  by_cases h3 : t ≤ b.last
  · go_wp2_with fail
    all_goals first | (exfalso; omega) | skip
    go_quiet (fail)
    go_wp2
    go_ret
    have hp := HP.out
    rw [if_pos h3] at hp
    subst hp
    exact ⟨rfl, _, H1.out.keep (below_drewN (Below.refl _ _) _), Ho1.out.trans (OffM.of (M := fun _ => False) (below_drewN (Below.refl _ _) _)) (fun _ _ h => h.elim)⟩
  have HP := Lib.hid ((if_neg h3).symm.trans HP.out)
  by_cases h4 : b.room ≤ (b.kept.length : Int)
  · go_wp2_with fail
    all_goals first | (exfalso; omega) | skip
    go_quiet (fail)
    go_wp2_with fail
    all_goals first | (exfalso; omega) | skip
    go_quiet (fail)
    go_wp2
    go_ret
    have hp := HP.out
    rw [if_pos h4] at hp
    subst hp
    exact ⟨rfl, _, H1.out.keep (below_drewN (below_drewN (Below.refl _ _) _) _), Ho1.out.trans (OffM.of (M := fun _ => False) (below_drewN (below_drewN (Below.refl _ _) _) _)) (fun _ _ h => h.elim)⟩
  have HP := Lib.hid ((if_neg h4).symm.trans HP.out)
  go_wp2_with fail
  all_goals first | (exfalso; omega) | skip
  go_quiet (fail)
  obtain ⟨nqa, hnqa⟩ : ∃ z, nq = z := ⟨_, rfl⟩
  rw [hnqa]
  clear hnqa
  go_wp2_with fail
  all_goals first | (exfalso; omega) | skip
  go_quiet (fail)
  go_wp2_with fail
  have hbq : Below w2.heap.size w2 ((w2.drewN nqa).drewN nq) := below_drewN (below_drewN (Below.refl _ _) _) _
  obtain ⟨W3, hW3⟩ : ∃ z, (w2.drewN nqa).drewN nq = z := ⟨_, rfl⟩
  rw [hW3] at hbq ⊢
  clear hW3
  have H3 := Lib.hid (H1.out.keep hbq)
  have HB1 := Lib.hid (HB1.out.keep hbq)
  have Ho3 := Lib.hid (Ho1.out.trans (OffM.of (M := fun _ => False) hbq) (fun _ _ h => h.elim))
  have Hbs3 := Lib.hid (show base ≤ W3.heap.size from Nat.le_trans Hbs1.out hbq.size)
  have HQ := Lib.hid (H3.out.qb xq rfl).1
  have HKp := Lib.hid H3.out.kept
  have HgX := Lib.hid (HB1.out.ne_ty HQ.out (by decide))
  have hbq := Below.refl W3.heap.size W3
  have HgB := Lib.hid (show ¬ (gB = xq ∨ (Value.slice ak b.kept.length ck).ownBlock = some gB) from fun e => by
    rcases e with e | e
    · exact HgX.out e
    · have h9 := (ownsRow_block HW.out.kept gB e).2
      have h8 := HGB.out
      omega)
  have BT3 := Lib.hid (show ∀ k, k < W.heap.size → (k = xq ∨ (Value.slice ak b.kept.length ck).ownBlock = some k) → BTyM base W k from fun k hk hm => by
    rcases hm with rfl | hm
    · exact BTyM.blk (HW.out.qb _ rfl).1 (.inr (.inl rfl)) (HW.out.qb _ rfl).2
    · exact BTyM.own HW.out.kept hm)
  have HT6 := Lib.hid (show 0 ≤ t ∧ t ≤ 1099511627776 by omega)
  have HN6 := Lib.hid (show (b.kept ++ [t]).length ≤ 4096 ∧ ∀ x ∈ b.kept ++ [t], 1 ≤ x ∧ x ≤ 1099511627776 from by
    have h8 := H3.out.num.1
    refine ⟨by rw [List.length_append, List.length_singleton]; omega, fun x hx => ?_⟩
    rcases List.mem_append.1 hx with hx | hx
    · exact H3.out.keptN.2 x hx
    · simp at hx; subst hx; omega)
  clear c0 c1 d0 d1 k0 k1 hlook hxl hgl hgb
  obtain ⟨i0, hi, hz0, hz1, hz2⟩ := info_parts infoTold
  -- REGION 15
  refine wp_region_held_drew (S := fun X => Blk X gB 36 [.int .i64 t, .slice none 0 0]) (by kernel_rfl) (HB1.out.keep (Below.drew hbq)) (fun hHeld => ?_)
  have HX := Lib.hid (Below.drew hbq)
  obtain ⟨X, hX⟩ : ∃ z, W3.drew = z := ⟨_, rfl⟩
  rw [hX] at HX ⊢
  clear hX
  have hSd := HB1.out.keep HX.out
  try clear hHeld
  (refine held_take 0 54 (.pointer (some ⟨xq, 0, none⟩)) rfl rfl (by kernel_rfl) (by kernel_rfl) (by kernel_rfl) (fun _ _ _ h => h) (by kernel_rfl) ?_ (by assumption) ?_; (intro w hSw; clear hSw; go_simp); simp only [List.set_cons_zero, List.set_cons_succ])
  (refine held_take 1 55 (.pointer (some ⟨xq, 0, none⟩)) rfl rfl (by kernel_rfl) (by kernel_rfl) (by kernel_rfl) (fun _ _ _ h => h) (by kernel_rfl) ?_ (by assumption) ?_; (intro w hSw; clear hSw; go_simp); simp only [List.set_cons_zero, List.set_cons_succ])
  (refine held_take 2 56 (.pointer (some ⟨xq, 0, none⟩)) rfl rfl (by kernel_rfl) (by kernel_rfl) (by kernel_rfl) (fun _ _ _ h => h) (by kernel_rfl) ?_ (by assumption) ?_; (intro w hSw; clear hSw; go_simp); simp only [List.set_cons_zero, List.set_cons_succ])
  (refine held_take 3 57 (.pointer (some ⟨xq, 0, none⟩)) rfl rfl (by kernel_rfl) (by kernel_rfl) (by kernel_rfl) (fun _ _ _ h => h) (by kernel_rfl) ?_ (by assumption) ?_; (intro w hSw; clear hSw; go_simp); simp only [List.set_cons_zero, List.set_cons_succ])
  (refine held_take 4 58 (.pointer (some ⟨xq, 0, none⟩)) rfl rfl (by kernel_rfl) (by kernel_rfl) (by kernel_rfl) (fun _ _ _ h => h) (by kernel_rfl) ?_ (by assumption) ?_; (intro w hSw; clear hSw; go_simp); simp only [List.set_cons_zero, List.set_cons_succ])
  (refine held_take 6 60 (.agg #[.int .i64 t, .slice none 0 0]) rfl rfl (by kernel_rfl) (by kernel_rfl) (by kernel_rfl) (fun _ _ _ h => h) (by kernel_rfl) ?_ (by assumption) ?_; (intro w hSw; have e0 := hSw.cell 0 _ rfl; have e1 := hSw.cell 1 _ rfl; clear hSw; go_simp); simp only [List.set_cons_zero, List.set_cons_succ])
  (refine held_take 10 64 (.pointer (some ⟨gB, 0, none⟩)) rfl rfl (by kernel_rfl) (by kernel_rfl) (by kernel_rfl) (fun _ _ _ h => h) (by kernel_rfl) ?_ (by assumption) ?_; (intro w hSw; clear hSw; go_simp); simp only [List.set_cons_zero, List.set_cons_succ])
  (refine held_take 11 65 (.int .i64 t) rfl rfl (by kernel_rfl) (by kernel_rfl) (by kernel_rfl) (fun _ _ _ h => h) (by kernel_rfl) ?_ (by assumption) ?_; (intro w hSw; have e0 := hSw.cell 0 _ rfl; have e1 := hSw.cell 1 _ rfl; clear hSw; go_simp); simp only [List.set_cons_zero, List.set_cons_succ])
  refine wpAnyH_ready (rs := [5, 7]) (by kernel_rfl) (by simp) (.cons rfl (fun K hK => ?_) (.cons rfl (fun K hK => ?_) .nil))
  · skip
    rw [if_pos (by kernel_rfl)]
    have e0 : X.cell? ⟨xq, 0, none⟩ = some (.slice ak b.kept.length ck) := (HQ.out.keep HX.out).cell 0 _ rfl
    go_simp
    clear e0
    refine hK.out _ _ hSd (fun hHeld => ?_)
    clear hK K
    (try simp only [Act.put, List.setIfInBounds_toArray, List.set_cons_zero, List.set_cons_succ])
    refine wpAnyH_ready (rs := [7]) (by kernel_rfl) (by simp) (.cons rfl (fun K hK => ?_) .nil)
    rw [if_pos (by kernel_rfl)]
    go_simp
    have hb := (Below.refl X.heap.size X).alloc (Nat.le_refl _) (.cells #[.int .i64 t, .slice none 0 0] 36)
    have HIT := Lib.hid (isT_one X t)
    have HX := Lib.hid (HX.out.trans (hb.mono HX.out.size))
    obtain ⟨gN, hgN⟩ : ∃ z, X.heap.size = z := ⟨_, rfl⟩
    obtain ⟨X1, hY⟩ : ∃ z, X.alloc (.cells #[.int .i64 t, .slice none 0 0] 36) = z := ⟨_, rfl⟩
    rw [hgN] at HIT ⊢
    rw [hY] at HX HIT ⊢
    clear hY hgN hb
    have hSd := HB1.out.keep HX.out
    refine hK.out _ _ hSd (fun hHeld => ?_)
    clear hK K
    (try simp only [Act.put, List.setIfInBounds_toArray, List.set_cons_zero, List.set_cons_succ])
    refine wpAnyH_ready (rs := [8]) (by kernel_rfl) (by simp) (.cons rfl (fun K hK => ?_) .nil)
    rw [if_pos (by kernel_rfl)]
    go_simp
    refine (bCopied HIT.out (Nat.le_refl _) (by simp)).mono ?_
    rintro e X2 ⟨vc, rfl, hown, hb⟩
    have HX := Lib.hid (HX.out.trans (hb.mono HX.out.size))
    have HC := Lib.hid (Src.of_own hown)
    clear hb hown
    have hSd := HB1.out.keep HX.out
    refine hK.out _ _ hSd (fun hHeld => ?_)
    clear hK K
    (try simp only [Act.put, List.setIfInBounds_toArray, List.set_cons_zero, List.set_cons_succ])
    refine wpAnyH_ready (rs := [9]) (by kernel_rfl) (by simp) (.cons rfl (fun K hK => ?_) .nil)
    rw [if_pos (by kernel_rfl)]
    refine wp_append_src _ _ _ _ rfl base 36 i0 (.agg #[.int .i64 0, .slice none 0 0]) 2 32 Try.underlying41 hi hz0 hz1 hz2 rfl (by decide) _ b.kept.length _ rfl (ownsRow_keep HKp.out HX.out) _ 1 _ rfl HC.out (told_one [t]) (by have := H3.out.keptN; unfold maxLen; omega) (by have := H3.out.keptN; omega) (by have := HX.out.size; have := Hbs3.out; omega) ?_
    intro v4 X4 hown4 hg4 _
    obtain ⟨a4, c4, rfl⟩ := ownsRow_slice hown4
    have HO4 := Lib.hid ((OffM.of (M := fun k => k = xq ∨ (Value.slice ak b.kept.length ck).ownBlock = some k) HX.out).trans (OffM.grown hg4) (fun k _ hk => .inr hk))
    have HK4 := Lib.hid (show OwnT base X4 (.slice a4 (b.kept.length + 1) c4) (b.kept ++ [t]) from by unfold OwnT; rw [List.length_append, List.map_append, List.flatten_append]; exact hown4)
    have HB4 := Lib.hid (show Blk X4 gB 36 [.int .i64 t, .slice none 0 0] from (HO4.out.block _ HB1.out.lt (HgB.out)).trans HB1.out)
    have HQ4 := Lib.hid (show Blk X4 xq 63 [.slice ak b.kept.length ck, .int .i64 b.last, .int .i64 b.floor] from (hg4.block _ (HQ.out.keep HX.out).lt (fun e => HQ.out.not_own H3.out.kept (by decide) e.symm)).trans (HQ.out.keep HX.out))
    clear hown4 hg4
    have hSd := HB4.out
    refine hK.out _ _ hSd (fun hHeld => ?_)
    clear hK K
    (try simp only [Act.put, List.setIfInBounds_toArray, List.set_cons_zero, List.set_cons_succ])
    refine wpAnyH_ready (rs := [12]) (by kernel_rfl) (by simp) (.cons rfl (fun K hK => ?_) .nil)
    rw [if_pos (by kernel_rfl)]
    go_simp
    refine hK.out _ _ hSd (fun hHeld => ?_)
    clear hK K
    (try simp only [Act.put, List.setIfInBounds_toArray, List.set_cons_zero, List.set_cons_succ])
    refine wpAnyH_ready (rs := [13]) (by kernel_rfl) (by simp) (.cons rfl (fun K hK => ?_) .nil)
    rw [if_pos (by kernel_rfl)]
    go_simp
    refine hK.out _ _ hSd (fun hHeld => ?_)
    clear hK K
    (try simp only [Act.put, List.setIfInBounds_toArray, List.set_cons_zero, List.set_cons_succ])
    have hxl4 := HQ4.out.lt
    have k0 := HQ4.out.cell 0 _ rfl
    have fr0 := HQ4.out.free 0
    refine wpAnyH_ready (rs := [14]) (by kernel_rfl) (by simp) (.cons rfl (fun K hK => ?_) .nil)
    rw [if_pos (by kernel_rfl)]
    go_simp
    clear k0 fr0
    have hSd := HB4.out.far (p := ⟨xq, 0, none⟩) HgX.out (.slice a4 (b.kept.length + 1) c4)
    refine hK.out _ _ hSd (fun hHeld => ?_)
    clear hK K
    (try simp only [Act.put, List.setIfInBounds_toArray, List.set_cons_zero, List.set_cons_succ])
    refine wpAnyH_ready (rs := [15]) (by kernel_rfl) (by simp) (.cons rfl (fun K hK => ?_) .nil)
    rw [if_pos (by kernel_rfl)]
    go_simp
    refine hK.out _ _ hSd (fun hHeld => ?_)
    clear hK K
    (try simp only [Act.put, List.setIfInBounds_toArray, List.set_cons_zero, List.set_cons_succ])
    refine wpAnyH_ready (rs := [16]) (by kernel_rfl) (by simp) (.cons rfl (fun K hK => ?_) .nil)
    rw [if_pos (by kernel_rfl)]
    go_simp
    refine hK.out _ _ hSd (fun hHeld => ?_)
    clear hK K
    (try simp only [Act.put, List.setIfInBounds_toArray, List.set_cons_zero, List.set_cons_succ])
    have HQ5 := Lib.hid (HQ4.out.set_ 0 (.slice a4 (b.kept.length + 1) c4))
    have k1 := HQ5.out.cell 1 _ rfl
    have fr1 := HQ5.out.free 1
    have hxl5 := HQ5.out.lt
    refine wpAnyH_ready (rs := [17]) (by kernel_rfl) (by simp) (.cons rfl (fun K hK => ?_) .nil)
    rw [if_pos (by kernel_rfl)]
    go_simp
    clear k1 fr1
    have hSd := hSd.far (p := ⟨xq, 1, none⟩) HgX.out (.int .i64 t)
    refine hK.out _ _ hSd (fun hHeld => ?_)
    clear hK K
    (try simp only [Act.put, List.setIfInBounds_toArray, List.set_cons_zero, List.set_cons_succ])
    refine wpAnyH_done (by kernel_rfl) ?_ _
    have HQ6 := Lib.hid (HQ5.out.set_ 1 (.int .i64 t))
    have HO6 := Lib.hid ((HO4.out.trans (OffM.cell1 X4 xq 0 (.slice a4 (b.kept.length + 1) c4)) (fun k _ hk => .inl hk)).trans (OffM.cell1 _ xq 1 (.int .i64 t)) (fun k _ hk => .inl hk))
    have HK6 := Lib.hid (ownsRow_offM (ownsRow_offM HK4.out (OffM.cell1 X4 xq 0 (.slice a4 (b.kept.length + 1) c4)) (fun g2 h1 h2 => HQ4.out.not_own HK4.out (by decide) (by rw [h1, h2]))) (OffM.cell1 _ xq 1 (.int .i64 t)) (fun g2 h1 h2 => HQ4.out.not_own HK4.out (by decide) (by rw [h1, h2])))
    generalize (X4.setCell ⟨xq, 0, none⟩ (.slice a4 (b.kept.length + 1) c4)).setCell ⟨xq, 1, none⟩ (.int .i64 t) = X6 at HQ6 HO6 HK6 ⊢
    have H6 := Lib.hid (H3.out.turnK (b' := { b with kept := b.kept ++ [t], last := t }) HO6.out HQ6.out HK6.out rfl rfl rfl HT6.out H3.out.num.2.2.2.1 HN6.out)
    have HOB := Lib.hid (Ho3.out.trans HO6.out (fun k hk hm => BT3.out k hk hm))
    have hr6 : Rise ({ b with kept := b.kept ++ [t], last := t } : Bd).kept := List.pairwise_append.2 ⟨Hr.out, List.pairwise_singleton _ _, fun a ha c hc => by simp at hc; subst hc; have := Hlast.out a ha; omega⟩
    have hbs6 : base ≤ X6.heap.size := by have := HO6.out.size; have := Hbs3.out; omega
    go_wp2_with fail
    refine (bLetGo H6.out hr6 hbs6).mono ?_
    rintro e w9 ⟨rfl, kv9, hB9, ho9⟩
    have HB9 := Lib.hid hB9; have Ho9 := Lib.hid ho9; clear hB9 ho9 hr6
    go_wp2
    go_ret
    have hp := HP.out
    subst hp
    exact ⟨rfl, kv9, HB9.out, OffB.trans HOB.out Ho9.out⟩
  · skip
    rw [if_pos (by kernel_rfl)]
    go_simp
    have hb := (Below.refl X.heap.size X).alloc (Nat.le_refl _) (.cells #[.int .i64 t, .slice none 0 0] 36)
    have HIT := Lib.hid (isT_one X t)
    have HX := Lib.hid (HX.out.trans (hb.mono HX.out.size))
    obtain ⟨gN, hgN⟩ : ∃ z, X.heap.size = z := ⟨_, rfl⟩
    obtain ⟨X1, hY⟩ : ∃ z, X.alloc (.cells #[.int .i64 t, .slice none 0 0] 36) = z := ⟨_, rfl⟩
    rw [hgN] at HIT ⊢
    rw [hY] at HX HIT ⊢
    clear hY hgN hb
    have hSd := HB1.out.keep HX.out
    refine hK.out _ _ hSd (fun hHeld => ?_)
    clear hK K
    (try simp only [Act.put, List.setIfInBounds_toArray, List.set_cons_zero, List.set_cons_succ])
    refine wpAnyH_ready (rs := [5, 8]) (by kernel_rfl) (by simp) (.cons rfl (fun K hK => ?_) (.cons rfl (fun K hK => ?_) .nil))
    · skip
      rw [if_pos (by kernel_rfl)]
      have e0 : X1.cell? ⟨xq, 0, none⟩ = some (.slice ak b.kept.length ck) := (HQ.out.keep HX.out).cell 0 _ rfl
      go_simp
      clear e0
      refine hK.out _ _ hSd (fun hHeld => ?_)
      clear hK K
      (try simp only [Act.put, List.setIfInBounds_toArray, List.set_cons_zero, List.set_cons_succ])
      refine wpAnyH_ready (rs := [8]) (by kernel_rfl) (by simp) (.cons rfl (fun K hK => ?_) .nil)
      rw [if_pos (by kernel_rfl)]
      go_simp
      refine (bCopied HIT.out (Nat.le_refl _) (by simp)).mono ?_
      rintro e X2 ⟨vc, rfl, hown, hb⟩
      have HX := Lib.hid (HX.out.trans (hb.mono HX.out.size))
      have HC := Lib.hid (Src.of_own hown)
      clear hb hown
      have hSd := HB1.out.keep HX.out
      refine hK.out _ _ hSd (fun hHeld => ?_)
      clear hK K
      (try simp only [Act.put, List.setIfInBounds_toArray, List.set_cons_zero, List.set_cons_succ])
      refine wpAnyH_ready (rs := [9]) (by kernel_rfl) (by simp) (.cons rfl (fun K hK => ?_) .nil)
      rw [if_pos (by kernel_rfl)]
      refine wp_append_src _ _ _ _ rfl base 36 i0 (.agg #[.int .i64 0, .slice none 0 0]) 2 32 Try.underlying41 hi hz0 hz1 hz2 rfl (by decide) _ b.kept.length _ rfl (ownsRow_keep HKp.out HX.out) _ 1 _ rfl HC.out (told_one [t]) (by have := H3.out.keptN; unfold maxLen; omega) (by have := H3.out.keptN; omega) (by have := HX.out.size; have := Hbs3.out; omega) ?_
      intro v4 X4 hown4 hg4 _
      obtain ⟨a4, c4, rfl⟩ := ownsRow_slice hown4
      have HO4 := Lib.hid ((OffM.of (M := fun k => k = xq ∨ (Value.slice ak b.kept.length ck).ownBlock = some k) HX.out).trans (OffM.grown hg4) (fun k _ hk => .inr hk))
      have HK4 := Lib.hid (show OwnT base X4 (.slice a4 (b.kept.length + 1) c4) (b.kept ++ [t]) from by unfold OwnT; rw [List.length_append, List.map_append, List.flatten_append]; exact hown4)
      have HB4 := Lib.hid (show Blk X4 gB 36 [.int .i64 t, .slice none 0 0] from (HO4.out.block _ HB1.out.lt (HgB.out)).trans HB1.out)
      have HQ4 := Lib.hid (show Blk X4 xq 63 [.slice ak b.kept.length ck, .int .i64 b.last, .int .i64 b.floor] from (hg4.block _ (HQ.out.keep HX.out).lt (fun e => HQ.out.not_own H3.out.kept (by decide) e.symm)).trans (HQ.out.keep HX.out))
      clear hown4 hg4
      have hSd := HB4.out
      refine hK.out _ _ hSd (fun hHeld => ?_)
      clear hK K
      (try simp only [Act.put, List.setIfInBounds_toArray, List.set_cons_zero, List.set_cons_succ])
      refine wpAnyH_ready (rs := [12]) (by kernel_rfl) (by simp) (.cons rfl (fun K hK => ?_) .nil)
      rw [if_pos (by kernel_rfl)]
      go_simp
      refine hK.out _ _ hSd (fun hHeld => ?_)
      clear hK K
      (try simp only [Act.put, List.setIfInBounds_toArray, List.set_cons_zero, List.set_cons_succ])
      refine wpAnyH_ready (rs := [13]) (by kernel_rfl) (by simp) (.cons rfl (fun K hK => ?_) .nil)
      rw [if_pos (by kernel_rfl)]
      go_simp
      refine hK.out _ _ hSd (fun hHeld => ?_)
      clear hK K
      (try simp only [Act.put, List.setIfInBounds_toArray, List.set_cons_zero, List.set_cons_succ])
      have hxl4 := HQ4.out.lt
      have k0 := HQ4.out.cell 0 _ rfl
      have fr0 := HQ4.out.free 0
      refine wpAnyH_ready (rs := [14]) (by kernel_rfl) (by simp) (.cons rfl (fun K hK => ?_) .nil)
      rw [if_pos (by kernel_rfl)]
      go_simp
      clear k0 fr0
      have hSd := HB4.out.far (p := ⟨xq, 0, none⟩) HgX.out (.slice a4 (b.kept.length + 1) c4)
      refine hK.out _ _ hSd (fun hHeld => ?_)
      clear hK K
      (try simp only [Act.put, List.setIfInBounds_toArray, List.set_cons_zero, List.set_cons_succ])
      refine wpAnyH_ready (rs := [15]) (by kernel_rfl) (by simp) (.cons rfl (fun K hK => ?_) .nil)
      rw [if_pos (by kernel_rfl)]
      go_simp
      refine hK.out _ _ hSd (fun hHeld => ?_)
      clear hK K
      (try simp only [Act.put, List.setIfInBounds_toArray, List.set_cons_zero, List.set_cons_succ])
      refine wpAnyH_ready (rs := [16]) (by kernel_rfl) (by simp) (.cons rfl (fun K hK => ?_) .nil)
      rw [if_pos (by kernel_rfl)]
      go_simp
      refine hK.out _ _ hSd (fun hHeld => ?_)
      clear hK K
      (try simp only [Act.put, List.setIfInBounds_toArray, List.set_cons_zero, List.set_cons_succ])
      have HQ5 := Lib.hid (HQ4.out.set_ 0 (.slice a4 (b.kept.length + 1) c4))
      have k1 := HQ5.out.cell 1 _ rfl
      have fr1 := HQ5.out.free 1
      have hxl5 := HQ5.out.lt
      refine wpAnyH_ready (rs := [17]) (by kernel_rfl) (by simp) (.cons rfl (fun K hK => ?_) .nil)
      rw [if_pos (by kernel_rfl)]
      go_simp
      clear k1 fr1
      have hSd := hSd.far (p := ⟨xq, 1, none⟩) HgX.out (.int .i64 t)
      refine hK.out _ _ hSd (fun hHeld => ?_)
      clear hK K
      (try simp only [Act.put, List.setIfInBounds_toArray, List.set_cons_zero, List.set_cons_succ])
      refine wpAnyH_done (by kernel_rfl) ?_ _
      have HQ6 := Lib.hid (HQ5.out.set_ 1 (.int .i64 t))
      have HO6 := Lib.hid ((HO4.out.trans (OffM.cell1 X4 xq 0 (.slice a4 (b.kept.length + 1) c4)) (fun k _ hk => .inl hk)).trans (OffM.cell1 _ xq 1 (.int .i64 t)) (fun k _ hk => .inl hk))
      have HK6 := Lib.hid (ownsRow_offM (ownsRow_offM HK4.out (OffM.cell1 X4 xq 0 (.slice a4 (b.kept.length + 1) c4)) (fun g2 h1 h2 => HQ4.out.not_own HK4.out (by decide) (by rw [h1, h2]))) (OffM.cell1 _ xq 1 (.int .i64 t)) (fun g2 h1 h2 => HQ4.out.not_own HK4.out (by decide) (by rw [h1, h2])))
      generalize (X4.setCell ⟨xq, 0, none⟩ (.slice a4 (b.kept.length + 1) c4)).setCell ⟨xq, 1, none⟩ (.int .i64 t) = X6 at HQ6 HO6 HK6 ⊢
      have H6 := Lib.hid (H3.out.turnK (b' := { b with kept := b.kept ++ [t], last := t }) HO6.out HQ6.out HK6.out rfl rfl rfl HT6.out H3.out.num.2.2.2.1 HN6.out)
      have HOB := Lib.hid (Ho3.out.trans HO6.out (fun k hk hm => BT3.out k hk hm))
      have hr6 : Rise ({ b with kept := b.kept ++ [t], last := t } : Bd).kept := List.pairwise_append.2 ⟨Hr.out, List.pairwise_singleton _ _, fun a ha c hc => by simp at hc; subst hc; have := Hlast.out a ha; omega⟩
      have hbs6 : base ≤ X6.heap.size := by have := HO6.out.size; have := Hbs3.out; omega
      go_wp2_with fail
      refine (bLetGo H6.out hr6 hbs6).mono ?_
      rintro e w9 ⟨rfl, kv9, hB9, ho9⟩
      have HB9 := Lib.hid hB9; have Ho9 := Lib.hid ho9; clear hB9 ho9 hr6
      go_wp2
      go_ret
      have hp := HP.out
      subst hp
      exact ⟨rfl, kv9, HB9.out, OffB.trans HOB.out Ho9.out⟩
    · skip
      rw [if_pos (by kernel_rfl)]
      go_simp
      refine (bCopied HIT.out (Nat.le_refl _) (by simp)).mono ?_
      rintro e X2 ⟨vc, rfl, hown, hb⟩
      have HX := Lib.hid (HX.out.trans (hb.mono HX.out.size))
      have HC := Lib.hid (Src.of_own hown)
      clear hb hown
      have hSd := HB1.out.keep HX.out
      refine hK.out _ _ hSd (fun hHeld => ?_)
      clear hK K
      (try simp only [Act.put, List.setIfInBounds_toArray, List.set_cons_zero, List.set_cons_succ])
      refine wpAnyH_ready (rs := [5]) (by kernel_rfl) (by simp) (.cons rfl (fun K hK => ?_) .nil)
      rw [if_pos (by kernel_rfl)]
      have e0 : X2.cell? ⟨xq, 0, none⟩ = some (.slice ak b.kept.length ck) := (HQ.out.keep HX.out).cell 0 _ rfl
      go_simp
      clear e0
      refine hK.out _ _ hSd (fun hHeld => ?_)
      clear hK K
      (try simp only [Act.put, List.setIfInBounds_toArray, List.set_cons_zero, List.set_cons_succ])
      refine wpAnyH_ready (rs := [9]) (by kernel_rfl) (by simp) (.cons rfl (fun K hK => ?_) .nil)
      rw [if_pos (by kernel_rfl)]
      refine wp_append_src _ _ _ _ rfl base 36 i0 (.agg #[.int .i64 0, .slice none 0 0]) 2 32 Try.underlying41 hi hz0 hz1 hz2 rfl (by decide) _ b.kept.length _ rfl (ownsRow_keep HKp.out HX.out) _ 1 _ rfl HC.out (told_one [t]) (by have := H3.out.keptN; unfold maxLen; omega) (by have := H3.out.keptN; omega) (by have := HX.out.size; have := Hbs3.out; omega) ?_
      intro v4 X4 hown4 hg4 _
      obtain ⟨a4, c4, rfl⟩ := ownsRow_slice hown4
      have HO4 := Lib.hid ((OffM.of (M := fun k => k = xq ∨ (Value.slice ak b.kept.length ck).ownBlock = some k) HX.out).trans (OffM.grown hg4) (fun k _ hk => .inr hk))
      have HK4 := Lib.hid (show OwnT base X4 (.slice a4 (b.kept.length + 1) c4) (b.kept ++ [t]) from by unfold OwnT; rw [List.length_append, List.map_append, List.flatten_append]; exact hown4)
      have HB4 := Lib.hid (show Blk X4 gB 36 [.int .i64 t, .slice none 0 0] from (HO4.out.block _ HB1.out.lt (HgB.out)).trans HB1.out)
      have HQ4 := Lib.hid (show Blk X4 xq 63 [.slice ak b.kept.length ck, .int .i64 b.last, .int .i64 b.floor] from (hg4.block _ (HQ.out.keep HX.out).lt (fun e => HQ.out.not_own H3.out.kept (by decide) e.symm)).trans (HQ.out.keep HX.out))
      clear hown4 hg4
      have hSd := HB4.out
      refine hK.out _ _ hSd (fun hHeld => ?_)
      clear hK K
      (try simp only [Act.put, List.setIfInBounds_toArray, List.set_cons_zero, List.set_cons_succ])
      refine wpAnyH_ready (rs := [12]) (by kernel_rfl) (by simp) (.cons rfl (fun K hK => ?_) .nil)
      rw [if_pos (by kernel_rfl)]
      go_simp
      refine hK.out _ _ hSd (fun hHeld => ?_)
      clear hK K
      (try simp only [Act.put, List.setIfInBounds_toArray, List.set_cons_zero, List.set_cons_succ])
      refine wpAnyH_ready (rs := [13]) (by kernel_rfl) (by simp) (.cons rfl (fun K hK => ?_) .nil)
      rw [if_pos (by kernel_rfl)]
      go_simp
      refine hK.out _ _ hSd (fun hHeld => ?_)
      clear hK K
      (try simp only [Act.put, List.setIfInBounds_toArray, List.set_cons_zero, List.set_cons_succ])
      have hxl4 := HQ4.out.lt
      have k0 := HQ4.out.cell 0 _ rfl
      have fr0 := HQ4.out.free 0
      refine wpAnyH_ready (rs := [14]) (by kernel_rfl) (by simp) (.cons rfl (fun K hK => ?_) .nil)
      rw [if_pos (by kernel_rfl)]
      go_simp
      clear k0 fr0
      have hSd := HB4.out.far (p := ⟨xq, 0, none⟩) HgX.out (.slice a4 (b.kept.length + 1) c4)
      refine hK.out _ _ hSd (fun hHeld => ?_)
      clear hK K
      (try simp only [Act.put, List.setIfInBounds_toArray, List.set_cons_zero, List.set_cons_succ])
      refine wpAnyH_ready (rs := [15]) (by kernel_rfl) (by simp) (.cons rfl (fun K hK => ?_) .nil)
      rw [if_pos (by kernel_rfl)]
      go_simp
      refine hK.out _ _ hSd (fun hHeld => ?_)
      clear hK K
      (try simp only [Act.put, List.setIfInBounds_toArray, List.set_cons_zero, List.set_cons_succ])
      refine wpAnyH_ready (rs := [16]) (by kernel_rfl) (by simp) (.cons rfl (fun K hK => ?_) .nil)
      rw [if_pos (by kernel_rfl)]
      go_simp
      refine hK.out _ _ hSd (fun hHeld => ?_)
      clear hK K
      (try simp only [Act.put, List.setIfInBounds_toArray, List.set_cons_zero, List.set_cons_succ])
      have HQ5 := Lib.hid (HQ4.out.set_ 0 (.slice a4 (b.kept.length + 1) c4))
      have k1 := HQ5.out.cell 1 _ rfl
      have fr1 := HQ5.out.free 1
      have hxl5 := HQ5.out.lt
      refine wpAnyH_ready (rs := [17]) (by kernel_rfl) (by simp) (.cons rfl (fun K hK => ?_) .nil)
      rw [if_pos (by kernel_rfl)]
      go_simp
      clear k1 fr1
      have hSd := hSd.far (p := ⟨xq, 1, none⟩) HgX.out (.int .i64 t)
      refine hK.out _ _ hSd (fun hHeld => ?_)
      clear hK K
      (try simp only [Act.put, List.setIfInBounds_toArray, List.set_cons_zero, List.set_cons_succ])
      refine wpAnyH_done (by kernel_rfl) ?_ _
      have HQ6 := Lib.hid (HQ5.out.set_ 1 (.int .i64 t))
      have HO6 := Lib.hid ((HO4.out.trans (OffM.cell1 X4 xq 0 (.slice a4 (b.kept.length + 1) c4)) (fun k _ hk => .inl hk)).trans (OffM.cell1 _ xq 1 (.int .i64 t)) (fun k _ hk => .inl hk))
      have HK6 := Lib.hid (ownsRow_offM (ownsRow_offM HK4.out (OffM.cell1 X4 xq 0 (.slice a4 (b.kept.length + 1) c4)) (fun g2 h1 h2 => HQ4.out.not_own HK4.out (by decide) (by rw [h1, h2]))) (OffM.cell1 _ xq 1 (.int .i64 t)) (fun g2 h1 h2 => HQ4.out.not_own HK4.out (by decide) (by rw [h1, h2])))
      generalize (X4.setCell ⟨xq, 0, none⟩ (.slice a4 (b.kept.length + 1) c4)).setCell ⟨xq, 1, none⟩ (.int .i64 t) = X6 at HQ6 HO6 HK6 ⊢
      have H6 := Lib.hid (H3.out.turnK (b' := { b with kept := b.kept ++ [t], last := t }) HO6.out HQ6.out HK6.out rfl rfl rfl HT6.out H3.out.num.2.2.2.1 HN6.out)
      have HOB := Lib.hid (Ho3.out.trans HO6.out (fun k hk hm => BT3.out k hk hm))
      have hr6 : Rise ({ b with kept := b.kept ++ [t], last := t } : Bd).kept := List.pairwise_append.2 ⟨Hr.out, List.pairwise_singleton _ _, fun a ha c hc => by simp at hc; subst hc; have := Hlast.out a ha; omega⟩
      have hbs6 : base ≤ X6.heap.size := by have := HO6.out.size; have := Hbs3.out; omega
      go_wp2_with fail
      refine (bLetGo H6.out hr6 hbs6).mono ?_
      rintro e w9 ⟨rfl, kv9, hB9, ho9⟩
      have HB9 := Lib.hid hB9; have Ho9 := Lib.hid ho9; clear hB9 ho9 hr6
      go_wp2
      go_ret
      have hp := HP.out
      subst hp
      exact ⟨rfl, kv9, HB9.out, OffB.trans HOB.out Ho9.out⟩
  -- END
end
end Go.Proofs.Ytfmolimnnheaoaa
