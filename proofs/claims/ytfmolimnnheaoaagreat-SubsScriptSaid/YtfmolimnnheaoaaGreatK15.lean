/- (*Board).Put of a time without results. -/
import Derived.Test.YtfmolimnnheaoaaGreatK14
import Derived.BigQuiet
import Derived.Test.YtfmolimnnheaoaaGreatK1
namespace Go.Proofs.YtfmolimnnheaoaaGreat
open Go.RowKit
set_option linter.unusedSimpArgs false
set_option linter.unusedVariables false
open Go.Maps

theorem bCheck0 (w : World) : Calls Tryz.prog 44 #[.slice none 0 0] w fun e' w' => e' = .returned (.int .i64 0) ∧ w' = w := by
  go_enter Tryz.func44, Tryz.ntmps44; (try simp only [List.append_eq, List.cons_append, List.nil_append])
  go_wp2
  go_loopw [10] (fun j wr => j = .int .i64 0 ∧ wr = w) (fun _ _ => 0)
  case atStart => exact ⟨rfl, rfl⟩
  case round =>
    obtain ⟨rfl, hw⟩ := hrel
    subst hw
    go_wp2
    go_ret
    exact ⟨rfl, rfl⟩
section
variable {base : Nat} {W W' : World} {g hq hs nq ns xq : Nat} {q : Option Nat} {b b' : Bd} {kv kv' : Value} {bl : List Nat}
/-- The query's block turns, and what is kept, in its own row or a new one. -/
theorem BrdM.turnK (h : BrdM base W g hq hs nq ns (some xq) b kv bl) (ho : OffM (fun k => k = xq ∨ kv.ownBlock = some k) W W') (hb : Blk W' xq 64 (queryC b' kv')) (hk : OwnT base W' kv' b'.kept) (h1 : b'.room = b.room) (h2 : b'.subs = b.subs) (h3 : b'.next = b.next)
    (h4 : 0 ≤ b'.last ∧ b'.last ≤ 1099511627776) (h5 : 0 ≤ b'.floor ∧ b'.floor ≤ 1099511627776) (h6 : b'.kept.length ≤ 4096 ∧ ∀ t ∈ b'.kept, 1 ≤ t ∧ t ≤ 1099511627776) : BrdM base W' g hq hs nq ns (some xq) b' kv' bl := by
  have hqb := (h.qb xq rfl).1
  have hbase := (h.qb xq rfl).2
  have blkK : ∀ {y t : Nat} {cs : List Value}, Blk W y t cs → t ≠ 64 → t ≠ 34 → Blk W' y t cs := fun hy hne hne2 =>
    (ho.block _ hy.lt (fun e => by
      rcases e with e | e
      · exact hy.ne_ty hqb hne e
      · exact hy.not_own h.kept hne2 e)).trans hy
  have mapK : ∀ {y n : Nat} {l : List (Int × Nat)}, MapB W y n l → MapB W' y n l := fun hy =>
    hy.keep (ho.block _ hy.lt (fun e => by
      rcases e with e | e
      · exact hy.ne hqb e.symm
      · obtain ⟨es, clock, hm, -⟩ := hy
        rcases h.kept.2 with ⟨hv, _⟩ | ⟨g1, c1, u1, hv, _, hh, _⟩
        · rw [hv] at e; cases e
        · rw [hv] at e
          simp [Value.ownBlock] at e
          subst e
          rw [hm] at hh; cases hh))
  refine ⟨?_, mapK h.mq, by rw [h2]; exact mapK h.ms, by rw [h2]; exact h.len, fun x hx => ?_, hk, fun i s x e1 e2 => ?_, h.nd, by rw [h2]; exact h.ids, ?_, h.low, ?_, by rw [h2]; exact h.subsN, h6⟩
  · unfold boardC
    rw [h1, h3]
    exact blkK h.blk (by decide) (by decide)
  · cases hx; exact ⟨hb, hbase⟩
  · rw [h2] at e1
    exact blkK (h.sb i s x e1 e2) (by decide) (by decide)
  · rw [h2, h3]; exact h.next
  · have := h.num
    rw [h1, h3]
    exact ⟨this.1, this.2.1, h4, h5, this.2.2.2.2⟩
theorem BTyM.own {v : Value} {n k : Nat} {xs : List Value} (h : W.ownsRow base 34 2 v n xs) (hk : v.ownBlock = some k) : BTyM base W k := by
  rcases h.2 with ⟨rfl, _⟩ | ⟨g1, c1, u1, rfl, hb, hh, _⟩
  · cases hk
  · simp [Value.ownBlock] at hk
    subst hk
    refine ⟨hb, ?_⟩
    rw [hh]
    exact .inr (.inr (.inr rfl))
theorem isT_one (X : World) (t : Int) : IsT (X.alloc (.cells #[.int .i64 t, .slice none 0 0] 34)).heap.size (X.alloc (.cells #[.int .i64 t, .slice none 0 0] 34)) (.slice (some ⟨X.heap.size, 0, none⟩) 1 1) [t] := by
  refine ⟨_, 1, rfl, by simp, by unfold maxLen; omega, fun _ => ⟨X.heap.size, 0, rfl, by simp, fun k r hr j x hx => ?_⟩⟩
  match k, hr with
  | 0, hr =>
    simp at hr; subst hr
    have := (Blk.new X [.int .i64 t, .slice none 0 0] 34).cell j x hx
    simpa using this
  | k + 1, hr => simp at hr
theorem bPut0 (t : Int) (v : Value) (W : World) (n : Int) : Calls Tryz.prog 25 #[.pointer none, .int .i64 n, .agg #[.int .i64 t, v]] W fun e w' => e = .returned (.int .i64 1) ∧ Below W.heap.size W w' := by
  go_enter Tryz.func25, Tryz.ntmps25; (try simp only [List.append_eq, List.cons_append, List.nil_append])
  go_wp2_with fail
  refine (bMade0 _).mono ?_
  rintro e w2 ⟨rfl, rfl⟩
  go_wp2
  go_ret
  exact ⟨rfl, (Below.refl _ _).alloc (Nat.le_refl _) _⟩
set_option maxRecDepth 100000 in
set_option maxHeartbeats 4000000 in
theorem bPut {t : Int} (h : BrdM base W g hq hs nq ns (some xq) b kv bl) (hr : Rise b.kept) (hlast : ∀ x ∈ b.kept, x ≤ b.last) (hbs : base ≤ W.heap.size) :
    Calls Tryz.prog 25 #[.pointer (some ⟨g, 0, none⟩), .int .i64 1, .agg #[.int .i64 t, .slice none 0 0]] W fun e w' => e = .returned (.int .i64 (putB b t).2) ∧ ∃ kv', BrdM base w' g hq hs nq ns (some xq) (putB b t).1 kv' bl ∧ OffM (BTyM base W) W w' := by
  have hb0 := (Below.refl W.heap.size W).alloc (Nat.le_refl _) (.cells #[.int .i64 t, .slice none 0 0] 34)
  have HW := Lib.hid h
  have H1 := Lib.hid (h.keep hb0)
  have HB1 := Lib.hid (Blk.new W [.int .i64 t, .slice none 0 0] 34)
  have Ho1 := Lib.hid (OffM.of (M := BTyM base W) hb0)
  have Hr := Lib.hid hr; have Hlast := Lib.hid hlast
  clear h hb0 hr hlast
  obtain ⟨pr, hpr⟩ : ∃ r, putB b t = r := ⟨_, rfl⟩
  rw [hpr]
  unfold putB maxTimeB at hpr
  have HP := Lib.hid hpr; clear hpr
  go_enter Tryz.func25, Tryz.ntmps25; (try simp only [List.append_eq, List.cons_append, List.nil_append])
  go_wp2_with fail
  have hsz1 := Ho1.out.size
  obtain ⟨gB, hgB⟩ : ∃ z, W.heap.size = z := ⟨_, rfl⟩
  obtain ⟨W1, hW1⟩ : ∃ z, W.alloc (.cells #[.int .i64 t, .slice none 0 0] 34) = z := ⟨_, rfl⟩
  rw [show (W.alloc (.cells ([.int .i64 t, .slice none 0 0] : List Value).toArray 34)) = W1 from hW1] at HB1
  rw [hW1] at H1 Ho1 hsz1 ⊢
  rw [hgB] at HB1 ⊢
  have Hbs1 := Lib.hid (show base ≤ W1.heap.size from Nat.le_trans hbs hsz1)
  have hxq := (H1.out.qb xq rfl).1
  have hxl := hxq.lt
  have hgl := H1.out.blk.lt
  have hgb := HB1.out.lt
  have c0 : W1.cell? ⟨g, 0, none⟩ = some (.int .i64 b.room) := H1.out.blk.cell 0 _ rfl
  have c1 : W1.cell? ⟨g, 1, none⟩ = some (.map (some hq)) := H1.out.blk.cell 1 _ rfl
  have d0 : W1.cell? ⟨xq, 0, none⟩ = some kv := hxq.cell 0 _ rfl
  have d1 : W1.cell? ⟨xq, 1, none⟩ = some (.int .i64 b.last) := hxq.cell 1 _ rfl
  have k0 : W1.cell? ⟨gB, 0, none⟩ = some (.int .i64 t) := HB1.out.cell 0 _ rfl
  have k1 : W1.cell? ⟨gB, 1, none⟩ = some (.slice none 0 0) := HB1.out.cell 1 _ rfl
  have hlook := H1.out.lookQ
  obtain ⟨ak, ck, hkv⟩ := ownsRow_slice H1.out.kept
  have HKV := Lib.hid hkv
  clear hxq
  refine (bMade H1.out.blk).mono ?_
  rintro e w2 ⟨rfl, rfl⟩
  go_wp2_with fail
  refine (bCheck0 _).mono ?_
  rintro e w2 ⟨rfl, rfl⟩
  have HGB := Lib.hid hgB
  clear hgB hW1 HKV
  subst hkv
  by_cases h1 : t < 1
  · go_wp2
    go_ret
    have hp := HP.out
    rw [if_pos (.inl h1)] at hp
    subst hp
    first | exact ⟨rfl, _, H1.out, Ho1.out⟩ | exact ⟨rfl, ⟨_, H1.out⟩, Ho1.out⟩
  by_cases h2 : 1099511627776 < t
  · go_wp2
    go_ret
    have hp := HP.out
    rw [if_pos (.inr h2)] at hp
    subst hp
    first | exact ⟨rfl, _, H1.out, Ho1.out⟩ | exact ⟨rfl, ⟨_, H1.out⟩, Ho1.out⟩
  have HP := Lib.hid ((if_neg (show ¬ (t < 1 ∨ 1099511627776 < t) by omega)).symm.trans HP.out)
  by_cases h3 : t ≤ b.last
  · go_wp2_with fail
    all_goals first | (exfalso; omega) | skip
    go_quiet (fail)
    go_wp2
    go_ret
    have hp := HP.out
    rw [if_pos h3] at hp
    subst hp
    exact ⟨rfl, _, H1.out.keep (below_drewN (Below.refl _ _) _), Ho1.out.trans (OffM.of (M := fun _ => False) (below_drewN (Below.refl _ _) _)) (fun _ _ h => h.elim)⟩
  have HP := Lib.hid ((if_neg h3).symm.trans HP.out)
  by_cases h4 : b.room ≤ (b.kept.length : Int)
  · go_wp2_with fail
    all_goals first | (exfalso; omega) | skip
    go_quiet (fail)
    go_wp2_with fail
    all_goals first | (exfalso; omega) | skip
    go_quiet (fail)
    go_wp2
    go_ret
    have hp := HP.out
    rw [if_pos h4] at hp
    subst hp
    exact ⟨rfl, _, H1.out.keep (below_drewN (below_drewN (Below.refl _ _) _) _), Ho1.out.trans (OffM.of (M := fun _ => False) (below_drewN (below_drewN (Below.refl _ _) _) _)) (fun _ _ h => h.elim)⟩
  have HP := Lib.hid ((if_neg h4).symm.trans HP.out)
  go_wp2_with fail
  all_goals first | (exfalso; omega) | skip
  go_quiet (fail)
  obtain ⟨nqa, hnqa⟩ : ∃ z, nq = z := ⟨_, rfl⟩
  rw [hnqa]
  clear hnqa
  go_wp2_with fail
  all_goals first | (exfalso; omega) | skip
  go_quiet (fail)
  go_wp2_with fail
  have hbq : Below w2.heap.size w2 ((w2.drewN nqa).drewN nq) := below_drewN (below_drewN (Below.refl _ _) _) _
  obtain ⟨W3, hW3⟩ : ∃ z, (w2.drewN nqa).drewN nq = z := ⟨_, rfl⟩
  rw [hW3] at hbq ⊢
  clear hW3
  have H3 := Lib.hid (H1.out.keep hbq)
  have HB1 := Lib.hid (HB1.out.keep hbq)
  have Ho3 := Lib.hid (Ho1.out.trans (OffM.of (M := fun _ => False) hbq) (fun _ _ h => h.elim))
  have Hbs3 := Lib.hid (show base ≤ W3.heap.size from Nat.le_trans Hbs1.out hbq.size)
  have HQ := Lib.hid (H3.out.qb xq rfl).1
  have HKp := Lib.hid H3.out.kept
  have HgX := Lib.hid (HB1.out.ne_ty HQ.out (by decide))
  have hbq := Below.refl W3.heap.size W3
  have HgB := Lib.hid (show ¬ (gB = xq ∨ (Value.slice ak b.kept.length ck).ownBlock = some gB) from fun e => by
    rcases e with e | e
    · exact HgX.out e
    · have h9 := (ownsRow_block HW.out.kept gB e).2
      have h8 := HGB.out
      omega)
  have BT3 := Lib.hid (show ∀ k, k < W.heap.size → (k = xq ∨ (Value.slice ak b.kept.length ck).ownBlock = some k) → BTyM base W k from fun k hk hm => by
    rcases hm with rfl | hm
    · exact BTyM.blk (HW.out.qb _ rfl).1 (.inr (.inl rfl)) (HW.out.qb _ rfl).2
    · exact BTyM.own HW.out.kept hm)
  have HT6 := Lib.hid (show 0 ≤ t ∧ t ≤ 1099511627776 by omega)
  have HN6 := Lib.hid (show (b.kept ++ [t]).length ≤ 4096 ∧ ∀ x ∈ b.kept ++ [t], 1 ≤ x ∧ x ≤ 1099511627776 from by
    have h8 := H3.out.num.1
    refine ⟨by rw [List.length_append, List.length_singleton]; omega, fun x hx => ?_⟩
    rcases List.mem_append.1 hx with hx | hx
    · exact H3.out.keptN.2 x hx
    · simp at hx; subst hx; omega)
  clear c0 c1 d0 d1 k0 k1 hlook hxl hgl hgb
  obtain ⟨i0, hi, hz0, hz1, hz2⟩ := info_parts infoTold
  -- REGION 15
  refine wp_region_held_drew (S := fun X => Blk X gB 34 [.int .i64 t, .slice none 0 0]) (by kernel_rfl) (HB1.out.keep (Below.drew hbq)) (fun hHeld => ?_)
  have HX := Lib.hid (Below.drew hbq)
  obtain ⟨X, hX⟩ : ∃ z, W3.drew = z := ⟨_, rfl⟩
  rw [hX] at HX ⊢
  clear hX
  have hSd := HB1.out.keep HX.out
  try clear hHeld
  (refine htk 0 54 (.pointer (some ⟨xq, 0, none⟩)) rfl ?_ ?_; (intro w hSw; clear hSw; go_simp); simp only [lsz, lss])
  (refine htk 1 55 (.pointer (some ⟨xq, 0, none⟩)) rfl ?_ ?_; (intro w hSw; clear hSw; go_simp); simp only [lsz, lss])
  (refine htk 2 56 (.pointer (some ⟨xq, 0, none⟩)) rfl ?_ ?_; (intro w hSw; clear hSw; go_simp); simp only [lsz, lss])
  (refine htk 3 57 (.pointer (some ⟨xq, 0, none⟩)) rfl ?_ ?_; (intro w hSw; clear hSw; go_simp); simp only [lsz, lss])
  (refine htk 4 58 (.pointer (some ⟨xq, 0, none⟩)) rfl ?_ ?_; (intro w hSw; clear hSw; go_simp); simp only [lsz, lss])
  (refine htk 6 60 (.agg #[.int .i64 t, .slice none 0 0]) rfl ?_ ?_; (intro w hSw; have e0 := hSw.cell 0 _ rfl; have e1 := hSw.cell 1 _ rfl; clear hSw; go_simp); simp only [lsz, lss])
  (refine htk 10 64 (.pointer (some ⟨gB, 0, none⟩)) rfl ?_ ?_; (intro w hSw; clear hSw; go_simp); simp only [lsz, lss])
  (refine htk 11 65 (.int .i64 t) rfl ?_ ?_; (intro w hSw; have e0 := hSw.cell 0 _ rfl; have e1 := hSw.cell 1 _ rfl; clear hSw; go_simp); simp only [lsz, lss])
  refine wpAnyH_ready (rs := [5, 7]) (by kernel_rfl) (by simp) (.cons rfl (fun K hK => ?_) (.cons rfl (fun K hK => ?_) .nil))
  · skip
    rw [if_pos (by kernel_rfl)]
    have e0 : X.cell? ⟨xq, 0, none⟩ = some (.slice ak b.kept.length ck) := (HQ.out.keep HX.out).cell 0 _ rfl
    go_simp
    clear e0
    refine hK.out _ _ hSd (fun hHeld => ?_)
    clear hK K
    (try simp only [Act.put, lsa, lsz, lss])
    refine hrd 7 rfl (fun K hK => ?_)
    rw [if_pos (by kernel_rfl)]
    go_simp
    have hb := (Below.refl X.heap.size X).alloc (Nat.le_refl _) (.cells #[.int .i64 t, .slice none 0 0] 34)
    have HIT := Lib.hid (isT_one X t)
    have HX := Lib.hid (HX.out.trans (hb.mono HX.out.size))
    obtain ⟨gN, hgN⟩ : ∃ z, X.heap.size = z := ⟨_, rfl⟩
    obtain ⟨X1, hY⟩ : ∃ z, X.alloc (.cells #[.int .i64 t, .slice none 0 0] 34) = z := ⟨_, rfl⟩
    rw [hgN] at HIT ⊢
    rw [hY] at HX HIT ⊢
    clear hY hgN hb
    have hSd := HB1.out.keep HX.out
    refine hK.out _ _ hSd (fun hHeld => ?_)
    clear hK K
    (try simp only [Act.put, lsa, lsz, lss])
    refine hrd 8 rfl (fun K hK => ?_)
    rw [if_pos (by kernel_rfl)]
    go_simp
    refine (bCopied HIT.out (Nat.le_refl _) (by simp)).mono ?_
    rintro e X2 ⟨vc, rfl, hown, hb⟩
    have HX := Lib.hid (HX.out.trans (hb.mono HX.out.size))
    have HC := Lib.hid (Src.of_own hown)
    clear hb hown
    have hSd := HB1.out.keep HX.out
    refine hK.out _ _ hSd (fun hHeld => ?_)
    clear hK K
    (try simp only [Act.put, lsa, lsz, lss])
    refine hrd 9 rfl (fun K hK => ?_)
    rw [if_pos (by kernel_rfl)]
    refine wp_append_src _ _ _ _ rfl base 34 i0 (.agg #[.int .i64 0, .slice none 0 0]) 2 32 Tryz.underlying37 hi hz0 hz1 hz2 rfl (by decide) _ b.kept.length _ rfl (ownsRow_keep HKp.out HX.out) _ 1 _ rfl HC.out (told_one [t]) (by have := H3.out.keptN; unfold maxLen; omega) (by have := H3.out.keptN; omega) (by have := HX.out.size; have := Hbs3.out; omega) ?_
    intro v4 X4 hown4 hg4 _
    obtain ⟨a4, c4, rfl⟩ := ownsRow_slice hown4
    have HO4 := Lib.hid ((OffM.of (M := fun k => k = xq ∨ (Value.slice ak b.kept.length ck).ownBlock = some k) HX.out).trans (OffM.grown hg4) (fun k _ hk => .inr hk))
    have HK4 := Lib.hid (show OwnT base X4 (.slice a4 (b.kept.length + 1) c4) (b.kept ++ [t]) from by unfold OwnT; rw [List.length_append, List.map_append, List.flatten_append]; exact hown4)
    have HB4 := Lib.hid (show Blk X4 gB 34 [.int .i64 t, .slice none 0 0] from (HO4.out.block _ HB1.out.lt (HgB.out)).trans HB1.out)
    have HQ4 := Lib.hid (show Blk X4 xq 64 [.slice ak b.kept.length ck, .int .i64 b.last, .int .i64 b.floor] from (hg4.block _ (HQ.out.keep HX.out).lt (fun e => HQ.out.not_own H3.out.kept (by decide) e.symm)).trans (HQ.out.keep HX.out))
    clear hown4 hg4
    have hSd := HB4.out
    refine hK.out _ _ hSd (fun hHeld => ?_)
    clear hK K
    (try simp only [Act.put, lsa, lsz, lss])
    refine hrd 12 rfl (fun K hK => ?_)
    rw [if_pos (by kernel_rfl)]
    go_simp
    refine hK.out _ _ hSd (fun hHeld => ?_)
    clear hK K
    (try simp only [Act.put, lsa, lsz, lss])
    refine hrd 13 rfl (fun K hK => ?_)
    rw [if_pos (by kernel_rfl)]
    go_simp
    refine hK.out _ _ hSd (fun hHeld => ?_)
    clear hK K
    (try simp only [Act.put, lsa, lsz, lss])
    have hxl4 := HQ4.out.lt
    have k0 := HQ4.out.cell 0 _ rfl
    have fr0 := HQ4.out.free 0
    refine hrd 14 rfl (fun K hK => ?_)
    rw [if_pos (by kernel_rfl)]
    go_simp
    clear k0 fr0
    have hSd := HB4.out.far (p := ⟨xq, 0, none⟩) HgX.out (.slice a4 (b.kept.length + 1) c4)
    refine hK.out _ _ hSd (fun hHeld => ?_)
    clear hK K
    (try simp only [Act.put, lsa, lsz, lss])
    refine hrd 15 rfl (fun K hK => ?_)
    rw [if_pos (by kernel_rfl)]
    go_simp
    refine hK.out _ _ hSd (fun hHeld => ?_)
    clear hK K
    (try simp only [Act.put, lsa, lsz, lss])
    refine hrd 16 rfl (fun K hK => ?_)
    rw [if_pos (by kernel_rfl)]
    go_simp
    refine hK.out _ _ hSd (fun hHeld => ?_)
    clear hK K
    (try simp only [Act.put, lsa, lsz, lss])
    have HQ5 := Lib.hid (HQ4.out.set_ 0 (.slice a4 (b.kept.length + 1) c4))
    have k1 := HQ5.out.cell 1 _ rfl
    have fr1 := HQ5.out.free 1
    have hxl5 := HQ5.out.lt
    refine hrd 17 rfl (fun K hK => ?_)
    rw [if_pos (by kernel_rfl)]
    go_simp
    clear k1 fr1
    have hSd := hSd.far (p := ⟨xq, 1, none⟩) HgX.out (.int .i64 t)
    refine hK.out _ _ hSd (fun hHeld => ?_)
    clear hK K
    (try simp only [Act.put, lsa, lsz, lss])
    refine wpAnyH_done (by kernel_rfl) ?_ _
    have HQ6 := Lib.hid (HQ5.out.set_ 1 (.int .i64 t))
    have HO6 := Lib.hid ((HO4.out.trans (OffM.cell1 X4 xq 0 (.slice a4 (b.kept.length + 1) c4)) (fun k _ hk => .inl hk)).trans (OffM.cell1 _ xq 1 (.int .i64 t)) (fun k _ hk => .inl hk))
    have HK6 := Lib.hid (ownsRow_offM (ownsRow_offM HK4.out (OffM.cell1 X4 xq 0 (.slice a4 (b.kept.length + 1) c4)) (fun g2 h1 h2 => HQ4.out.not_own HK4.out (by decide) (by rw [h1, h2]))) (OffM.cell1 _ xq 1 (.int .i64 t)) (fun g2 h1 h2 => HQ4.out.not_own HK4.out (by decide) (by rw [h1, h2])))
    generalize (X4.setCell ⟨xq, 0, none⟩ (.slice a4 (b.kept.length + 1) c4)).setCell ⟨xq, 1, none⟩ (.int .i64 t) = X6 at HQ6 HO6 HK6 ⊢
    have H6 := Lib.hid (H3.out.turnK (b' := { b with kept := b.kept ++ [t], last := t }) HO6.out HQ6.out HK6.out rfl rfl rfl HT6.out H3.out.num.2.2.2.1 HN6.out)
    have HOB := Lib.hid (Ho3.out.trans HO6.out (fun k hk hm => BT3.out k hk hm))
    have hr6 : Rise ({ b with kept := b.kept ++ [t], last := t } : Bd).kept := List.pairwise_append.2 ⟨Hr.out, List.pairwise_singleton _ _, fun a ha c hc => by simp at hc; subst hc; have := Hlast.out a ha; omega⟩
    have hbs6 : base ≤ X6.heap.size := by have := HO6.out.size; have := Hbs3.out; omega
    go_wp2_with fail
    refine (bLetGo H6.out hr6 hbs6).mono ?_
    rintro e w9 ⟨rfl, kv9, hB9, ho9⟩
    have HB9 := Lib.hid hB9; have Ho9 := Lib.hid ho9; clear hB9 ho9 hr6
    go_wp2
    go_ret
    have hp := HP.out
    subst hp
    exact ⟨rfl, kv9, HB9.out, OffB.trans HOB.out Ho9.out⟩
  · skip
    rw [if_pos (by kernel_rfl)]
    go_simp
    have hb := (Below.refl X.heap.size X).alloc (Nat.le_refl _) (.cells #[.int .i64 t, .slice none 0 0] 34)
    have HIT := Lib.hid (isT_one X t)
    have HX := Lib.hid (HX.out.trans (hb.mono HX.out.size))
    obtain ⟨gN, hgN⟩ : ∃ z, X.heap.size = z := ⟨_, rfl⟩
    obtain ⟨X1, hY⟩ : ∃ z, X.alloc (.cells #[.int .i64 t, .slice none 0 0] 34) = z := ⟨_, rfl⟩
    rw [hgN] at HIT ⊢
    rw [hY] at HX HIT ⊢
    clear hY hgN hb
    have hSd := HB1.out.keep HX.out
    refine hK.out _ _ hSd (fun hHeld => ?_)
    clear hK K
    (try simp only [Act.put, lsa, lsz, lss])
    refine wpAnyH_ready (rs := [5, 8]) (by kernel_rfl) (by simp) (.cons rfl (fun K hK => ?_) (.cons rfl (fun K hK => ?_) .nil))
    · skip
      rw [if_pos (by kernel_rfl)]
      have e0 : X1.cell? ⟨xq, 0, none⟩ = some (.slice ak b.kept.length ck) := (HQ.out.keep HX.out).cell 0 _ rfl
      go_simp
      clear e0
      refine hK.out _ _ hSd (fun hHeld => ?_)
      clear hK K
      (try simp only [Act.put, lsa, lsz, lss])
      refine hrd 8 rfl (fun K hK => ?_)
      rw [if_pos (by kernel_rfl)]
      go_simp
      refine (bCopied HIT.out (Nat.le_refl _) (by simp)).mono ?_
      rintro e X2 ⟨vc, rfl, hown, hb⟩
      have HX := Lib.hid (HX.out.trans (hb.mono HX.out.size))
      have HC := Lib.hid (Src.of_own hown)
      clear hb hown
      have hSd := HB1.out.keep HX.out
      refine hK.out _ _ hSd (fun hHeld => ?_)
      clear hK K
      (try simp only [Act.put, lsa, lsz, lss])
      refine hrd 9 rfl (fun K hK => ?_)
      rw [if_pos (by kernel_rfl)]
      refine wp_append_src _ _ _ _ rfl base 34 i0 (.agg #[.int .i64 0, .slice none 0 0]) 2 32 Tryz.underlying37 hi hz0 hz1 hz2 rfl (by decide) _ b.kept.length _ rfl (ownsRow_keep HKp.out HX.out) _ 1 _ rfl HC.out (told_one [t]) (by have := H3.out.keptN; unfold maxLen; omega) (by have := H3.out.keptN; omega) (by have := HX.out.size; have := Hbs3.out; omega) ?_
      intro v4 X4 hown4 hg4 _
      obtain ⟨a4, c4, rfl⟩ := ownsRow_slice hown4
      have HO4 := Lib.hid ((OffM.of (M := fun k => k = xq ∨ (Value.slice ak b.kept.length ck).ownBlock = some k) HX.out).trans (OffM.grown hg4) (fun k _ hk => .inr hk))
      have HK4 := Lib.hid (show OwnT base X4 (.slice a4 (b.kept.length + 1) c4) (b.kept ++ [t]) from by unfold OwnT; rw [List.length_append, List.map_append, List.flatten_append]; exact hown4)
      have HB4 := Lib.hid (show Blk X4 gB 34 [.int .i64 t, .slice none 0 0] from (HO4.out.block _ HB1.out.lt (HgB.out)).trans HB1.out)
      have HQ4 := Lib.hid (show Blk X4 xq 64 [.slice ak b.kept.length ck, .int .i64 b.last, .int .i64 b.floor] from (hg4.block _ (HQ.out.keep HX.out).lt (fun e => HQ.out.not_own H3.out.kept (by decide) e.symm)).trans (HQ.out.keep HX.out))
      clear hown4 hg4
      have hSd := HB4.out
      refine hK.out _ _ hSd (fun hHeld => ?_)
      clear hK K
      (try simp only [Act.put, lsa, lsz, lss])
      refine hrd 12 rfl (fun K hK => ?_)
      rw [if_pos (by kernel_rfl)]
      go_simp
      refine hK.out _ _ hSd (fun hHeld => ?_)
      clear hK K
      (try simp only [Act.put, lsa, lsz, lss])
      refine hrd 13 rfl (fun K hK => ?_)
      rw [if_pos (by kernel_rfl)]
      go_simp
      refine hK.out _ _ hSd (fun hHeld => ?_)
      clear hK K
      (try simp only [Act.put, lsa, lsz, lss])
      have hxl4 := HQ4.out.lt
      have k0 := HQ4.out.cell 0 _ rfl
      have fr0 := HQ4.out.free 0
      refine hrd 14 rfl (fun K hK => ?_)
      rw [if_pos (by kernel_rfl)]
      go_simp
      clear k0 fr0
      have hSd := HB4.out.far (p := ⟨xq, 0, none⟩) HgX.out (.slice a4 (b.kept.length + 1) c4)
      refine hK.out _ _ hSd (fun hHeld => ?_)
      clear hK K
      (try simp only [Act.put, lsa, lsz, lss])
      refine hrd 15 rfl (fun K hK => ?_)
      rw [if_pos (by kernel_rfl)]
      go_simp
      refine hK.out _ _ hSd (fun hHeld => ?_)
      clear hK K
      (try simp only [Act.put, lsa, lsz, lss])
      refine hrd 16 rfl (fun K hK => ?_)
      rw [if_pos (by kernel_rfl)]
      go_simp
      refine hK.out _ _ hSd (fun hHeld => ?_)
      clear hK K
      (try simp only [Act.put, lsa, lsz, lss])
      have HQ5 := Lib.hid (HQ4.out.set_ 0 (.slice a4 (b.kept.length + 1) c4))
      have k1 := HQ5.out.cell 1 _ rfl
      have fr1 := HQ5.out.free 1
      have hxl5 := HQ5.out.lt
      refine hrd 17 rfl (fun K hK => ?_)
      rw [if_pos (by kernel_rfl)]
      go_simp
      clear k1 fr1
      have hSd := hSd.far (p := ⟨xq, 1, none⟩) HgX.out (.int .i64 t)
      refine hK.out _ _ hSd (fun hHeld => ?_)
      clear hK K
      (try simp only [Act.put, lsa, lsz, lss])
      refine wpAnyH_done (by kernel_rfl) ?_ _
      have HQ6 := Lib.hid (HQ5.out.set_ 1 (.int .i64 t))
      have HO6 := Lib.hid ((HO4.out.trans (OffM.cell1 X4 xq 0 (.slice a4 (b.kept.length + 1) c4)) (fun k _ hk => .inl hk)).trans (OffM.cell1 _ xq 1 (.int .i64 t)) (fun k _ hk => .inl hk))
      have HK6 := Lib.hid (ownsRow_offM (ownsRow_offM HK4.out (OffM.cell1 X4 xq 0 (.slice a4 (b.kept.length + 1) c4)) (fun g2 h1 h2 => HQ4.out.not_own HK4.out (by decide) (by rw [h1, h2]))) (OffM.cell1 _ xq 1 (.int .i64 t)) (fun g2 h1 h2 => HQ4.out.not_own HK4.out (by decide) (by rw [h1, h2])))
      generalize (X4.setCell ⟨xq, 0, none⟩ (.slice a4 (b.kept.length + 1) c4)).setCell ⟨xq, 1, none⟩ (.int .i64 t) = X6 at HQ6 HO6 HK6 ⊢
      have H6 := Lib.hid (H3.out.turnK (b' := { b with kept := b.kept ++ [t], last := t }) HO6.out HQ6.out HK6.out rfl rfl rfl HT6.out H3.out.num.2.2.2.1 HN6.out)
      have HOB := Lib.hid (Ho3.out.trans HO6.out (fun k hk hm => BT3.out k hk hm))
      have hr6 : Rise ({ b with kept := b.kept ++ [t], last := t } : Bd).kept := List.pairwise_append.2 ⟨Hr.out, List.pairwise_singleton _ _, fun a ha c hc => by simp at hc; subst hc; have := Hlast.out a ha; omega⟩
      have hbs6 : base ≤ X6.heap.size := by have := HO6.out.size; have := Hbs3.out; omega
      go_wp2_with fail
      refine (bLetGo H6.out hr6 hbs6).mono ?_
      rintro e w9 ⟨rfl, kv9, hB9, ho9⟩
      have HB9 := Lib.hid hB9; have Ho9 := Lib.hid ho9; clear hB9 ho9 hr6
      go_wp2
      go_ret
      have hp := HP.out
      subst hp
      exact ⟨rfl, kv9, HB9.out, OffB.trans HOB.out Ho9.out⟩
    · skip
      rw [if_pos (by kernel_rfl)]
      go_simp
      refine (bCopied HIT.out (Nat.le_refl _) (by simp)).mono ?_
      rintro e X2 ⟨vc, rfl, hown, hb⟩
      have HX := Lib.hid (HX.out.trans (hb.mono HX.out.size))
      have HC := Lib.hid (Src.of_own hown)
      clear hb hown
      have hSd := HB1.out.keep HX.out
      refine hK.out _ _ hSd (fun hHeld => ?_)
      clear hK K
      (try simp only [Act.put, lsa, lsz, lss])
      refine hrd 5 rfl (fun K hK => ?_)
      rw [if_pos (by kernel_rfl)]
      have e0 : X2.cell? ⟨xq, 0, none⟩ = some (.slice ak b.kept.length ck) := (HQ.out.keep HX.out).cell 0 _ rfl
      go_simp
      clear e0
      refine hK.out _ _ hSd (fun hHeld => ?_)
      clear hK K
      (try simp only [Act.put, lsa, lsz, lss])
      refine hrd 9 rfl (fun K hK => ?_)
      rw [if_pos (by kernel_rfl)]
      refine wp_append_src _ _ _ _ rfl base 34 i0 (.agg #[.int .i64 0, .slice none 0 0]) 2 32 Tryz.underlying37 hi hz0 hz1 hz2 rfl (by decide) _ b.kept.length _ rfl (ownsRow_keep HKp.out HX.out) _ 1 _ rfl HC.out (told_one [t]) (by have := H3.out.keptN; unfold maxLen; omega) (by have := H3.out.keptN; omega) (by have := HX.out.size; have := Hbs3.out; omega) ?_
      intro v4 X4 hown4 hg4 _
      obtain ⟨a4, c4, rfl⟩ := ownsRow_slice hown4
      have HO4 := Lib.hid ((OffM.of (M := fun k => k = xq ∨ (Value.slice ak b.kept.length ck).ownBlock = some k) HX.out).trans (OffM.grown hg4) (fun k _ hk => .inr hk))
      have HK4 := Lib.hid (show OwnT base X4 (.slice a4 (b.kept.length + 1) c4) (b.kept ++ [t]) from by unfold OwnT; rw [List.length_append, List.map_append, List.flatten_append]; exact hown4)
      have HB4 := Lib.hid (show Blk X4 gB 34 [.int .i64 t, .slice none 0 0] from (HO4.out.block _ HB1.out.lt (HgB.out)).trans HB1.out)
      have HQ4 := Lib.hid (show Blk X4 xq 64 [.slice ak b.kept.length ck, .int .i64 b.last, .int .i64 b.floor] from (hg4.block _ (HQ.out.keep HX.out).lt (fun e => HQ.out.not_own H3.out.kept (by decide) e.symm)).trans (HQ.out.keep HX.out))
      clear hown4 hg4
      have hSd := HB4.out
      refine hK.out _ _ hSd (fun hHeld => ?_)
      clear hK K
      (try simp only [Act.put, lsa, lsz, lss])
      refine hrd 12 rfl (fun K hK => ?_)
      rw [if_pos (by kernel_rfl)]
      go_simp
      refine hK.out _ _ hSd (fun hHeld => ?_)
      clear hK K
      (try simp only [Act.put, lsa, lsz, lss])
      refine hrd 13 rfl (fun K hK => ?_)
      rw [if_pos (by kernel_rfl)]
      go_simp
      refine hK.out _ _ hSd (fun hHeld => ?_)
      clear hK K
      (try simp only [Act.put, lsa, lsz, lss])
      have hxl4 := HQ4.out.lt
      have k0 := HQ4.out.cell 0 _ rfl
      have fr0 := HQ4.out.free 0
      refine hrd 14 rfl (fun K hK => ?_)
      rw [if_pos (by kernel_rfl)]
      go_simp
      clear k0 fr0
      have hSd := HB4.out.far (p := ⟨xq, 0, none⟩) HgX.out (.slice a4 (b.kept.length + 1) c4)
      refine hK.out _ _ hSd (fun hHeld => ?_)
      clear hK K
      (try simp only [Act.put, lsa, lsz, lss])
      refine hrd 15 rfl (fun K hK => ?_)
      rw [if_pos (by kernel_rfl)]
      go_simp
      refine hK.out _ _ hSd (fun hHeld => ?_)
      clear hK K
      (try simp only [Act.put, lsa, lsz, lss])
      refine hrd 16 rfl (fun K hK => ?_)
      rw [if_pos (by kernel_rfl)]
      go_simp
      refine hK.out _ _ hSd (fun hHeld => ?_)
      clear hK K
      (try simp only [Act.put, lsa, lsz, lss])
      have HQ5 := Lib.hid (HQ4.out.set_ 0 (.slice a4 (b.kept.length + 1) c4))
      have k1 := HQ5.out.cell 1 _ rfl
      have fr1 := HQ5.out.free 1
      have hxl5 := HQ5.out.lt
      refine hrd 17 rfl (fun K hK => ?_)
      rw [if_pos (by kernel_rfl)]
      go_simp
      clear k1 fr1
      have hSd := hSd.far (p := ⟨xq, 1, none⟩) HgX.out (.int .i64 t)
      refine hK.out _ _ hSd (fun hHeld => ?_)
      clear hK K
      (try simp only [Act.put, lsa, lsz, lss])
      refine wpAnyH_done (by kernel_rfl) ?_ _
      have HQ6 := Lib.hid (HQ5.out.set_ 1 (.int .i64 t))
      have HO6 := Lib.hid ((HO4.out.trans (OffM.cell1 X4 xq 0 (.slice a4 (b.kept.length + 1) c4)) (fun k _ hk => .inl hk)).trans (OffM.cell1 _ xq 1 (.int .i64 t)) (fun k _ hk => .inl hk))
      have HK6 := Lib.hid (ownsRow_offM (ownsRow_offM HK4.out (OffM.cell1 X4 xq 0 (.slice a4 (b.kept.length + 1) c4)) (fun g2 h1 h2 => HQ4.out.not_own HK4.out (by decide) (by rw [h1, h2]))) (OffM.cell1 _ xq 1 (.int .i64 t)) (fun g2 h1 h2 => HQ4.out.not_own HK4.out (by decide) (by rw [h1, h2])))
      generalize (X4.setCell ⟨xq, 0, none⟩ (.slice a4 (b.kept.length + 1) c4)).setCell ⟨xq, 1, none⟩ (.int .i64 t) = X6 at HQ6 HO6 HK6 ⊢
      have H6 := Lib.hid (H3.out.turnK (b' := { b with kept := b.kept ++ [t], last := t }) HO6.out HQ6.out HK6.out rfl rfl rfl HT6.out H3.out.num.2.2.2.1 HN6.out)
      have HOB := Lib.hid (Ho3.out.trans HO6.out (fun k hk hm => BT3.out k hk hm))
      have hr6 : Rise ({ b with kept := b.kept ++ [t], last := t } : Bd).kept := List.pairwise_append.2 ⟨Hr.out, List.pairwise_singleton _ _, fun a ha c hc => by simp at hc; subst hc; have := Hlast.out a ha; omega⟩
      have hbs6 : base ≤ X6.heap.size := by have := HO6.out.size; have := Hbs3.out; omega
      go_wp2_with fail
      refine (bLetGo H6.out hr6 hbs6).mono ?_
      rintro e w9 ⟨rfl, kv9, hB9, ho9⟩
      have HB9 := Lib.hid hB9; have Ho9 := Lib.hid ho9; clear hB9 ho9 hr6
      go_wp2
      go_ret
      have hp := HP.out
      subst hp
      exact ⟨rfl, kv9, HB9.out, OffB.trans HOB.out Ho9.out⟩
  -- END
end
end Go.Proofs.YtfmolimnnheaoaaGreat

/- (*Board).join, Subscribe, Resume. -/
namespace Go.Proofs.YtfmolimnnheaoaaGreat
open Go.RowKit
set_option linter.unusedSimpArgs false
set_option linter.unusedVariables false
open Go.Maps

section
variable {base : Nat} {W W' : World} {g hq hs nq ns xq : Nat} {q : Option Nat} {b b' : Bd} {kv kv' : Value} {bl : List Nat}
/-- One more subscriber. -/
theorem BrdM.more (h : BrdM base W g hq hs nq ns q b kv bl) {frm : Int} {W2 : World} (hf : 0 ≤ frm ∧ frm ≤ 1099511627776) (hbs : base ≤ W.heap.size) (hnx : b.next + 1 ≤ 100000) (hns : ns + 1 ≤ 100000)
    (hM : MapB W2 hs (ns + 1) (((b.subs.map Sb.id).zip bl) ++ [(b.next, W.heap.size)])) (hg : (W.alloc (.cells ([.int .i64 b.next, .int .i64 1, .int .i64 frm, .int .i64 frm] : List Value).toArray 73)).grownBy W2 (some hs)) :
    BrdM base (W2.setCell ⟨g, 3, none⟩ (.int .i64 (b.next + 1))) g hq hs nq (ns + 1) q { b with subs := b.subs ++ [⟨b.next, frm, frm⟩], next := b.next + 1 } kv (bl ++ [W.heap.size]) := by
  have hb := (Below.refl W.heap.size W).alloc (Nat.le_refl _) (.cells ([.int .i64 b.next, .int .i64 1, .int .i64 frm, .int .i64 frm] : List Value).toArray 73)
  have hgne : ∀ {y t : Nat} {cs : List Value}, Blk W y t cs → t ≠ 55 → Blk (W2.setCell ⟨g, 3, none⟩ (.int .i64 (b.next + 1))) y t cs := fun hy hne => (hy.grown hb hg (h.ms.ne hy)).far (p := ⟨g, 3, none⟩) (hy.ne_ty h.blk hne) _
  have hmk : ∀ {y n : Nat} {l : List (Int × Nat)}, MapB W2 y n l → MapB (W2.setCell ⟨g, 3, none⟩ (.int .i64 (b.next + 1))) y n l := fun hy => hy.keep (Below.heap_setCell _ _ _ _ (hy.ne (h.blk.grown hb hg (h.ms.ne h.blk))).symm)
  have hkv : W2.ownsRow base 34 2 kv b.kept.length (b.kept.map toldC).flatten := by
    refine ownsRow_offM (M := fun k => some hs = some k) (ownsRow_keep h.kept hb) (OffM.grown hg) (fun k hk e => ?_)
    have e' : hs = k := Option.some.inj e
    subst e'
    have hm := h.ms
    obtain ⟨es, clock, hm, -⟩ := hm
    rcases h.kept.2 with ⟨hv, _⟩ | ⟨g1, c1, u1, hv, _, hh, _⟩
    · rw [hv] at hk; cases hk
    · rw [hv] at hk
      simp [Value.ownBlock] at hk
      subst hk
      rw [hm] at hh; cases hh
  have hnx0 := h.next
  refine ⟨?_, hmk (h.mq.grown hb hg h.low.2.2.2.1), ?_, by simp [h.len], fun x hx => ⟨hgne (h.qb x hx).1 (by decide), (h.qb x hx).2⟩, ?_, fun i s x e1 e2 => ?_, ?_, ?_, ?_, ?_, ?_, ?_, h.keptN⟩
  · exact (h.blk.grown hb hg (h.ms.ne h.blk)).set_ 3 _
  · refine hmk ?_
    rw [List.map_append, List.zip_append (by rw [List.length_map, h.len])]
    exact hM
  · exact ownsRow_offM hkv (OffM.cell1 _ _ _ _) (fun k hk e => (h.blk.grown hb hg (h.ms.ne h.blk)).not_own hkv (by decide) (by rw [hk, e]))
  · rcases Nat.lt_or_ge i b.subs.length with hi | hi
    · rw [List.getElem?_append_left hi] at e1
      rw [List.getElem?_append_left (by rw [h.len]; exact hi)] at e2
      exact hgne (h.sb i s x e1 e2) (by decide)
    · rw [List.getElem?_append_right hi] at e1
      rw [List.getElem?_append_right (by rw [h.len]; exact hi), h.len] at e2
      cases hk : i - b.subs.length with
      | succ k => rw [hk] at e1; simp at e1
      | zero =>
        rw [hk] at e1 e2
        simp at e1 e2
        subst e1 e2
        have hn := Blk.new W [.int .i64 b.next, .int .i64 1, .int .i64 frm, .int .i64 frm] 73
        have h0 : Blk W2 W.heap.size 73 [.int .i64 b.next, .int .i64 1, .int .i64 frm, .int .i64 frm] := (hg.block _ hn.lt (fun e => by have e' := Option.some.inj e; have := h.ms.lt; omega)).trans hn
        exact h0.far (p := ⟨g, 3, none⟩) (fun e => by have e' : W.heap.size = g := e; have := h.blk.lt; omega) _
  · refine List.nodup_append.2 ⟨h.nd, by simp, fun a ha c hc e => ?_⟩
    simp at hc; subst hc; subst e
    obtain ⟨i, hi, hx⟩ := List.getElem_of_mem ha
    have := (h.sb i (b.subs[i]'(by rw [← h.len]; exact hi)) (bl[i]) (List.getElem?_eq_getElem _) (List.getElem?_eq_getElem hi)).lt
    omega
  · show ((b.subs ++ [Sb.mk b.next frm frm]).map Sb.id).Pairwise (· < ·)
    rw [List.map_append]
    refine List.pairwise_append.2 ⟨h.ids, List.pairwise_singleton _ _, fun a ha c hc => ?_⟩
    obtain ⟨s, hs1, rfl⟩ := List.mem_map.1 ha
    simp at hc; subst hc
    exact (h.next s hs1).2
  · intro s hs1
    show 1 ≤ s.id ∧ s.id < b.next + 1
    have := h.num
    rcases List.mem_append.1 hs1 with hs1 | hs1
    · have := h.next s hs1; omega
    · simp at hs1; subst hs1; simp; omega
  · refine ⟨h.low.1, h.low.2.1, h.low.2.2.1, h.low.2.2.2.1, fun x hx => ?_⟩
    rcases List.mem_append.1 hx with hx | hx
    · exact h.low.2.2.2.2 x hx
    · simp at hx; subst hx; exact hbs
  · have := h.num
    exact ⟨this.1, ⟨by show 1 ≤ b.next + 1; omega, hnx⟩, this.2.2.1, this.2.2.2.1, hns, this.2.2.2.2.2⟩
  · intro s hs1
    rcases List.mem_append.1 hs1 with hs1 | hs1
    · exact h.subsN s hs1
    · simp at hs1; subst hs1; exact ⟨hf, hf⟩
set_option maxRecDepth 100000 in
set_option maxHeartbeats 4000000 in
theorem bJoin {frm : Int} (h : BrdM base W g hq hs nq ns q b kv bl) (hf : 0 ≤ frm ∧ frm ≤ 1099511627776) (hbs : base ≤ W.heap.size) (hnx : b.next + 1 ≤ 100000) (hns : ns + 1 ≤ 100000) :
    Calls Tryz.prog 36 #[.pointer (some ⟨g, 0, none⟩), .int .i64 1, .int .i64 frm] W fun e w' => e = .returned (.tuple #[.int .i64 (joinB b frm).2.1, .int .i64 (joinB b frm).2.2]) ∧ ∃ ns' bl', ns' ≤ ns + 1 ∧ BrdM base w' g hq hs nq ns' q (joinB b frm).1 kv bl' ∧ OffM (BTyM base W) W w' := by
  have H := Lib.hid h; have Hf := Lib.hid hf
  have hg := h.blk.lt
  have c2 : W.cell? ⟨g, 2, none⟩ = some (.map (some hs)) := h.blk.cell 2 _ rfl
  have c3 : W.cell? ⟨g, 3, none⟩ = some (.int .i64 b.next) := h.blk.cell 3 _ rfl
  have f3 := h.blk.free 3
  have hlen : ∀ ty, (Builtin.len_ #[53] ty #[.map (some hs)]).run Tryz.prog W = .ok (.int .i64 b.subs.length) W := fun ty => by
    have := h.ms.lenS ty
    rw [List.length_zip, List.length_map, h.len, Nat.min_self] at this
    exact this
  have hfew := h.few
  obtain ⟨jr, hjr⟩ : ∃ r, joinB b frm = r := ⟨_, rfl⟩
  rw [hjr]
  unfold joinB at hjr
  have HJ := Lib.hid hjr
  have hnum := h.num.2.1
  by_cases hl : 256 ≤ b.subs.length
  · rw [if_pos hl] at HJ
    have hli : (256 : Int) ≤ (b.subs.length : Int) := by omega
    clear h hf hjr
    go_enter Tryz.func36, Tryz.ntmps36; (try simp only [List.append_eq, List.cons_append, List.nil_append])
    go_wp2
    go_ret2
    have hj := HJ.out
    subst hj
    exact ⟨rfl, ns, bl, by omega, H.out, OffM.refl _ _⟩
  · rw [if_neg hl] at HJ
    have hli : ¬ (256 : Int) ≤ (b.subs.length : Int) := by omega
    have hb := (Below.refl W.heap.size W).alloc (Nat.le_refl _) (.cells #[.int .i64 b.next, .int .i64 1, .int .i64 frm, .int .i64 frm] 73)
    obtain ⟨W2, hrun, hM, hgr⟩ := (h.ms.keep (hb.block _ h.ms.lt)).insS (n := b.next) (by have := h.num; omega) ⟨by omega, by omega⟩ (fun x hx => by
      obtain ⟨i, hi, rfl⟩ := List.getElem_of_mem hx
      rw [List.getElem_zip]
      simp only [List.getElem_map]
      exact (h.next _ (List.getElem_mem _)).2) W.heap.size
    have HM := Lib.hid hM; have HG := Lib.hid hgr
    have hg2 : W2.cell? ⟨g, 3, none⟩ = some (.int .i64 b.next) := (h.blk.grown hb hgr (h.ms.ne h.blk)).cell 3 _ rfl
    have hf2 := (h.blk.grown hb hgr (h.ms.ne h.blk)).free 3
    have hl2 := (h.blk.grown hb hgr (h.ms.ne h.blk)).lt
    clear h hf hjr hM hgr hb
    go_enter Tryz.func36, Tryz.ntmps36; (try simp only [List.append_eq, List.cons_append, List.nil_append])
    go_wp2
    go_ret2
    have hj := HJ.out
    subst hj
    refine ⟨rfl, ns + 1, Nat.le_refl _, ⟨_, H.out.more Hf.out hbs hnx hns HM.out HG.out⟩, ?_⟩
    refine (offB_map H.out.ms H.out.low.2.2.1 HG.out).trans (OffM.cell1 _ _ _ _) (fun k hk e => ?_)
    subst e
    exact BTyM.blk H.out.blk (.inl rfl) H.out.low.1
end
end Go.Proofs.YtfmolimnnheaoaaGreat

/- (*Board).Subscribe, Resume, sub. -/
namespace Go.Proofs.YtfmolimnnheaoaaGreat
open Go.RowKit
set_option linter.unusedSimpArgs false
set_option linter.unusedVariables false
open Go.Maps

section
variable {base : Nat} {W W' : World} {g hq hs nq ns xq : Nat} {q : Option Nat} {b b' : Bd} {kv kv' : Value} {bl : List Nat}
set_option maxRecDepth 100000 in
set_option maxHeartbeats 4000000 in
theorem bSubscribe0 (n : Int) (W : World) : Calls Tryz.prog 13 #[.pointer none, .int .i64 n] W fun e w' => e = .returned (.tuple #[.int .i64 0, .int .i64 1]) ∧ w' = W := by
  go_enter Tryz.func13, Tryz.ntmps13; (try simp only [List.append_eq, List.cons_append, List.nil_append])
  go_wp2_with fail
  refine (bMade0 _).mono ?_
  rintro e w2 ⟨rfl, rfl⟩
  go_wp2
  go_ret2
  exact ⟨rfl, rfl⟩
theorem bResume0 (n t : Int) (W : World) : Calls Tryz.prog 15 #[.pointer none, .int .i64 n, .int .i64 t] W fun e w' => e = .returned (.tuple #[.int .i64 0, .int .i64 1]) ∧ w' = W := by
  go_enter Tryz.func15, Tryz.ntmps15; (try simp only [List.append_eq, List.cons_append, List.nil_append])
  go_wp2_with fail
  refine (bMade0 _).mono ?_
  rintro e w2 ⟨rfl, rfl⟩
  go_wp2
  go_ret2
  exact ⟨rfl, rfl⟩
set_option maxRecDepth 100000 in
set_option maxHeartbeats 4000000 in
theorem bSubscribe (h : BrdM base W g hq hs nq ns (some xq) b kv bl) (hbs : base ≤ W.heap.size) (hnx : b.next + 1 ≤ 100000) (hns : ns + 1 ≤ 100000) :
    Calls Tryz.prog 13 #[.pointer (some ⟨g, 0, none⟩), .int .i64 1] W fun e w' => e = .returned (.tuple #[.int .i64 (joinB b b.last).2.1, .int .i64 (joinB b b.last).2.2]) ∧ ∃ ns' bl', ns' ≤ ns + 1 ∧ BrdM base w' g hq hs nq ns' (some xq) (joinB b b.last).1 kv bl' ∧ OffM (BTyM base W) W w' := by
  have H := Lib.hid h
  have hg := h.blk.lt
  have hxq := (h.qb xq rfl).1
  have hxl := hxq.lt
  have c1 : W.cell? ⟨g, 1, none⟩ = some (.map (some hq)) := h.blk.cell 1 _ rfl
  have d1 : W.cell? ⟨xq, 1, none⟩ = some (.int .i64 b.last) := hxq.cell 1 _ rfl
  have hlook := h.lookQ
  clear h hxq
  have HC := Lib.hid (bJoin H.out H.out.num.2.2.1 hbs hnx hns)
  obtain ⟨jr, hjr⟩ : ∃ r, joinB b b.last = r := ⟨_, rfl⟩
  rw [hjr] at HC ⊢
  clear hjr
  go_enter Tryz.func13, Tryz.ntmps13; (try simp only [List.append_eq, List.cons_append, List.nil_append])
  go_wp2_with fail
  refine (bMade H.out.blk).mono ?_
  rintro e w2 ⟨rfl, rfl⟩
  go_wp2_with fail
  refine HC.out.mono ?_
  rintro e w3 ⟨rfl, ns', bl', h1, h2, h3⟩
  have H2 := Lib.hid h2; have H3 := Lib.hid h3
  clear h2 h3
  go_wp2
  go_ret2
  exact ⟨rfl, ns', bl', h1, H2.out, H3.out⟩
set_option maxRecDepth 100000 in
set_option maxHeartbeats 4000000 in
theorem bResume {t : Int} (h : BrdM base W g hq hs nq ns (some xq) b kv bl) (hbs : base ≤ W.heap.size) (hnx : b.next + 1 ≤ 100000) (hns : ns + 1 ≤ 100000) :
    Calls Tryz.prog 15 #[.pointer (some ⟨g, 0, none⟩), .int .i64 1, .int .i64 t] W fun e w' => e = .returned (.tuple #[.int .i64 (resumeB b t).2.1, .int .i64 (resumeB b t).2.2]) ∧ ∃ ns' bl', ns' ≤ ns + 1 ∧ BrdM base w' g hq hs nq ns' (some xq) (resumeB b t).1 kv bl' ∧ OffM (BTyM base W) W w' := by
  have H := Lib.hid h
  have hg := h.blk.lt
  have hxq := (h.qb xq rfl).1
  have hxl := hxq.lt
  have c1 : W.cell? ⟨g, 1, none⟩ = some (.map (some hq)) := h.blk.cell 1 _ rfl
  have d1 : W.cell? ⟨xq, 2, none⟩ = some (.int .i64 b.floor) := hxq.cell 2 _ rfl
  have hlook := h.lookQ
  clear h hxq
  obtain ⟨rr, hrr⟩ : ∃ r, resumeB b t = r := ⟨_, rfl⟩
  rw [hrr]
  unfold resumeB maxTimeB at hrr
  have HR := Lib.hid hrr
  clear hrr
  by_cases ht : 0 ≤ t ∧ t ≤ 1099511627776
  · have HC := Lib.hid (bJoin H.out ht hbs hnx hns)
    have hdt := decide_eq_true ht
    have Ht := Lib.hid ht
    by_cases hf : t < b.floor
    · have HR := Lib.hid ((if_pos hf).symm.trans ((if_neg (show ¬ (t < 0 ∨ 1099511627776 < t) by omega)).symm.trans HR.out))
      clear HC ht
      go_enter Tryz.func15, Tryz.ntmps15; (try simp only [List.append_eq, List.cons_append, List.nil_append])
      go_wp2_with fail
      refine (bMade H.out.blk).mono ?_
      rintro e w2 ⟨rfl, rfl⟩
      go_wp2_with fail
      refine (bTime t _).mono ?_
      rintro e w2 ⟨rfl, rfl⟩
      rw [hdt]
      go_wp2
      go_ret2
      have hr := HR.out
      subst hr
      exact ⟨rfl, ns, bl, by omega, H.out, OffM.refl _ _⟩
    · have HR := Lib.hid ((if_neg hf).symm.trans ((if_neg (show ¬ (t < 0 ∨ 1099511627776 < t) by omega)).symm.trans HR.out))
      obtain ⟨jr, hjr⟩ : ∃ r, joinB b t = r := ⟨_, rfl⟩
      rw [hjr] at HC HR
      clear hjr ht
      go_enter Tryz.func15, Tryz.ntmps15; (try simp only [List.append_eq, List.cons_append, List.nil_append])
      go_wp2_with fail
      refine (bMade H.out.blk).mono ?_
      rintro e w2 ⟨rfl, rfl⟩
      go_wp2_with fail
      refine (bTime t _).mono ?_
      rintro e w2 ⟨rfl, rfl⟩
      rw [hdt]
      go_wp2_with fail
      refine HC.out.mono ?_
      rintro e w3 ⟨rfl, ns', bl', h1, h2, h3⟩
      have H2 := Lib.hid h2; have H3 := Lib.hid h3
      clear h2 h3
      go_wp2
      go_ret2
      have hr := HR.out
      subst hr
      exact ⟨rfl, ns', bl', h1, H2.out, H3.out⟩
  · have HR := Lib.hid ((if_pos (show t < 0 ∨ 1099511627776 < t by omega)).symm.trans HR.out)
    have hdt := decide_eq_false ht
    clear ht
    go_enter Tryz.func15, Tryz.ntmps15; (try simp only [List.append_eq, List.cons_append, List.nil_append])
    go_wp2_with fail
    refine (bMade H.out.blk).mono ?_
    rintro e w2 ⟨rfl, rfl⟩
    go_wp2_with fail
    refine (bTime t _).mono ?_
    rintro e w2 ⟨rfl, rfl⟩
    rw [hdt]
    go_wp2
    go_ret2
    have hr := HR.out
    subst hr
    exact ⟨rfl, ns, bl, by omega, H.out, OffM.refl _ _⟩
/-! ### sub -/
theorem look_none {n : Int} (h : findB b n = none) : lookE ((b.subs.map Sb.id).zip bl) n = none := by
  unfold lookE
  rw [List.find?_eq_none.2]
  · rfl
  · intro x hx
    obtain ⟨i, hi, rfl⟩ := List.getElem_of_mem hx
    rw [List.getElem_zip]
    simp only [List.getElem_map]
    unfold findB at h
    exact List.find?_eq_none.1 h _ (List.getElem_mem _)
theorem find_at {n : Int} {s : Sb} (h : BrdM base W g hq hs nq ns q b kv bl) (hf : findB b n = some s) : s.id = n ∧ ∃ (k : Nat) (x : Nat), b.subs[k]? = some s ∧ bl[k]? = some x := by
  unfold findB at hf
  have h1 := List.find?_some hf
  obtain ⟨k, hk, hs⟩ := List.getElem_of_mem (List.mem_of_find?_eq_some hf)
  exact ⟨by simpa using h1, k, bl[k]'(by rw [h.len]; exact hk), by rw [List.getElem?_eq_getElem hk, hs], List.getElem?_eq_getElem _⟩
theorem bSub0 (n : Int) (W : World) : Calls Tryz.prog 38 #[.pointer none, .int .i64 n] W fun e w' => e = .returned (.tuple #[.pointer none, .int .i64 1]) ∧ w' = W := by
  go_enter Tryz.func38, Tryz.ntmps38; (try simp only [List.append_eq, List.cons_append, List.nil_append])
  go_wp2_with fail
  refine (bMade0 _).mono ?_
  rintro e w2 ⟨rfl, rfl⟩
  go_wp2
  go_ret2
  exact ⟨rfl, rfl⟩
set_option maxRecDepth 100000 in
theorem bSubNone {n : Int} (h : BrdM base W g hq hs nq ns q b kv bl) (hn : i64 n) (hf : findB b n = none) :
    Calls Tryz.prog 38 #[.pointer (some ⟨g, 0, none⟩), .int .i64 n] W fun e w' => e = .returned (.tuple #[.pointer none, .int .i64 6]) ∧ w' = W := by
  have hlook : (Instr.lookup 53 (.map (some hs)) (.int .i64 n) false).run Tryz.prog W = .ok (.pointer none) W := by
    have := h.ms.lookS hn
    rw [look_none hf] at this
    exact this
  have H := Lib.hid h
  have hg := h.blk.lt
  have c2 : W.cell? ⟨g, 2, none⟩ = some (.map (some hs)) := h.blk.cell 2 _ rfl
  clear h
  go_enter Tryz.func38, Tryz.ntmps38; (try simp only [List.append_eq, List.cons_append, List.nil_append])
  go_wp2_with fail
  refine (bMade H.out.blk).mono ?_
  rintro e w2 ⟨rfl, rfl⟩
  go_wp2
  go_ret2
  exact ⟨rfl, rfl⟩
set_option maxRecDepth 100000 in
theorem bSub {k x : Nat} {s : Sb} (h : BrdM base W g hq hs nq ns q b kv bl) (h1 : b.subs[k]? = some s) (h2 : bl[k]? = some x) :
    Calls Tryz.prog 38 #[.pointer (some ⟨g, 0, none⟩), .int .i64 s.id] W fun e w' => e = .returned (.tuple #[.pointer (some ⟨x, 0, none⟩), .int .i64 0]) ∧ w' = W := by
  have hlook := h.lookS h1 h2
  have H := Lib.hid h
  have hg := h.blk.lt
  have c2 : W.cell? ⟨g, 2, none⟩ = some (.map (some hs)) := h.blk.cell 2 _ rfl
  clear h
  go_enter Tryz.func38, Tryz.ntmps38; (try simp only [List.append_eq, List.cons_append, List.nil_append])
  go_wp2_with fail
  refine (bMade H.out.blk).mono ?_
  rintro e w2 ⟨rfl, rfl⟩
  go_wp2
  go_ret2
  exact ⟨rfl, rfl⟩
end
end Go.Proofs.YtfmolimnnheaoaaGreat

/- (*Board).Back, Ack, Unsubscribe. -/
namespace Go.Proofs.YtfmolimnnheaoaaGreat
open Go.RowKit
set_option linter.unusedSimpArgs false
set_option linter.unusedVariables false
open Go.Maps

theorem bBack0 (n : Int) (W : World) : Calls Tryz.prog 21 #[.pointer none, .int .i64 n] W fun e w' => e = .returned (.int .i64 1) ∧ w' = W := by
  go_enter Tryz.func21, Tryz.ntmps21; (try simp only [List.append_eq, List.cons_append, List.nil_append])
  go_wp2_with fail
  refine (bSub0 _ _).mono ?_
  rintro e w2 ⟨rfl, rfl⟩
  go_wp2
  go_ret
  exact ⟨rfl, rfl⟩
set_option maxRecDepth 100000 in
theorem bAck0 (n t : Int) (W : World) : Calls Tryz.prog 23 #[.pointer none, .int .i64 n, .int .i64 t] W fun e w' => e = .returned (.int .i64 1) ∧ w' = W := by
  go_enter Tryz.func23, Tryz.ntmps23; (try simp only [List.append_eq, List.cons_append, List.nil_append])
  go_wp2_with fail
  refine (bSub0 _ _).mono ?_
  rintro e w2 ⟨rfl, rfl⟩
  go_wp2
  go_ret
  exact ⟨rfl, rfl⟩
set_option maxRecDepth 100000 in
theorem bUnsub0 (n : Int) (W : World) : Calls Tryz.prog 17 #[.pointer none, .int .i64 n] W fun e w' => e = .returned (.int .i64 1) ∧ w' = W := by
  go_enter Tryz.func17, Tryz.ntmps17; (try simp only [List.append_eq, List.cons_append, List.nil_append])
  go_wp2_with fail
  refine (bSub0 _ _).mono ?_
  rintro e w2 ⟨rfl, rfl⟩
  go_wp2
  go_ret
  exact ⟨rfl, rfl⟩
section
variable {base : Nat} {W W' : World} {g hq hs nq ns xq : Nat} {q : Option Nat} {b b' : Bd} {kv kv' : Value} {bl : List Nat}
theorem turn_get {n : Int} {f : Sb → Sb} {l : List Sb} {i : Nat} {s : Sb} (h : (turnS n f l)[i]? = some s) : ∃ s0, l[i]? = some s0 ∧ s = if s0.id = n then f s0 else s0 := by
  unfold turnS at h
  rw [List.getElem?_map] at h
  cases h0 : l[i]? with
  | none => rw [h0] at h; cases h
  | some s0 => rw [h0] at h; exact ⟨s0, rfl, (Option.some.inj h).symm⟩
/-- One subscriber's block turns. -/
theorem BrdM.turnS {k x : Nat} {s : Sb} {f : Sb → Sb} (h : BrdM base W g hq hs nq ns q b kv bl) (h1 : b.subs[k]? = some s) (h2 : bl[k]? = some x) (hid : ∀ s, (f s).id = s.id) (hf : (0 ≤ (f s).cursor ∧ (f s).cursor ≤ 1099511627776) ∧ (0 ≤ (f s).acked ∧ (f s).acked ≤ 1099511627776))
    (ho : OffM (fun k => k = x) W W') (hb : Blk W' x 73 (subC (f s))) : BrdM base W' g hq hs nq ns q { b with subs := turnS s.id f b.subs } kv bl := by
  have hsx := h.sb k s x h1 h2
  have hmap : (Go.Proofs.YtfmolimnnheaoaaGreat.turnS s.id f b.subs).map Sb.id = b.subs.map Sb.id := by
    unfold Go.Proofs.YtfmolimnnheaoaaGreat.turnS
    rw [List.map_map]
    refine List.map_congr_left fun s' _ => ?_
    show (if s'.id = s.id then f s' else s').id = s'.id
    split
    · exact hid s'
    · rfl
  have uniq : ∀ i s', b.subs[i]? = some s' → s'.id = s.id → i = k := fun i s' hi he => by
    have hp := h.ids
    have e1 : (b.subs.map Sb.id)[i]? = some s.id := by rw [List.getElem?_map, hi]; simp [he]
    have e2 : (b.subs.map Sb.id)[k]? = some s.id := by rw [List.getElem?_map, h1]; rfl
    rcases Nat.lt_trichotomy i k with h9 | h9 | h9
    · have := List.pairwise_iff_getElem.1 hp i k (List.getElem?_eq_some_iff.1 e1).1 (List.getElem?_eq_some_iff.1 e2).1 h9
      rw [(List.getElem?_eq_some_iff.1 e1).2, (List.getElem?_eq_some_iff.1 e2).2] at this
      omega
    · exact h9
    · have := List.pairwise_iff_getElem.1 hp k i (List.getElem?_eq_some_iff.1 e2).1 (List.getElem?_eq_some_iff.1 e1).1 h9
      rw [(List.getElem?_eq_some_iff.1 e1).2, (List.getElem?_eq_some_iff.1 e2).2] at this
      omega
  have mem : ∀ s' ∈ Go.Proofs.YtfmolimnnheaoaaGreat.turnS s.id f b.subs, ∃ s0 ∈ b.subs, s' = if s0.id = s.id then f s0 else s0 := fun s' hs' => by
    obtain ⟨i, hi, he⟩ := List.getElem_of_mem hs'
    obtain ⟨s0, hs0, e⟩ := turn_get (by rw [List.getElem?_eq_getElem hi, he])
    exact ⟨s0, List.mem_of_getElem? hs0, e⟩
  refine ⟨(ho.block _ h.blk.lt (h.blk.ne_ty hsx (by decide))).trans h.blk, h.mq.keep (ho.block _ h.mq.lt (fun e => h.mq.ne hsx e.symm)), ?_, ?_, fun y hy => ⟨(ho.block _ (h.qb y hy).1.lt ((h.qb y hy).1.ne_ty hsx (by decide))).trans (h.qb y hy).1, (h.qb y hy).2⟩, ownsRow_offM h.kept ho (fun g1 hg1 e => hsx.not_own h.kept (by decide) (by rw [hg1, e])), fun i s' y e1 e2 => ?_, h.nd, ?_, fun s' hs' => ?_, h.low, h.num, fun s' hs' => ?_, h.keptN⟩
  · show MapB W' hs ns (((Go.Proofs.YtfmolimnnheaoaaGreat.turnS s.id f b.subs).map Sb.id).zip bl)
    rw [hmap]
    exact h.ms.keep (ho.block _ h.ms.lt (fun e => h.ms.ne hsx e.symm))
  · show bl.length = (Go.Proofs.YtfmolimnnheaoaaGreat.turnS s.id f b.subs).length
    unfold Go.Proofs.YtfmolimnnheaoaaGreat.turnS
    rw [List.length_map]; exact h.len
  · obtain ⟨s0, hs0, rfl⟩ := turn_get e1
    by_cases hi : i = k
    · subst hi
      rw [h1] at hs0; cases hs0
      rw [h2] at e2; cases e2
      rw [if_pos rfl]; exact hb
    · rw [if_neg (fun he => hi (uniq i s0 hs0 he))]
      have hby := h.sb i s0 y hs0 e2
      refine (ho.block _ hby.lt (fun e => ?_)).trans hby
      have e : y = x := e
      subst e
      have hnd := h.nd
      obtain ⟨hi1, hi2⟩ := List.getElem?_eq_some_iff.1 e2
      obtain ⟨hk1, hk2⟩ := List.getElem?_eq_some_iff.1 h2
      rcases Nat.lt_trichotomy i k with h9 | h9 | h9
      · exact List.pairwise_iff_getElem.1 hnd i k hi1 hk1 h9 (hi2.trans hk2.symm)
      · exact hi h9
      · exact List.pairwise_iff_getElem.1 hnd k i hk1 hi1 h9 (hk2.trans hi2.symm)
  · show ((Go.Proofs.YtfmolimnnheaoaaGreat.turnS s.id f b.subs).map Sb.id).Pairwise (· < ·)
    rw [hmap]; exact h.ids
  · obtain ⟨s0, hs0, rfl⟩ := mem s' hs'
    have := h.next s0 hs0
    split
    · rw [hid]; exact this
    · exact this
  · obtain ⟨s0, hs0, rfl⟩ := mem s' hs'
    by_cases he : s0.id = s.id
    · rw [if_pos he]
      obtain ⟨i, hi, he2⟩ := List.getElem_of_mem hs0
      have hik := uniq i s0 (by rw [List.getElem?_eq_getElem hi, he2]) he
      subst hik
      rw [List.getElem?_eq_getElem hi, he2] at h1
      cases h1
      exact hf
    · rw [if_neg he]; exact h.subsN s0 hs0
set_option maxRecDepth 100000 in
set_option maxHeartbeats 4000000 in
theorem bBack {n : Int} (h : BrdM base W g hq hs nq ns q b kv bl) (hn : i64 n) :
    Calls Tryz.prog 21 #[.pointer (some ⟨g, 0, none⟩), .int .i64 n] W fun e w' => e = .returned (.int .i64 (backB b n).2) ∧ BrdM base w' g hq hs nq ns q (backB b n).1 kv bl ∧ OffM (BTyM base W) W w' := by
  have H := Lib.hid h
  obtain ⟨rr, hrr⟩ : ∃ r, backB b n = r := ⟨_, rfl⟩
  rw [hrr]
  unfold backB at hrr
  cases hf : findB b n with
  | none =>
    rw [hf] at hrr
    have HR := Lib.hid hrr
    have HF := Lib.hid hf
    have Hn := Lib.hid hn
    clear hrr hf h
    go_enter Tryz.func21, Tryz.ntmps21; (try simp only [List.append_eq, List.cons_append, List.nil_append])
    go_wp2_with fail
    refine (bSubNone H.out Hn.out HF.out).mono ?_
    rintro e w2 ⟨rfl, rfl⟩
    go_wp2
    go_ret
    have hr := HR.out
    subst hr
    exact ⟨rfl, H.out, OffM.refl _ _⟩
  | some s =>
    rw [hf] at hrr
    have HR := Lib.hid hrr
    obtain ⟨hid, k, x, h1, h2⟩ := find_at h hf
    subst hid
    have hsb := h.sb k s x h1 h2
    have hx := hsb.lt
    have k2 : W.cell? ⟨x, 2, none⟩ = some (.int .i64 s.cursor) := hsb.cell 2 _ rfl
    have k3 : W.cell? ⟨x, 3, none⟩ = some (.int .i64 s.acked) := hsb.cell 3 _ rfl
    have f2 := hsb.free 2
    have HS := Lib.hid hsb
    have HN := Lib.hid (h.subsN s (List.mem_of_getElem? h1))
    have HC := Lib.hid (bSub h h1 h2)
    have HX := Lib.hid (h.low.2.2.2.2 x (List.mem_of_getElem? h2))
    have HT := Lib.hid (h.turnS (W' := W.setCell ⟨x, 2, none⟩ (.int .i64 s.acked)) (f := fun s => { s with cursor := s.acked }) h1 h2 (fun _ => rfl) ⟨HN.out.2, HN.out.2⟩ (OffM.cell1 _ _ _ _) (hsb.set_ 2 (.int .i64 s.acked)))
    clear hrr hf h hsb h1 h2
    go_enter Tryz.func21, Tryz.ntmps21; (try simp only [List.append_eq, List.cons_append, List.nil_append])
    go_wp2_with fail
    refine HC.out.mono ?_
    rintro e w2 ⟨rfl, rfl⟩
    go_wp2
    go_ret
    have hr := HR.out
    subst hr
    exact ⟨rfl, HT.out, (OffM.cell1 _ _ _ _).more (fun k hk e => by subst e; exact BTyM.blk HS.out (.inr (.inr (.inl rfl))) HX.out)⟩
theorem turn_rise {n : Int} {f : Sb → Sb} {b : Bd} (hr : Rise b.kept) : Rise ({ b with subs := turnS n f b.subs } : Bd).kept := hr
set_option maxRecDepth 100000 in
set_option maxHeartbeats 4000000 in
theorem bAck {n t : Int} (h : BrdM base W g hq hs nq ns (some xq) b kv bl) (hn : i64 n) (hr : Rise b.kept) (hbs : base ≤ W.heap.size) :
    Calls Tryz.prog 23 #[.pointer (some ⟨g, 0, none⟩), .int .i64 n, .int .i64 t] W fun e w' => ∃ kv', e = .returned (.int .i64 (ackB b n t).2) ∧ BrdM base w' g hq hs nq ns (some xq) (ackB b n t).1 kv' bl ∧ OffM (BTyM base W) W w' := by
  have H := Lib.hid h
  have Hr := Lib.hid hr
  obtain ⟨rr, hrr⟩ : ∃ r, ackB b n t = r := ⟨_, rfl⟩
  rw [hrr]
  unfold ackB at hrr
  cases hf : findB b n with
  | none =>
    rw [hf] at hrr
    have HR := Lib.hid hrr
    have HF := Lib.hid hf
    have Hn := Lib.hid hn
    clear hrr hf h hr
    go_enter Tryz.func23, Tryz.ntmps23; (try simp only [List.append_eq, List.cons_append, List.nil_append])
    go_wp2_with fail
    refine (bSubNone H.out Hn.out HF.out).mono ?_
    rintro e w2 ⟨rfl, rfl⟩
    go_wp2
    go_ret
    have hr := HR.out
    subst hr
    exact ⟨kv, rfl, H.out, OffM.refl _ _⟩
  | some s =>
    rw [hf] at hrr
    have HR := Lib.hid hrr
    obtain ⟨hid, k, x, h1, h2⟩ := find_at h hf
    subst hid
    have hsb := h.sb k s x h1 h2
    have hx := hsb.lt
    have k1 : W.cell? ⟨x, 1, none⟩ = some (.int .i64 1) := hsb.cell 1 _ rfl
    have k2 : W.cell? ⟨x, 2, none⟩ = some (.int .i64 s.cursor) := hsb.cell 2 _ rfl
    have k3 : W.cell? ⟨x, 3, none⟩ = some (.int .i64 s.acked) := hsb.cell 3 _ rfl
    have f3 := hsb.free 3
    have HS := Lib.hid hsb
    have HN := Lib.hid (h.subsN s (List.mem_of_getElem? h1))
    have HC := Lib.hid (bSub h h1 h2)
    have HX := Lib.hid (h.low.2.2.2.2 x (List.mem_of_getElem? h2))
    have H1 := Lib.hid h1; have H2 := Lib.hid h2
    clear hrr hf h hsb h1 h2 hr
    by_cases c1 : s.cursor < t
    · have HR := Lib.hid ((if_pos c1).symm.trans HR.out)
      go_enter Tryz.func23, Tryz.ntmps23; (try simp only [List.append_eq, List.cons_append, List.nil_append])
      go_wp2_with fail
      refine HC.out.mono ?_
      rintro e w2 ⟨rfl, rfl⟩
      go_wp2
      go_ret
      have hr := HR.out
      subst hr
      exact ⟨kv, rfl, H.out, OffM.refl _ _⟩
    have HR := Lib.hid ((if_neg c1).symm.trans HR.out)
    by_cases c2 : t < s.acked
    · have HR := Lib.hid ((if_pos c2).symm.trans HR.out)
      go_enter Tryz.func23, Tryz.ntmps23; (try simp only [List.append_eq, List.cons_append, List.nil_append])
      go_wp2_with fail
      refine HC.out.mono ?_
      rintro e w2 ⟨rfl, rfl⟩
      go_wp2
      go_ret
      have hr := HR.out
      subst hr
      exact ⟨kv, rfl, H.out, OffM.refl _ _⟩
    have HR := Lib.hid ((if_neg c2).symm.trans HR.out)
    have HT := Lib.hid (H.out.turnS (W' := W.setCell ⟨x, 3, none⟩ (.int .i64 t)) (f := fun s => { s with acked := t }) H1.out H2.out (fun _ => rfl) ⟨HN.out.1, by have := HN.out; show 0 ≤ t ∧ t ≤ _; omega⟩ (OffM.cell1 _ _ _ _) (HS.out.set_ 3 (.int .i64 t)))
    have HO := Lib.hid ((OffM.cell1 W x 3 (.int .i64 t)).more (N := BTyM base W) (fun k hk e => by subst e; exact BTyM.blk HS.out (.inr (.inr (.inl rfl))) HX.out))
    go_enter Tryz.func23, Tryz.ntmps23; (try simp only [List.append_eq, List.cons_append, List.nil_append])
    go_wp2_with fail
    refine HC.out.mono ?_
    rintro e w2 ⟨rfl, rfl⟩
    go_wp2_with fail
    refine (bLetGo HT.out (turn_rise Hr.out) (Nat.le_trans hbs HO.out.size)).mono ?_
    rintro e w9 ⟨rfl, kv9, hB9, ho9⟩
    have HB9 := Lib.hid hB9; have Ho9 := Lib.hid ho9; clear hB9 ho9
    go_wp2
    go_ret
    have hr := HR.out
    subst hr
    exact ⟨kv9, rfl, HB9.out, OffB.trans HO.out Ho9.out⟩
end
end Go.Proofs.YtfmolimnnheaoaaGreat

/- (*Board).Unsubscribe. -/
namespace Go.Proofs.YtfmolimnnheaoaaGreat
open Go.RowKit
set_option linter.unusedSimpArgs false
set_option linter.unusedVariables false
open Go.Maps

section
variable {base : Nat} {W W' : World} {g hq hs nq ns xq : Nat} {q : Option Nat} {b b' : Bd} {kv kv' : Value} {bl : List Nat}
def gonePairs (b : Bd) (bl : List Nat) (n : Int) : List (Sb × Nat) := (b.subs.zip bl).filter fun p => p.1.id != n
/-- A subscriber is gone. -/
theorem BrdM.gone {n : Int} (h : BrdM base W g hq hs nq ns q b kv bl) (hM : MapB W' hs ns (((b.subs.map Sb.id).zip bl).filter fun x => x.1 != n)) (hg : W.grownBy W' (some hs)) :
    BrdM base W' g hq hs nq ns q { b with subs := b.subs.filter fun s => s.id != n } kv ((gonePairs b bl n).map Prod.snd) := by
  have hb := Below.refl W.heap.size W
  have e1 : (b.subs.filter fun s => s.id != n) = (gonePairs b bl n).map Prod.fst := by
    unfold gonePairs
    have := List.filter_map (p := fun s : Sb => s.id != n) (f := Prod.fst) (l := b.subs.zip bl)
    rw [List.map_fst_zip (by rw [h.len]; exact Nat.le_refl _)] at this
    rw [this]; rfl
  have sub2 : ((gonePairs b bl n).map Prod.snd).Sublist bl := by
    have h1 : ((gonePairs b bl n).map Prod.snd).Sublist ((b.subs.zip bl).map Prod.snd) := List.Sublist.map _ List.filter_sublist
    rwa [List.map_snd_zip (by rw [h.len]; exact Nat.le_refl _)] at h1
  have pair : ∀ (i : Nat) (s : Sb) (x : Nat), (b.subs.filter fun s => s.id != n)[i]? = some s → ((gonePairs b bl n).map Prod.snd)[i]? = some x → Blk W x 73 (subC s) := fun i s x h1 h2 => by
    rw [e1, List.getElem?_map] at h1
    rw [List.getElem?_map] at h2
    cases hp : (gonePairs b bl n)[i]? with
    | none => rw [hp] at h1; cases h1
    | some p =>
      rw [hp] at h1 h2
      cases h1; cases h2
      have hm := (List.mem_filter.1 (List.mem_of_getElem? hp)).1
      obtain ⟨j, hj, he⟩ := List.getElem_of_mem hm
      rw [List.getElem_zip] at he
      subst he
      exact h.sb j _ _ (List.getElem?_eq_getElem _) (List.getElem?_eq_getElem _)
  refine ⟨h.blk.grown hb hg (h.ms.ne h.blk), h.mq.grown hb hg h.low.2.2.2.1, ?_, by show _ = (b.subs.filter _).length; rw [e1, List.length_map, List.length_map], fun y hy => ⟨(h.qb y hy).1.grown hb hg (h.ms.ne (h.qb y hy).1), (h.qb y hy).2⟩, ?_, fun i s x h1 h2 => (pair i s x h1 h2).grown hb hg (h.ms.ne (pair i s x h1 h2)), h.nd.sublist sub2, ?_, fun s hs1 => h.next s (List.mem_filter.1 hs1).1, ⟨h.low.1, h.low.2.1, h.low.2.2.1, h.low.2.2.2.1, fun x hx => h.low.2.2.2.2 x (sub2.subset hx)⟩, h.num, fun s hs1 => h.subsN s (List.mem_filter.1 hs1).1, h.keptN⟩
  · show MapB W' hs ns (((b.subs.filter fun s => s.id != n).map Sb.id).zip ((gonePairs b bl n).map Prod.snd))
    have e2 : (((b.subs.filter fun s => s.id != n).map Sb.id).zip ((gonePairs b bl n).map Prod.snd)) = (((b.subs.map Sb.id).zip bl).filter fun x => x.1 != n) := by
      rw [e1, List.map_map, List.zip_map']
      rw [List.zip_map_left, List.filter_map]
      rfl
    rw [e2]; exact hM
  · refine ownsRow_offM (M := fun k => some hs = some k) h.kept (OffM.grown hg) (fun k hk e => ?_)
    have e' : hs = k := Option.some.inj e
    subst e'
    have hm := h.ms
    obtain ⟨es, clock, hm, -⟩ := hm
    rcases h.kept.2 with ⟨hv, _⟩ | ⟨g1, c1, u1, hv, _, hh, _⟩
    · rw [hv] at hk; cases hk
    · rw [hv] at hk
      simp [Value.ownBlock] at hk
      subst hk
      rw [hm] at hh; cases hh
  · show ((b.subs.filter fun s => s.id != n).map Sb.id).Pairwise (· < ·)
    exact h.ids.sublist (List.Sublist.map _ List.filter_sublist)
set_option maxRecDepth 100000 in
set_option maxHeartbeats 4000000 in
theorem bUnsub {n : Int} (h : BrdM base W g hq hs nq ns (some xq) b kv bl) (hn : i64 n) (hr : Rise b.kept) (hbs : base ≤ W.heap.size) :
    Calls Tryz.prog 17 #[.pointer (some ⟨g, 0, none⟩), .int .i64 n] W fun e w' => ∃ kv' bl', e = .returned (.int .i64 (unsubB b n).2) ∧ BrdM base w' g hq hs nq ns (some xq) (unsubB b n).1 kv' bl' ∧ OffM (BTyM base W) W w' := by
  have H := Lib.hid h
  have Hr := Lib.hid hr
  have Hn := Lib.hid hn
  obtain ⟨rr, hrr⟩ : ∃ r, unsubB b n = r := ⟨_, rfl⟩
  rw [hrr]
  unfold unsubB at hrr
  cases hf : findB b n with
  | none =>
    rw [hf] at hrr
    have HR := Lib.hid hrr
    have HF := Lib.hid hf
    clear hrr hf h hr
    go_enter Tryz.func17, Tryz.ntmps17; (try simp only [List.append_eq, List.cons_append, List.nil_append])
    go_wp2_with fail
    refine (bSubNone H.out Hn.out HF.out).mono ?_
    rintro e w2 ⟨rfl, rfl⟩
    go_wp2
    go_ret
    have hr := HR.out
    subst hr
    exact ⟨kv, bl, rfl, H.out, OffM.refl _ _⟩
  | some s =>
    rw [hf] at hrr
    have HR := Lib.hid hrr
    obtain ⟨hid, k, x, h1, h2⟩ := find_at h hf
    subst hid
    have hsb := h.sb k s x h1 h2
    have hg := h.blk.lt
    have c2 : W.cell? ⟨g, 2, none⟩ = some (.map (some hs)) := h.blk.cell 2 _ rfl
    obtain ⟨W2, hdel, hM, hgr⟩ := h.ms.dropS Hn.out 0
    have hx2 := (hsb.grown (Below.refl _ _) hgr (h.ms.ne hsb))
    have k1 : W2.cell? ⟨x, 1, none⟩ = some (.int .i64 1) := hx2.cell 1 _ rfl
    have hxl := hx2.lt
    have HC := Lib.hid (bSub h h1 h2)
    have HG := Lib.hid (h.gone hM hgr)
    have HO := Lib.hid ((OffM.grown hgr).more (N := BTyM base W) (fun k hk e => by cases e; exact BTyM.map h.ms h.low.2.2.1))
    clear hrr hf h hsb h1 h2 hr hM hgr hx2
    go_enter Tryz.func17, Tryz.ntmps17; (try simp only [List.append_eq, List.cons_append, List.nil_append])
    go_wp2_with fail
    refine HC.out.mono ?_
    rintro e w2 ⟨rfl, rfl⟩
    go_wp2_with fail
    have hrr : Rise ({ b with subs := b.subs.filter fun s' => s'.id != s.id } : Bd).kept := Hr.out
    refine (bLetGo HG.out hrr (Nat.le_trans hbs HO.out.size)).mono ?_
    rintro e w9 ⟨rfl, kv9, hB9, ho9⟩
    have HB9 := Lib.hid hB9; have Ho9 := Lib.hid ho9; clear hB9 ho9
    go_wp2
    go_ret
    have hr := HR.out
    subst hr
    exact ⟨kv9, _, rfl, HB9.out, OffB.trans HO.out Ho9.out⟩
end
end Go.Proofs.YtfmolimnnheaoaaGreat

/- (*Board).Poll. -/
namespace Go.Proofs.YtfmolimnnheaoaaGreat
open Go.RowKit
set_option linter.unusedSimpArgs false
set_option linter.unusedVariables false
open Go.Maps

theorem bPoll0 (n m : Int) (W : World) : Calls Tryz.prog 19 #[.pointer none, .int .i64 n, .int .i64 m] W fun e w' => e = .returned (.tuple #[.slice none 0 0, .int .i64 1]) ∧ w' = W := by
  go_enter Tryz.func19, Tryz.ntmps19; (try simp only [List.append_eq, List.cons_append, List.nil_append])
  go_wp2_with fail
  refine (bSub0 _ _).mono ?_
  rintro e w2 ⟨rfl, rfl⟩
  go_wp2
  go_ret2
  exact ⟨rfl, rfl⟩
/-- Another block turns: one of whole numbers alone. -/
theorem IsT.off {n x : Nat} {W W' : World} {v : Value} {l : List Int} {s : Sb} (h : IsT n W v l) (hx : Blk W x 73 (subC s)) (ho : OffM (fun k => k = x) W W') (hn : n ≤ W.heap.size) : IsT n W' v l := by
  obtain ⟨p, cap, hv, h1, h2, h3⟩ := h
  refine ⟨p, cap, hv, h1, h2, fun hne => ?_⟩
  obtain ⟨b, off, hp, hb, hc⟩ := h3 hne
  refine ⟨b, off, hp, hb, fun k r hr j y hy => ?_⟩
  have hbx : b ≠ x := by
    intro e
    subst e
    rw [List.getElem?_map] at hr
    cases hk : l[k]? with
    | none => rw [hk] at hr; cases hr
    | some t =>
      have h9 := hc k (toldC t) (by rw [List.getElem?_map, hk]; rfl) 1 _ rfl
      have hx' : W.heap[b]? = some (.cells (subC s).toArray 73 (0, 0)) := hx
      simp only [World.cell?, hx'] at h9
      have h8 : ∀ j : Nat, (subC s).toArray[j]? ≠ some (.slice none 0 0) := fun j => by
        match j with
        | 0 => simp [subC]
        | 1 => simp [subC]
        | 2 => simp [subC]
        | 3 => simp [subC]
        | j + 4 => simp [subC]
      exact h8 _ (by simpa using h9)
  have hcell := hc k r hr j y hy
  rw [← hcell]
  have hbk := ho.block b (by omega) hbx
  simp only [World.cell?, hbk]
theorem IsT.head {n : Nat} {w : World} {p : Option Addr} {len cap : Nat} {l : List Int} (h : IsT n w (.slice p len cap) l) {k : Nat} (hk : k ≤ l.length) : IsT n w (.slice p k cap) (l.take k) := by
  obtain ⟨p0, c0, hv, h1, h2, h3⟩ := h
  simp only [List.length_map, Value.slice.injEq] at hv
  obtain ⟨rfl, rfl, rfl⟩ := hv
  rw [List.length_map] at h1
  refine ⟨p, cap, by rw [List.length_map, List.length_take, Nat.min_eq_left hk], by rw [List.length_map, List.length_take]; omega, h2, fun hne => ?_⟩
  have hl : l ≠ [] := by intro e; subst e; simp at hne
  obtain ⟨b, off, hp, hb, hc⟩ := h3 (by simpa using hl)
  refine ⟨b, off, hp, hb, fun i r hr j y hy => hc i r ?_ j y hy⟩
  rw [List.map_take] at hr
  have hi := (List.getElem?_eq_some_iff.1 hr).1
  rw [List.length_take] at hi
  rwa [List.getElem?_take_of_lt (by omega)] at hr
theorem take_min (l : List Int) (j : Nat) : l.take (min l.length j) = l.take j := by
  rcases Nat.le_total j l.length with h | h
  · rw [Nat.min_eq_right h]
  · rw [Nat.min_eq_left h, List.take_length, List.take_of_length_le h]
section
variable {base : Nat} {W W' : World} {g hq hs nq ns xq : Nat} {q : Option Nat} {b b' : Bd} {kv kv' : Value} {bl : List Nat}
set_option maxRecDepth 100000 in
set_option maxHeartbeats 4000000 in
theorem bPoll {n m : Int} (h : BrdM base W g hq hs nq ns (some xq) b kv bl) (hn : i64 n) (hm : i64 m) (hr : Rise b.kept) (hbs : base ≤ W.heap.size) :
    Calls Tryz.prog 19 #[.pointer (some ⟨g, 0, none⟩), .int .i64 n, .int .i64 m] W fun e w' => ∃ v, e = .returned (.tuple #[v, .int .i64 (pollB b n m).2.2]) ∧ OwnT W.heap.size w' v (pollB b n m).2.1 ∧ BrdM base w' g hq hs nq ns (some xq) (pollB b n m).1 kv bl ∧ OffM (BTyM base W) W w' := by
  have H := Lib.hid h
  have Hr := Lib.hid hr
  have Hn := Lib.hid hn
  obtain ⟨rr, hrr⟩ : ∃ r, pollB b n m = r := ⟨_, rfl⟩
  rw [hrr]
  unfold pollB at hrr
  cases hf : findB b n with
  | none =>
    rw [hf] at hrr
    have HR := Lib.hid hrr
    have HF := Lib.hid hf
    clear hrr hf h hr
    go_enter Tryz.func19, Tryz.ntmps19; (try simp only [List.append_eq, List.cons_append, List.nil_append])
    go_wp2_with fail
    refine (bSubNone H.out Hn.out HF.out).mono ?_
    rintro e w2 ⟨rfl, rfl⟩
    go_wp2
    go_ret2
    have hr := HR.out
    subst hr
    exact ⟨_, rfl, OwnT.nil, H.out, OffM.refl _ _⟩
  | some s =>
    rw [hf] at hrr
    have HR := Lib.hid hrr
    obtain ⟨hid, k, x, h1, h2⟩ := find_at h hf
    subst hid
    have HC := Lib.hid (bSub h h1 h2)
    have hsb := h.sb k s x h1 h2
    have hx := hsb.lt
    have hg := h.blk.lt
    have hxq := (h.qb xq rfl).1
    have hxl := hxq.lt
    have c1 : W.cell? ⟨g, 1, none⟩ = some (.map (some hq)) := h.blk.cell 1 _ rfl
    have d0 : W.cell? ⟨xq, 0, none⟩ = some kv := hxq.cell 0 _ rfl
    have k1 : W.cell? ⟨x, 1, none⟩ = some (.int .i64 1) := hsb.cell 1 _ rfl
    have k2 : W.cell? ⟨x, 2, none⟩ = some (.int .i64 s.cursor) := hsb.cell 2 _ rfl
    have hlookN : ∀ k, (Instr.lookup 52 (.map (some hq)) (.int .i64 1) false).run Tryz.prog (W.drewN k) = .ok (.pointer (some ⟨xq, 0, none⟩)) (W.drewN k) := fun k => (h.keep (below_drewN (Below.refl _ _) k)).lookQ
    have HS := Lib.hid hsb
    have H1 := Lib.hid h1; have H2 := Lib.hid h2
    clear hrr hf h hsb h1 h2 hr hxq
    go_enter Tryz.func19, Tryz.ntmps19; (try simp only [List.append_eq, List.cons_append, List.nil_append])
    go_wp2_with fail
    refine HC.out.mono ?_
    rintro e w2 ⟨rfl, rfl⟩
    go_wp2_with fail
    go_quiet (fail)
    go_wp2_with fail
    have hbq : Below w2.heap.size w2 (w2.drewN nq) := below_drewN (Below.refl _ _) _
    obtain ⟨W3, hW3⟩ : ∃ z, w2.drewN nq = z := ⟨_, rfl⟩
    rw [hW3] at hbq ⊢
    clear hW3 hlookN c1 d0 k1 k2 hx hg hxl
    have HT := Lib.hid (OwnT.isT (H.out.keep hbq).kept (Nat.le_refl _))
    have hk4 := H.out.keptN
    refine (bAbove HT.out (Nat.le_refl _) Hr.out (by omega) s.cursor).mono ?_
    rintro e w4 ⟨rfl, hb4⟩
    have HB4 := Lib.hid (hbq.trans (hb4.mono hbq.size))
    have HT4 := Lib.hid (HT.out.mono hb4 (Nat.le_refl _))
    have hz4 := hb4.size
    clear hb4
    obtain ⟨sv, hsv, hst⟩ := cut_told HT4.out (aboveN_le b.kept s.cursor)
    obtain ⟨p5, cap5, rfl, hc5, hc6⟩ := hst.open
    obtain ⟨nl, hnl⟩ : ∃ z, (b.kept.drop (aboveN b.kept s.cursor)).length = z := ⟨_, rfl⟩
    have hnl9 : nl ≤ 4096 := by rw [← hnl, List.length_drop]; omega
    rw [hnl] at hsv hst hc5
    have HK2 := Lib.hid (show min nl (max 0 m).toNat ≤ (b.kept.drop (aboveN b.kept s.cursor)).length by rw [hnl]; exact Nat.min_le_left _ _)
    have hst2 := hst.head HK2.out
    rw [show (b.kept.drop (aboveN b.kept s.cursor)).take (min nl (max 0 m).toNat) = handed b s m by rw [← hnl, take_min]; rfl] at hst2
    have hlen2 : (handed b s m).length = min nl (max 0 m).toNat := by unfold handed; rw [List.length_take, hnl, Nat.min_comm]
    obtain ⟨n2, hn2⟩ : ∃ z, min nl (max 0 m).toNat = z := ⟨_, rfl⟩
    have hmin : min (nl : Int) (max 0 m) = (n2 : Int) := by omega
    rw [hn2] at hst2 hlen2
    have hn29 : n2 ≤ nl := by omega
    obtain ⟨hl, hhl⟩ : ∃ z, handed b s m = z := ⟨_, rfl⟩
    rw [hhl] at hst2 hlen2 HR
    have HT6 := Lib.hid hst2
    have HL2 := Lib.hid hlen2
    have H4 := Lib.hid (H.out.keep HB4.out)
    have HS4 := Lib.hid (HS.out.keep HB4.out)
    have HX := Lib.hid (H.out.low.2.2.2.2 x (List.mem_of_getElem? H2.out))
    have HN := Lib.hid (H.out.subsN s (List.mem_of_getElem? H1.out))
    have hcap : n2 ≤ cap5 := by omega
    have HB5 := Lib.hid (show OffM (BTyM base w2) w2 w4 from OffM.of HB4.out)
    have HO2 := Lib.hid (show ∀ t ∈ hl, 1 ≤ t ∧ t ≤ 1099511627776 from fun t ht => H.out.keptN.2 t (by rw [← hhl] at ht; exact List.mem_of_mem_drop (List.mem_of_mem_take ht)))
    have hx4 := HS4.out.lt
    have HHL := Lib.hid hhl
    clear hst hst2 hn2 hhl hlen2 hnl
    cases n2 with
    | zero =>
      have hnil : hl = [] := List.eq_nil_of_length_eq_zero HL2.out
      subst hnil
      go_wp2_with fail
      refine (bCopied HT6.out hz4 (by simp)).mono ?_
      rintro e w7 ⟨v7, rfl, hown, hb7⟩
      have HO7 := Lib.hid hown; have HB7 := Lib.hid hb7
      clear hown hb7
      go_wp2
      go_ret2
      have hr := HR.out
      subst hr
      have HF := Lib.hid (show (handed b s m).getLastD s.cursor = s.cursor by rw [HHL.out]; rfl)
      refine ⟨_, rfl, ownsRow_base HO7.out (by have := HB4.out.size; omega), H4.out.turnS (W' := w7) H1.out H2.out (fun _ => rfl) ?_ (OffM.of HB7.out) ?_, HB5.out.trans (OffM.of (M := fun _ => False) HB7.out) (fun _ _ h => h.elim)⟩
      · show (0 ≤ (handed b s m).getLastD s.cursor ∧ (handed b s m).getLastD s.cursor ≤ _) ∧ _
        rw [HF.out]
        exact HN.out
      · show Blk w7 x 73 [.int .i64 s.id, .int .i64 1, .int .i64 ((handed b s m).getLastD s.cursor), .int .i64 s.acked]
        rw [HF.out]
        exact HS4.out.keep HB7.out
    | succ n3 =>
      obtain ⟨t6, ht6⟩ : ∃ t, hl[n3]? = some t := ⟨_, List.getElem?_eq_getElem (by rw [HL2.out]; omega)⟩
      obtain ⟨b6, off6, rfl, hb6, e0, e1⟩ := HT6.out.get ht6
      have hb69 : b6 < w4.heap.size := by omega
      have f2 := HS4.out.free 2
      have k2 : w4.cell? ⟨x, 2, none⟩ = some (.int .i64 s.cursor) := HS4.out.cell 2 _ rfl
      have HT9 := Lib.hid ht6
      clear ht6
      have HF := Lib.hid (show (handed b s m).getLastD s.cursor = t6 by
        rw [HHL.out, List.getLastD_eq_getLast?, List.getLast?_eq_getElem?, HL2.out]
        show (hl[n3]?).getD _ = _
        rw [HT9.out]; rfl)
      have HOx := Lib.hid (OffM.cell1 w4 x 2 (.int .i64 t6))
      have HSx := Lib.hid (HS4.out.set_ 2 (.int .i64 t6))
      have HTx := Lib.hid (HT6.out.off HS4.out HOx.out hz4)
      have hz5 := HOx.out.size
      go_wp2_with fail
      obtain ⟨W5, hW5⟩ : ∃ z, w4.setCell ⟨x, 2, none⟩ (.int .i64 t6) = z := ⟨_, rfl⟩
      rw [hW5] at HOx HSx HTx hz5 ⊢
      clear hW5
      refine (bCopied HTx.out (Nat.le_trans hz4 hz5) (by have := HL2.out; omega)).mono ?_
      rintro e w7 ⟨v7, rfl, hown, hb7⟩
      have HO7 := Lib.hid hown; have HB7 := Lib.hid hb7
      clear hown hb7
      go_wp2
      go_ret2
      have hr := HR.out
      subst hr
      have HOy := Lib.hid (HOx.out.trans (OffM.of (M := fun _ => False) HB7.out) (fun _ _ h => h.elim))
      refine ⟨_, rfl, ownsRow_base HO7.out (by have := HB4.out.size; omega), H4.out.turnS (W' := w7) H1.out H2.out (fun _ => rfl) ?_ HOy.out ?_, OffB.trans HB5.out (HOy.out.more (fun k hk e => by subst e; exact BTyM.blk HS4.out (.inr (.inr (.inl rfl))) HX.out))⟩
      · show (0 ≤ (handed b s m).getLastD s.cursor ∧ (handed b s m).getLastD s.cursor ≤ _) ∧ _
        rw [HF.out]
        have := HO2.out t6 (List.mem_of_getElem? HT9.out)
        exact ⟨⟨by omega, this.2⟩, HN.out.2⟩
      · show Blk w7 x 73 [.int .i64 s.id, .int .i64 1, .int .i64 ((handed b s m).getLastD s.cursor), .int .i64 s.acked]
        rw [HF.out]
        exact HSx.out.keep HB7.out
end
end Go.Proofs.YtfmolimnnheaoaaGreat

/- (*Board).find and what stands upon it; the board that nobody made. -/
namespace Go.Proofs.YtfmolimnnheaoaaGreat
open Go.RowKit
set_option linter.unusedSimpArgs false
set_option linter.unusedVariables false
open Go.Maps

set_option maxRecDepth 100000 in
theorem bFind0 (n : Int) (W : World) : Calls Tryz.prog 62 #[.pointer none, .int .i64 n] W fun e w' => e = .returned (.tuple #[.agg #[.slice none 0 0, .int .i64 0, .int .i64 0], .bool false]) ∧ Below W.heap.size W w' := by
  go_enter Tryz.func62, Tryz.ntmps62; (try simp only [List.append_eq, List.cons_append, List.nil_append])
  go_wp2_with fail
  refine (bMade0 _).mono ?_
  rintro e w2 ⟨rfl, rfl⟩
  go_wp2_with (refine wpList_store_new rfl 64 _ _ rfl #[.slice none 0 0, .int .i64 0, .int .i64 0] _ _ rfl rfl (by kernel_rfl) rfl (by kernel_rfl) ?_)
  exact bodyPost_agg_tmp (d := _) rfl rfl (World.alloc_heap_new W _) Tryz.underlying64 rfl (by kernel_rfl) rfl ⟨rfl, (Below.refl _ _).alloc (Nat.le_refl _) _⟩
section
variable {base : Nat} {W W' : World} {g hq hs nq ns xq : Nat} {q : Option Nat} {b b' : Bd} {kv kv' : Value} {bl : List Nat}
set_option maxRecDepth 100000 in
theorem bFind (h : BrdM base W g hq hs nq ns (some xq) b kv bl) : Calls Tryz.prog 62 #[.pointer (some ⟨g, 0, none⟩), .int .i64 1] W fun e w' => e = .returned (.tuple #[.agg #[kv, .int .i64 b.last, .int .i64 b.floor], .bool true]) ∧ Below W.heap.size W w' := by
  obtain ⟨ak, ck, hkv⟩ := ownsRow_slice h.kept
  subst hkv
  have h' := h.keep ((Below.refl _ _).alloc (Nat.le_refl _) (.cells #[.slice none 0 0, .int .i64 0, .int .i64 0] 64))
  have H := Lib.hid h'
  have hlook := h'.lookQ
  have hg := h'.blk.lt
  have hxq := (h'.qb xq rfl).1
  have hxl := hxq.lt
  have c1 := h'.blk.cell 1 _ rfl
  have d0 := hxq.cell 0 _ rfl
  have d1 := hxq.cell 1 _ rfl
  have d2 := hxq.cell 2 _ rfl
  have hg0 := h.blk.lt
  have hx0 := (h.qb xq rfl).1.lt
  have m0 : W.cell? ⟨g, 1, none⟩ = some (.map (some hq)) := h.blk.cell 1 _ rfl
  have n0 : W.cell? ⟨xq, 0, none⟩ = some (.slice ak b.kept.length ck) := (h.qb xq rfl).1.cell 0 _ rfl
  have n1 : W.cell? ⟨xq, 1, none⟩ = some (.int .i64 b.last) := (h.qb xq rfl).1.cell 1 _ rfl
  have n2 : W.cell? ⟨xq, 2, none⟩ = some (.int .i64 b.floor) := (h.qb xq rfl).1.cell 2 _ rfl
  clear h h' hxq c1 d0 d1 d2 hg hxl
  go_enter Tryz.func62, Tryz.ntmps62; (try simp only [List.append_eq, List.cons_append, List.nil_append])
  go_wp2_with fail
  refine (bMade H.out.blk).mono ?_
  rintro e w2 ⟨rfl, rfl⟩
  go_wp2_with (refine wpList_store_new rfl 64 _ _ rfl #[.slice ak b.kept.length ck, .int .i64 b.last, .int .i64 b.floor] _ _ rfl rfl (by kernel_rfl) rfl (by kernel_rfl) ?_)
  exact bodyPost_agg_tmp (d := _) rfl rfl (World.alloc_heap_new W _) Tryz.underlying64 rfl (by kernel_rfl) rfl ⟨rfl, (Below.refl _ _).alloc (Nat.le_refl _) _⟩
end
end Go.Proofs.YtfmolimnnheaoaaGreat

/- Room, Kept, Settled, Floor, Last, Subs, Queries, Open, Close: of the board that nobody made, and what the laws ask of one that was. -/
namespace Go.Proofs.YtfmolimnnheaoaaGreat
open Go.RowKit
set_option linter.unusedSimpArgs false
set_option linter.unusedVariables false
open Go.Maps

set_option maxRecDepth 100000 in
theorem bOpen0 (n t : Int) (W : World) : Calls Tryz.prog 9 #[.pointer none, .int .i64 n, .int .i64 t] W fun e w' => e = .returned (.int .i64 1) ∧ w' = W := by
  go_enter Tryz.func9, Tryz.ntmps9; (try simp only [List.append_eq, List.cons_append, List.nil_append])
  go_wp2_with fail
  refine (bMade0 _).mono ?_
  rintro e w2 ⟨rfl, rfl⟩
  go_wp2
  go_ret
  exact ⟨rfl, rfl⟩
set_option maxRecDepth 100000 in
theorem bClose0 (n : Int) (W : World) : Calls Tryz.prog 11 #[.pointer none, .int .i64 n] W fun e w' => e = .returned (.int .i64 1) ∧ w' = W := by
  go_enter Tryz.func11, Tryz.ntmps11; (try simp only [List.append_eq, List.cons_append, List.nil_append])
  go_wp2_with fail
  refine (bMade0 _).mono ?_
  rintro e w2 ⟨rfl, rfl⟩
  go_wp2
  go_ret
  exact ⟨rfl, rfl⟩
set_option maxRecDepth 100000 in
theorem bQueries0  (W : World) : Calls Tryz.prog 60 #[.pointer none] W fun e w' => e = .returned (.slice none 0 0) ∧ w' = W := by
  go_enter Tryz.func60, Tryz.ntmps60; (try simp only [List.append_eq, List.cons_append, List.nil_append])
  go_wp2_with fail
  refine (bMade0 _).mono ?_
  rintro e w2 ⟨rfl, rfl⟩
  go_wp2
  go_ret
  exact ⟨rfl, rfl⟩
set_option maxRecDepth 100000 in
theorem bSettled0 (n : Int) (W : World) : Calls Tryz.prog 47 #[.pointer none, .int .i64 n] W fun e w' => e = .returned (.int .i64 0) ∧ Below W.heap.size W w' := by
  go_enter Tryz.func47, Tryz.ntmps47; (try simp only [List.append_eq, List.cons_append, List.nil_append])
  go_wp2_with fail
  refine (bFind0 _ _).mono ?_
  rintro e w2 ⟨rfl, hb⟩
  have HB := Lib.hid hb
  have hsz := hb.size
  clear hb
  go_wp2_with (refine wpList_store_new rfl 64 _ _ rfl #[.slice none 0 0, .int .i64 0, .int .i64 0] _ _ rfl rfl (by kernel_rfl) rfl (by kernel_rfl) ?_)
  go_ret
  exact ⟨rfl, HB.out.alloc hsz _⟩
set_option maxRecDepth 100000 in
theorem bFloor0 (n : Int) (W : World) : Calls Tryz.prog 49 #[.pointer none, .int .i64 n] W fun e w' => e = .returned (.int .i64 0) ∧ Below W.heap.size W w' := by
  go_enter Tryz.func49, Tryz.ntmps49; (try simp only [List.append_eq, List.cons_append, List.nil_append])
  go_wp2_with fail
  refine (bFind0 _ _).mono ?_
  rintro e w2 ⟨rfl, hb⟩
  have HB := Lib.hid hb
  have hsz := hb.size
  clear hb
  go_wp2_with (refine wpList_store_new rfl 64 _ _ rfl #[.slice none 0 0, .int .i64 0, .int .i64 0] _ _ rfl rfl (by kernel_rfl) rfl (by kernel_rfl) ?_)
  go_ret
  exact ⟨rfl, HB.out.alloc hsz _⟩
set_option maxRecDepth 100000 in
theorem bLast0 (n : Int) (W : World) : Calls Tryz.prog 51 #[.pointer none, .int .i64 n] W fun e w' => e = .returned (.int .i64 0) ∧ Below W.heap.size W w' := by
  go_enter Tryz.func51, Tryz.ntmps51; (try simp only [List.append_eq, List.cons_append, List.nil_append])
  go_wp2_with fail
  refine (bFind0 _ _).mono ?_
  rintro e w2 ⟨rfl, hb⟩
  have HB := Lib.hid hb
  have hsz := hb.size
  clear hb
  go_wp2_with (refine wpList_store_new rfl 64 _ _ rfl #[.slice none 0 0, .int .i64 0, .int .i64 0] _ _ rfl rfl (by kernel_rfl) rfl (by kernel_rfl) ?_)
  go_ret
  exact ⟨rfl, HB.out.alloc hsz _⟩
set_option maxRecDepth 100000 in
theorem bRoom0 (n : Int) (W : World) : Calls Tryz.prog 53 #[.pointer none, .int .i64 n] W fun e w' => e = .returned (.int .i64 0) ∧ Below W.heap.size W w' := by
  go_enter Tryz.func53, Tryz.ntmps53; (try simp only [List.append_eq, List.cons_append, List.nil_append])
  go_wp2_with fail
  refine (bFind0 _ _).mono ?_
  rintro e w2 ⟨rfl, hb⟩
  have HB := Lib.hid hb
  have hsz := hb.size
  clear hb
  go_wp2_with (refine wpList_store_new rfl 64 _ _ rfl #[.slice none 0 0, .int .i64 0, .int .i64 0] _ _ rfl rfl (by kernel_rfl) rfl (by kernel_rfl) ?_)
  go_ret
  exact ⟨rfl, HB.out.alloc hsz _⟩
set_option maxRecDepth 100000 in
theorem bSubs0 (n : Int) (W : World) : Calls Tryz.prog 57 #[.pointer none, .int .i64 n] W fun e w' => e = .returned (.slice none 0 0) ∧ Below W.heap.size W w' := by
  go_enter Tryz.func57, Tryz.ntmps57; (try simp only [List.append_eq, List.cons_append, List.nil_append])
  go_wp2_with fail
  refine (bFind0 _ _).mono ?_
  rintro e w2 ⟨rfl, hb⟩
  have HB := Lib.hid hb
  have hsz := hb.size
  clear hb
  go_wp2_with (refine wpList_store_new rfl 64 _ _ rfl #[.slice none 0 0, .int .i64 0, .int .i64 0] _ _ rfl rfl (by kernel_rfl) rfl (by kernel_rfl) ?_)
  go_ret
  exact ⟨rfl, HB.out.alloc hsz _⟩
set_option maxRecDepth 100000 in
theorem bKept0 (n : Int) (W : World) : Calls Tryz.prog 30 #[.pointer none, .int .i64 n] W fun e w' => ∃ a c, e = .returned (.slice a 0 c) ∧ Below W.heap.size W w' := by
  go_enter Tryz.func30, Tryz.ntmps30; (try simp only [List.append_eq, List.cons_append, List.nil_append])
  go_wp2_with fail
  refine (bFind0 _ _).mono ?_
  rintro e w2 ⟨rfl, hb⟩
  have HB := Lib.hid hb
  have hsz := hb.size
  clear hb
  go_wp2_with (refine wpList_store_new rfl 64 _ _ rfl #[.slice none 0 0, .int .i64 0, .int .i64 0] _ _ rfl rfl (by kernel_rfl) rfl (by kernel_rfl) ?_)
  refine (bCopied (n := 0) (l := []) (Arr.nil _ _ _) (Nat.zero_le _) (by simp)).mono ?_
  rintro e w3 ⟨v3, rfl, hown, hb3⟩
  obtain ⟨a3, c3, rfl⟩ := ownsRow_slice hown
  have HB3 := Lib.hid hb3
  clear hown hb3
  go_wp2
  go_ret
  exact ⟨_, _, rfl, (HB.out.alloc hsz _).trans (HB3.out.mono (by simp; omega))⟩
section
variable {base : Nat} {W W' : World} {g hq hs nq ns xq : Nat} {q : Option Nat} {b b' : Bd} {kv kv' : Value} {bl : List Nat}
set_option maxRecDepth 100000 in
theorem bRoom (h : BrdM base W g hq hs nq ns (some xq) b kv bl) : Calls Tryz.prog 53 #[.pointer (some ⟨g, 0, none⟩), .int .i64 1] W fun e w' => e = .returned (.int .i64 (b.room - b.kept.length)) ∧ Below W.heap.size W w' := by
  have HF := Lib.hid (bFind h)
  obtain ⟨ak, ck, hkv⟩ := ownsRow_slice h.kept
  subst hkv
  have H := Lib.hid h
  have hnum := h.num.1
  have hkn := h.keptN.1
  clear h
  go_enter Tryz.func53, Tryz.ntmps53; (try simp only [List.append_eq, List.cons_append, List.nil_append])
  go_wp2_with fail
  refine HF.out.mono ?_
  rintro e w2 ⟨rfl, hb⟩
  have HB := Lib.hid hb
  have hsz := hb.size
  have hb' := (H.out.keep (hb.trans (((Below.refl _ w2).alloc (Nat.le_refl _) (.cells #[.slice ak b.kept.length ck, .int .i64 b.last, .int .i64 b.floor] 64)).mono hsz))).blk
  have H2 := (H.out.keep hb).blk
  have c0 : w2.cell? ⟨g, 0, none⟩ = some (.int .i64 b.room) := H2.cell 0 _ rfl
  have hg2 := H2.lt
  clear hb hb' H2
  go_wp2_with (refine wpList_store_new rfl 64 _ _ rfl #[.slice ak b.kept.length ck, .int .i64 b.last, .int .i64 b.floor] _ _ rfl rfl (by kernel_rfl) rfl (by kernel_rfl) ?_)
  go_quiet (fail)
  go_wp2
  go_ret
  exact ⟨rfl, below_drewN (HB.out.alloc hsz _) _⟩
set_option maxRecDepth 100000 in
theorem bKept (h : BrdM base W g hq hs nq ns (some xq) b kv bl) : Calls Tryz.prog 30 #[.pointer (some ⟨g, 0, none⟩), .int .i64 1] W fun e w' => ∃ v, e = .returned v ∧ OwnT W.heap.size w' v b.kept ∧ Below W.heap.size W w' := by
  have HF := Lib.hid (bFind h)
  obtain ⟨ak, ck, hkv⟩ := ownsRow_slice h.kept
  subst hkv
  have H := Lib.hid h
  have hkn := h.keptN.1
  clear h
  go_enter Tryz.func30, Tryz.ntmps30; (try simp only [List.append_eq, List.cons_append, List.nil_append])
  go_wp2_with fail
  refine HF.out.mono ?_
  rintro e w2 ⟨rfl, hb⟩
  have HB := Lib.hid hb
  have hsz := hb.size
  clear hb
  go_wp2_with (refine wpList_store_new rfl 64 _ _ rfl #[.slice ak b.kept.length ck, .int .i64 b.last, .int .i64 b.floor] _ _ rfl rfl (by kernel_rfl) rfl (by kernel_rfl) ?_)
  have HB2 := Lib.hid (HB.out.alloc hsz (.cells #[.slice ak b.kept.length ck, .int .i64 b.last, .int .i64 b.floor] 64))
  refine (bCopied (OwnT.isT (H.out.keep HB2.out).kept (Nat.le_refl _)) (Nat.le_refl _) (by omega)).mono ?_
  rintro e w3 ⟨v3, rfl, hown, hb3⟩
  have HO := Lib.hid hown; have HB3 := Lib.hid hb3
  clear hown hb3
  go_wp2
  go_ret
  exact ⟨_, rfl, ownsRow_base HO.out HB2.out.size, HB2.out.trans (HB3.out.mono HB2.out.size)⟩
set_option maxRecDepth 100000 in
theorem bOpenThere {t : Int} (h : BrdM base W g hq hs nq ns (some xq) b kv bl) (ht : 0 ≤ t ∧ t ≤ 1099511627776) : Calls Tryz.prog 9 #[.pointer (some ⟨g, 0, none⟩), .int .i64 1, .int .i64 t] W fun e w' => e = .returned (.int .i64 7) ∧ w' = W := by
  have H := Lib.hid h
  have hlook := h.lookQ
  have hg := h.blk.lt
  have c1 : W.cell? ⟨g, 1, none⟩ = some (.map (some hq)) := h.blk.cell 1 _ rfl
  have Ht := Lib.hid ht
  clear h ht
  go_enter Tryz.func9, Tryz.ntmps9; (try simp only [List.append_eq, List.cons_append, List.nil_append])
  go_wp2_with fail
  refine (bMade H.out.blk).mono ?_
  rintro e w2 ⟨rfl, rfl⟩
  go_wp2_with fail
  refine (bTime t _).mono ?_
  rintro e w2 ⟨rfl, rfl⟩
  rw [decide_eq_true Ht.out]
  go_wp2
  go_ret
  exact ⟨rfl, rfl⟩
set_option maxRecDepth 100000 in
theorem bOpenBad {t : Int} (h : BrdM base W g hq hs nq ns q b kv bl) : Calls Tryz.prog 9 #[.pointer (some ⟨g, 0, none⟩), .int .i64 0, .int .i64 t] W fun e w' => e = .returned (.int .i64 2) ∧ w' = W := by
  have H := Lib.hid h
  clear h
  go_enter Tryz.func9, Tryz.ntmps9; (try simp only [List.append_eq, List.cons_append, List.nil_append])
  go_wp2_with fail
  refine (bMade H.out.blk).mono ?_
  rintro e w2 ⟨rfl, rfl⟩
  go_wp2
  go_ret
  exact ⟨rfl, rfl⟩
set_option maxRecDepth 100000 in
theorem bCloseNone (h : BrdM base W g hq hs nq ns (some xq) b kv bl) : Calls Tryz.prog 11 #[.pointer (some ⟨g, 0, none⟩), .int .i64 2] W fun e w' => e = .returned (.int .i64 6) ∧ w' = W := by
  have H := Lib.hid h
  have hlook : (Instr.lookup 52 (.map (some hq)) (.int .i64 2) false).run Tryz.prog W = .ok (.pointer none) W := h.mq.lookQ (n := 2) ⟨by omega, by omega⟩
  have hg := h.blk.lt
  have c1 : W.cell? ⟨g, 1, none⟩ = some (.map (some hq)) := h.blk.cell 1 _ rfl
  clear h
  go_enter Tryz.func11, Tryz.ntmps11; (try simp only [List.append_eq, List.cons_append, List.nil_append])
  go_wp2_with fail
  refine (bMade H.out.blk).mono ?_
  rintro e w2 ⟨rfl, rfl⟩
  go_wp2
  go_ret
  exact ⟨rfl, rfl⟩
set_option maxRecDepth 100000 in
theorem bSettledAt (h : BrdM base W g hq hs nq ns (some xq) b kv bl) (hbs : base ≤ W.heap.size) : Calls Tryz.prog 47 #[.pointer (some ⟨g, 0, none⟩), .int .i64 1] W fun e w' => e = .returned (.int .i64 (settledB b)) ∧ Below W.heap.size W w' := by
  have HF := Lib.hid (bFind h)
  obtain ⟨ak, ck, hkv⟩ := ownsRow_slice h.kept
  subst hkv
  have H := Lib.hid h
  clear h
  go_enter Tryz.func47, Tryz.ntmps47; (try simp only [List.append_eq, List.cons_append, List.nil_append])
  go_wp2_with fail
  refine HF.out.mono ?_
  rintro e w2 ⟨rfl, hb⟩
  have HB := Lib.hid hb
  have hsz := hb.size
  clear hb
  go_wp2_with (refine wpList_store_new rfl 64 _ _ rfl #[.slice ak b.kept.length ck, .int .i64 b.last, .int .i64 b.floor] _ _ rfl rfl (by kernel_rfl) rfl (by kernel_rfl) ?_)
  have HB2 := Lib.hid (HB.out.alloc hsz (.cells #[.slice ak b.kept.length ck, .int .i64 b.last, .int .i64 b.floor] 64))
  refine (bSettled (H.out.keep HB2.out) (Nat.le_trans hbs HB2.out.size)).mono ?_
  rintro e w3 ⟨rfl, hb3⟩
  have HB3 := Lib.hid hb3
  clear hb3
  go_wp2
  go_ret
  exact ⟨rfl, HB2.out.trans (HB3.out.mono HB2.out.size)⟩
end
end Go.Proofs.YtfmolimnnheaoaaGreat
