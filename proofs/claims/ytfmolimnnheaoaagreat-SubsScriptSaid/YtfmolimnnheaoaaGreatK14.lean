/- (*Board).letGo. -/
import Derived.Test.YtfmolimnnheaoaaGreatK12
import Derived.Test.YtfmolimnnheaoaaGreatK6
import Derived.Test.YtfmolimnnheaoaaGreatK1
namespace Go.Proofs.YtfmolimnnheaoaaGreat
open Go.RowKit
set_option linter.unusedSimpArgs false
set_option linter.unusedVariables false
open Go.Maps

theorem Blk.ne_ty {w : World} {g g' t t' : Nat} {cs cs' : List Value} (h : Blk w g t cs) (h' : Blk w g' t' cs') (hne : t ≠ t') : g ≠ g' := by
  rintro rfl
  have k : w.heap[g]? = some (.cells cs.toArray t (0, 0)) := h
  have k' : w.heap[g]? = some (.cells cs'.toArray t' (0, 0)) := h'
  rw [k] at k'
  simp at k'
  exact hne k'.2
section
variable {base : Nat} {W W' : World} {g hq hs nq ns xq : Nat} {q : Option Nat} {b b' : Bd} {kv kv' : Value} {bl : List Nat}
/-- The query's block turns, and what is kept. -/
theorem BrdM.turnQ (h : BrdM base W g hq hs nq ns (some xq) b kv bl) (ho : OffM (fun k => k = xq) W W') (hb : Blk W' xq 64 (queryC b' kv')) (hk : OwnT base W' kv' b'.kept) (h1 : b'.room = b.room) (h2 : b'.subs = b.subs) (h3 : b'.next = b.next)
    (h4 : 0 ≤ b'.last ∧ b'.last ≤ 1099511627776) (h5 : 0 ≤ b'.floor ∧ b'.floor ≤ 1099511627776) (h6 : b'.kept.length ≤ 4096 ∧ ∀ t ∈ b'.kept, 1 ≤ t ∧ t ≤ 1099511627776) : BrdM base W' g hq hs nq ns (some xq) b' kv' bl := by
  have hqb := (h.qb xq rfl).1
  have hbase := (h.qb xq rfl).2
  refine ⟨?_, h.mq.keep (ho.block _ h.mq.lt (fun e => h.mq.ne hqb e.symm)), ?_, by rw [h2]; exact h.len, fun x hx => ?_, hk, fun i s x e1 e2 => ?_, h.nd, by rw [h2]; exact h.ids, ?_, h.low, ?_, by rw [h2]; exact h.subsN, h6⟩
  · unfold boardC
    rw [h1, h3]
    exact (ho.block _ h.blk.lt (h.blk.ne_ty hqb (by decide))).trans h.blk
  · rw [h2]; exact h.ms.keep (ho.block _ h.ms.lt (fun e => h.ms.ne hqb e.symm))
  · cases hx; exact ⟨hb, hbase⟩
  · rw [h2] at e1
    have hsb := h.sb i s x e1 e2
    exact (ho.block _ hsb.lt (hsb.ne_ty hqb (by decide))).trans hsb
  · rw [h2, h3]; exact h.next
  · have := h.num
    rw [h1, h3]
    exact ⟨this.1, this.2.1, h4, h5, this.2.2.2.2⟩
theorem OffB.one {base : Nat} {W W' : World} {xq : Nat} {cs : List Value} (ho : OffM (fun k => k = xq) W W') (hb : Blk W xq 64 cs) (h0 : base ≤ xq) : OffM (BTyM base W) W W' :=
  ho.more (fun k hk e => by subst e; exact BTyM.blk hb (.inr (.inl rfl)) h0)
theorem settled_bd (h : BrdM base W g hq hs nq ns q b kv bl) : 0 ≤ settledB b ∧ settledB b ≤ 1099511627776 := by
  have h1 := h.num
  have h2 := (settled_le b).1
  refine ⟨?_, by omega⟩
  have key : ∀ (l : List Sb) (a : Int), 0 ≤ a → (∀ s ∈ l, 0 ≤ s.acked) → 0 ≤ l.foldl (fun m s => min m s.acked) a := by
    intro l
    induction l with
    | nil => intro a ha _; exact ha
    | cons s l ih =>
      intro a ha hs
      exact ih (min a s.acked) (Int.le_min.2 ⟨ha, hs s (by simp)⟩) (fun s hs' => hs s (by simp [hs']))
  exact key _ _ h1.2.2.1.1 (fun s hs => (h.subsN s hs).2.1)
theorem aboveN_le (l : List Int) (t : Int) : aboveN l t ≤ l.length := by
  unfold aboveN
  exact (List.takeWhile_sublist _).length_le
/-- l[k:]. -/
theorem cut_told {n : Nat} {w : World} {v : Value} {l : List Int} (h : IsT n w v l) {k : Nat} (hk : k ≤ l.length) :
    ∃ sv, (∀ X : World, (Instr.slice 37 v (some (.int .i64 (k : Int))) none none).run Tryz.prog X = .ok sv X) ∧ IsT n w sv (l.drop k) := by
  obtain ⟨p, cap, rfl, hc1, hc2⟩ := h.open
  have ht : Tryz.prog.underlying 37 = some (.slice (Tryz.prog.elem 37)) := by simp [Program.elem, Tryz.underlying37]
  have he : Tryz.prog.elem 37 = 34 := by simp [Program.elem, Tryz.underlying37]
  refine ⟨sliced p k l.length cap 2, fun X => ?_, ?_⟩
  · rw [run_slice_l X 37 _ _ _ ht .i64 _ (by omega) (by omega), he, Tryz.sizeOf34]
    simp [Result.andThen]
  · unfold sliced
    refine ⟨_, cap - k, by rw [List.length_map, List.length_drop], by rw [List.length_map, List.length_drop]; omega, by omega, fun hne => ?_⟩
    have hlt : k < l.length := by
      rcases Nat.lt_or_ge k l.length with h1 | h1
      · exact h1
      · exact absurd (by rw [List.drop_eq_nil_of_le h1]; rfl) hne
    obtain ⟨p0, c0, hv, _, _, hall⟩ := h
    simp only [List.length_map, Value.slice.injEq, true_and] at hv
    obtain ⟨rfl, rfl⟩ := hv
    obtain ⟨b, off, rfl, hb, hcell⟩ := hall (by intro h0; have := congrArg List.length h0; simp at this; subst this; simp at hlt)
    refine ⟨b, off + k * 2, ?_, hb, fun i r hr j x hx => ?_⟩
    · rw [if_neg (by omega)]
      show some (Addr.add _ _) = _
      rw [add_off]
    · rw [List.getElem?_map, List.getElem?_drop] at hr
      have := hcell (k + i) r (by rw [List.getElem?_map]; exact hr) j x hx
      rw [show off + k * 2 + i * 2 + j = off + (k + i) * 2 + j by omega]
      exact this
/-- l[:k]. -/
theorem head_told {n : Nat} {w : World} {v : Value} {l : List Int} (h : IsT n w v l) {k : Nat} (hk : k ≤ l.length) :
    ∃ sv, (∀ X : World, (Instr.slice 37 v none (some (.int .i64 (k : Int))) none).run Tryz.prog X = .ok sv X) ∧ IsT n w sv (l.take k) := by
  obtain ⟨p, cap, rfl, hc1, hc2⟩ := h.open
  have ht : Tryz.prog.underlying 37 = some (.slice (Tryz.prog.elem 37)) := by simp [Program.elem, Tryz.underlying37]
  have he : Tryz.prog.elem 37 = 34 := by simp [Program.elem, Tryz.underlying37]
  refine ⟨sliced p 0 k cap 2, fun X => ?_, ?_⟩
  · rw [run_slice_h X 37 _ _ _ ht .i64 _ (by omega) (by omega), he, Tryz.sizeOf34]
    simp [Result.andThen]
  · unfold sliced
    refine ⟨_, cap - 0, by rw [List.length_map, List.length_take, Nat.sub_zero, Nat.min_eq_left hk], by rw [List.length_map, List.length_take]; omega, by omega, fun hne => ?_⟩
    have hk0 : 0 < k := by
      rcases Nat.eq_zero_or_pos k with h1 | h1
      · subst h1; exact absurd rfl hne
      · exact h1
    obtain ⟨p0, c0, hv, _, _, hall⟩ := h
    simp only [List.length_map, Value.slice.injEq, true_and] at hv
    obtain ⟨rfl, rfl⟩ := hv
    obtain ⟨b, off, rfl, hb, hcell⟩ := hall (by intro h0; have := congrArg List.length h0; simp at this; subst this; simp at hk; omega)
    refine ⟨b, off, ?_, hb, fun i r hr j x hx => ?_⟩
    · rw [if_neg (by omega)]
      show some (Addr.add _ _) = _
      rw [add_off]; simp
    · have hi : i < (List.take k l).length := by
        have := (List.getElem?_eq_some_iff.1 hr).1
        rwa [List.length_map] at this
      rw [List.length_take] at hi
      rw [List.getElem?_map, List.getElem?_take_of_lt (by omega)] at hr
      exact hcell i r (by rw [List.getElem?_map]; exact hr) j x hx
set_option maxRecDepth 100000 in
set_option maxHeartbeats 4000000 in
theorem bLetGo (h : BrdM base W g hq hs nq ns (some xq) b kv bl) (hr : Rise b.kept) (hbs : base ≤ W.heap.size) :
    Calls Tryz.prog 39 #[.pointer (some ⟨g, 0, none⟩), .int .i64 1] W fun e w' => e = .returned (.tuple #[]) ∧ ∃ kv', BrdM base w' g hq hs nq ns (some xq) (letGoB b) kv' bl ∧ OffM (BTyM base W) W w' := by
  have H := Lib.hid h; have Hr := Lib.hid hr
  have hg := h.blk.lt
  have hxq := (h.qb xq rfl).1.lt
  have c1 : W.cell? ⟨g, 1, none⟩ = some (.map (some hq)) := h.blk.cell 1 _ rfl
  have hlook := h.lookQ
  clear h hr
  go_enter Tryz.func39, Tryz.ntmps39; (try simp only [List.append_eq, List.cons_append, List.nil_append])
  go_wp2_with fail
  refine (bSettled H.out hbs).mono ?_
  rintro e w1 ⟨rfl, hb1⟩
  have hsz1 := hb1.size
  have H1 := Lib.hid (H.out.keep hb1)
  have Ho1 := Lib.hid (OffM.of (M := BTyM base W) hb1)
  have hxq1 : xq < w1.heap.size := by omega
  have d0 : w1.cell? ⟨xq, 0, none⟩ = some kv := (H1.out.qb xq rfl).1.cell 0 _ rfl
  have d2 : w1.cell? ⟨xq, 2, none⟩ = some (.int .i64 b.floor) := (H1.out.qb xq rfl).1.cell 2 _ rfl
  have f2 := (H1.out.qb xq rfl).1.free 2
  have f0 := (H1.out.qb xq rfl).1.free 0
  clear hb1 c1 hlook
  by_cases hn : b.floor < settledB b
  · have Hsb := Lib.hid (settled_bd H.out)
    have HL := Lib.hid (show letGoB b = { b with floor := settledB b, kept := b.kept.drop (aboveN b.kept (settledB b)) } by unfold letGoB; rw [if_pos hn])
    generalize settledB b = n at *
    go_wp2_with fail
    have HY := Lib.hid (show Blk (w1.setCell ⟨xq, 2, none⟩ (.int .i64 n)) xq 64 [kv, .int .i64 b.last, .int .i64 n] from (H1.out.qb xq rfl).1.set_ 2 (.int .i64 n))
    have HoY := Lib.hid (OffM.cell1 w1 xq 2 (.int .i64 n))
    have hkn : ∀ gk, kv.ownBlock = some gk → ¬ gk = xq := fun gk h1 h2 => (H1.out.qb xq rfl).1.not_own H1.out.kept (by decide) (by rw [h1, h2])
    have HK := Lib.hid (ownsRow_offM H1.out.kept HoY.out hkn)
    obtain ⟨Y, hY⟩ : ∃ z, w1.setCell ⟨xq, 2, none⟩ (.int .i64 n) = z := ⟨_, rfl⟩
    rw [hY] at HY HoY HK ⊢
    clear hY hkn
    have HT := Lib.hid (OwnT.isT HK.out (Nat.le_refl _))
    have hf := H1.out.keptN
    have Hf := Lib.hid hf; clear hf
    -- REGION 4
    refine wp_region_late [15] (fun X => Blk X xq 64 [kv, .int .i64 b.last, .int .i64 n]) (by kernel_rfl) ?_
    have hSd := HY.out.drew
    have HZ := Lib.hid (Below.drew (Below.refl Y.heap.size Y))
    obtain ⟨Z, hZ⟩ : ∃ z, Y.drew = z := ⟨_, rfl⟩
    rw [hZ] at hSd HZ ⊢
    clear hZ
    (refine late_take 0 25 (.pointer (some ⟨xq, 0, none⟩)) rfl rfl (by kernel_rfl) (by kernel_rfl) (by kernel_rfl) rfl (by kernel_rfl) (fun _ _ _ h => h) (by kernel_rfl) ?_ hSd ?_; (intro w' hSw; clear hSw; go_simp); simp only [lsz, lss])
    (refine late_take 1 26 (.pointer (some ⟨xq, 0, none⟩)) rfl rfl (by kernel_rfl) (by kernel_rfl) (by kernel_rfl) rfl (by kernel_rfl) (fun _ _ _ h => h) (by kernel_rfl) ?_ hSd ?_; (intro w' hSw; clear hSw; go_simp); simp only [lsz, lss])
    (refine late_take 2 27 (.pointer (some ⟨xq, 0, none⟩)) rfl rfl (by kernel_rfl) (by kernel_rfl) (by kernel_rfl) rfl (by kernel_rfl) (fun _ _ _ h => h) (by kernel_rfl) ?_ hSd ?_; (intro w' hSw; clear hSw; go_simp); simp only [lsz, lss])
    (refine late_take 3 28 (.pointer (some ⟨xq, 0, none⟩)) rfl rfl (by kernel_rfl) (by kernel_rfl) (by kernel_rfl) rfl (by kernel_rfl) (fun _ _ _ h => h) (by kernel_rfl) ?_ hSd ?_; (intro w' hSw; clear hSw; go_simp); simp only [lsz, lss])
    (refine late_take 4 29 (kv) rfl rfl (by kernel_rfl) (by kernel_rfl) (by kernel_rfl) rfl (by kernel_rfl) (fun _ _ _ h => h) (by kernel_rfl) ?_ hSd ?_; (intro w' hSw; have c := hSw.cell 0 _ rfl; clear hSw; go_simp); simp only [lsz, lss])
    (refine late_take 5 30 (.pointer (some ⟨xq, 0, none⟩)) rfl rfl (by kernel_rfl) (by kernel_rfl) (by kernel_rfl) rfl (by kernel_rfl) (fun _ _ _ h => h) (by kernel_rfl) ?_ hSd ?_; (intro w' hSw; clear hSw; go_simp); simp only [lsz, lss])
    (refine late_take 6 31 (.pointer (some ⟨xq, 0, none⟩)) rfl rfl (by kernel_rfl) (by kernel_rfl) (by kernel_rfl) rfl (by kernel_rfl) (fun _ _ _ h => h) (by kernel_rfl) ?_ hSd ?_; (intro w' hSw; clear hSw; go_simp); simp only [lsz, lss])
    (refine late_take 7 32 (.pointer (some ⟨xq, 0, none⟩)) rfl rfl (by kernel_rfl) (by kernel_rfl) (by kernel_rfl) rfl (by kernel_rfl) (fun _ _ _ h => h) (by kernel_rfl) ?_ hSd ?_; (intro w' hSw; clear hSw; go_simp); simp only [lsz, lss])
    (refine late_take 8 33 (kv) rfl rfl (by kernel_rfl) (by kernel_rfl) (by kernel_rfl) rfl (by kernel_rfl) (fun _ _ _ h => h) (by kernel_rfl) ?_ hSd ?_; (intro w' hSw; have c := hSw.cell 0 _ rfl; clear hSw; go_simp); simp only [lsz, lss])
    (refine late_take 9 34 (.int .i64 n) rfl rfl (by kernel_rfl) (by kernel_rfl) (by kernel_rfl) rfl (by kernel_rfl) (fun _ _ _ h => h) (by kernel_rfl) ?_ hSd ?_; (intro w' hSw; clear hSw; go_simp); simp only [lsz, lss])
    refine late_ready (rs := [10]) (by kernel_rfl) (by simp) (.cons rfl true rfl (fun K hK => ?_) .nil)
    rw [if_pos (by kernel_rfl)]
    go_simp
    refine (bAbove (HT.out.mono (HZ.out.mono (Nat.le_refl _)) (Nat.le_refl _)) HZ.out.size Hr.out (by have := H1.out.keptN; omega) n).mono ?_
    rintro e w2 ⟨rfl, hb2⟩
    have HZ2 := Lib.hid (HZ.out.trans (hb2.mono HZ.out.size)); clear hb2
    have hSd := HY.out.keep HZ2.out
    obtain ⟨sv, hsv, hst⟩ := cut_told HT.out (aboveN_le b.kept n)
    refine hK.out _ _ (fun _ => hSd) ?_
    clear hK K
    (try simp only [Act.put, lsa, lsz, lss])
    (refine late_take 11 36 (sv) rfl rfl (by kernel_rfl) (by kernel_rfl) (by kernel_rfl) rfl (by kernel_rfl) (fun _ _ _ h => h) (by kernel_rfl) ?_ hSd ?_; (intro w' hSw; clear hSw; go_simp); simp only [lsz, lss])
    refine late_ready (rs := [12]) (by kernel_rfl) (by simp) (.cons rfl true rfl (fun K hK => ?_) .nil)
    rw [if_pos (by kernel_rfl)]
    go_simp
    refine (cloneT _ _ _ _ HZ2.out.size (hst.mono HZ2.out (Nat.le_refl _)) (by rw [List.length_drop]; have := H1.out.keptN; omega)).mono ?_
    rintro e w3 ⟨v3, rfl, hown, hb3⟩
    obtain ⟨a3, cap3, rfl⟩ := ownsRow_slice hown
    have HZ3 := Lib.hid (HZ2.out.trans (hb3.mono HZ2.out.size))
    have Hown := Lib.hid (ownsRow_base hown HZ2.out.size); clear hb3 hown
    have hSd := HY.out.keep HZ3.out
    refine hK.out _ _ (fun _ => hSd) ?_
    clear hK K
    (try simp only [Act.put, lsa, lsz, lss])
    refine late_ready (rs := [13]) (by kernel_rfl) (by simp) (.cons rfl true rfl (fun K hK => ?_) .nil)
    rw [if_pos (by kernel_rfl)]
    go_simp
    refine hK.out _ _ (fun _ => hSd) ?_
    clear hK K
    (try simp only [Act.put, lsa, lsz, lss])
    refine late_ready (rs := [14]) (by kernel_rfl) (by simp) (.cons rfl true rfl (fun K hK => ?_) .nil)
    rw [if_pos (by kernel_rfl)]
    go_simp
    refine hK.out _ _ (fun _ => hSd) ?_
    clear hK K
    (try simp only [Act.put, lsa, lsz, lss])
    have fr0 := hSd.free 0
    have k0 := hSd.cell 0 _ rfl
    refine late_ready (rs := [15]) (by kernel_rfl) (by simp) (.cons rfl false rfl (fun K hK => ?_) .nil)
    rw [if_pos (by kernel_rfl)]
    go_simp
    refine hK.out _ _ (fun h => by cases h) ?_
    clear hK K
    (try simp only [Act.put, lsa, lsz, lss])
    refine late_done (by kernel_rfl) ?_ _
    go_wp2
    go_end0
    have hx := H1.out
    have hk3 : ∀ gk, (Value.slice a3 (b.kept.length - aboveN b.kept n) cap3).ownBlock = some gk → ¬ gk = xq := fun gk h1 h2 => by have h3 := (ownsRow_block Hown.out gk (by rw [List.length_drop]; exact h1)).1; have h4 := HY.out.lt; omega
    have ho5 : OffM (fun k => k = xq) w1 (w3.setCell ⟨xq, 0, none⟩ (.slice a3 (b.kept.length - aboveN b.kept n) cap3)) := (HoY.out.trans (OffM.of HZ3.out) (fun _ _ h => h)).trans (OffM.cell1 _ _ _ _) (fun _ _ h => h)
    refine ⟨rfl, .slice a3 (b.kept.length - aboveN b.kept n) cap3, ?_, OffB.trans Ho1.out (OffB.one ho5 (hx.qb xq rfl).1 (hx.qb xq rfl).2)⟩
    rw [HL.out]
    refine hx.turnQ ho5 (hSd.set_ 0 _) ?_ rfl rfl rfl hx.num.2.2.1 Hsb.out ⟨by show (List.drop _ _).length ≤ _; rw [List.length_drop]; have := Hf.out; omega, fun t ht => Hf.out.2 t (List.mem_of_mem_drop ht)⟩
    have hown4 := Hown.out
    simp only [List.length_drop] at hown4
    unfold OwnT
    simp only [List.length_drop]
    exact ownsRow_base (ownsRow_offM hown4 (OffM.cell1 _ _ _ _) hk3) (by have := HoY.out.size; omega)
    -- END
  · have HL := Lib.hid (show letGoB b = b by unfold letGoB; rw [if_neg hn])
    generalize settledB b = n at *
    go_wp2
    go_end0
    rw [HL.out]
    exact ⟨rfl, _, H1.out, Ho1.out⟩
end
end Go.Proofs.YtfmolimnnheaoaaGreat

/- Told times (without results) copied. -/
namespace Go.Proofs.YtfmolimnnheaoaaGreat
open Go.RowKit
set_option linter.unusedSimpArgs false
set_option linter.unusedVariables false
open Go.Maps

theorem cloneR0 (w : World) : Calls Tryz.prog 71 #[.slice none 0 0] w fun e' w' => e' = .returned (.slice none 0 0) ∧ w' = w := by
  have hnil : ∀ w, (binOp .eql 32 (.slice none 0 0) (.slice none 0 0)).run Tryz.prog w = .ok (.bool true) w := fun w => Lib.run_eql_slice_nil (P := Tryz.prog) w 32 _ none 0 0 0 0 Tryz.underlying32
  go_enter Tryz.func71, Tryz.ntmps71; (try simp only [List.append_eq, List.cons_append, List.nil_append])
  go_wp2
  go_ret
  exact ⟨rfl, rfl⟩
theorem app_told {ops : Array Oper} {rest : List Oper} {o : Oper} {a : Act} {w : World} {Q : Exit → Act → World → Prop} (hgd : o.guard = none) (s x : Operand)
    (ho : o.op = .call { callee := .builtin .append, args := #[s, x], argTypes := #[37, 37] }) (base : Nat) (v : Value) (l : List Int) (i : Int) (g : Nat)
    (hs : a.eval s = v) (hx : a.eval x = .slice (some ⟨g, 0, none⟩) 1 1) (hown : OwnT base w v l) (hc : w.cell? ⟨g, 0, none⟩ = some (.int .i64 i)) (hc1 : w.cell? ⟨g, 1, none⟩ = some (.slice none 0 0)) (hl : l.length ≤ 1000000) (hbase : base ≤ w.heap.size)
    (h : ∀ v' w', OwnT base w' v' (l ++ [i]) → w.grownBy w' v.ownBlock → (v'.ownBlock = v.ownBlock ∨ v'.ownBlock = some w.heap.size) → wpList Tryz.prog ops Q rest (a.put o.dst v') w') :
    wpList Tryz.prog ops Q (o :: rest) a w := by
  obtain ⟨i0, hi, hz0, hz1, hz2⟩ := info_parts infoTold
  refine wpList_append_src _ hgd s x 37 ho base 34 i0 (.agg #[.int .i64 0, .slice none 0 0]) 2 32 Tryz.underlying37 hi hz0 hz1 hz2 rfl (by decide) v l.length _ hs hown _ 1 (toldC i) hx (.inr ⟨⟨g, 0, none⟩, 1, rfl, rfl, ?_⟩) (by intro u hu; simp [toldC] at hu; rcases hu with rfl | rfl <;> rfl) (by unfold maxLen; omega) (by omega) hbase ?_
  · intro j u hj
    match j, hj with
    | 0, hj => simp [toldC] at hj; subst hj; simpa [Addr.add] using hc
    | 1, hj => simp [toldC] at hj; subst hj; simpa [Addr.add] using hc1
    | j + 2, hj => simp [toldC] at hj
  · intro v' w' h1 h2 h3
    refine h v' w' ?_ h2 h3
    unfold OwnT
    rw [List.length_append, List.map_append, List.flatten_append]
    simpa using h1
theorem OwnT.app {base B : Nat} {a w w' : World} {v : Value} {l : List Int} (h : Below B a w) (ho : OwnT base w v l) {o : Obj} (hg : (w.alloc o).grownBy w' v.ownBlock) (hB : B ≤ base) (hs : B ≤ w.heap.size) : Below B a w' :=
  below_app (h.alloc hs o) (ownsRow_keep ho ((Below.refl _ _).alloc (Nat.le_refl _) o)) hg hB (by simp; omega)
set_option maxRecDepth 100000 in
set_option maxHeartbeats 4000000 in
theorem bCopied {n : Nat} {v : Value} {l : List Int} {W : World} (hl : IsT n W v l) (hn : n ≤ W.heap.size) (hlen : l.length ≤ 100000) :
    Calls Tryz.prog 43 #[v] W fun e w' => ∃ v', e = .returned v' ∧ OwnT W.heap.size w' v' l ∧ Below W.heap.size W w' := by
  obtain ⟨p, cap, rfl, hcap1, hcap2⟩ := hl.open
  have Hl := Lib.hid hl
  have Hn := Lib.hid hn
  clear hl hn
  go_enter Tryz.func43, Tryz.ntmps43; (try simp only [List.append_eq, List.cons_append, List.nil_append])
  go_wp2
  go_loopw [3, 10] (fun v j wr => ∃ k : Nat, k ≤ l.length ∧ j = .int .i64 k ∧ OwnT W.heap.size wr v (l.take k) ∧ Below W.heap.size W wr) (fun _ j _ => l.length - (intOf j).toNat)
  case atStart => exact ⟨0, Nat.zero_le _, rfl, by rw [List.take_zero]; exact OwnT.nil, Below.refl _ _⟩
  case round =>
    obtain ⟨k, hk, rfl, hown, hb⟩ := hrel
    have Hown := Lib.hid hown; have HB := Lib.hid hb
    clear hown hb
    by_cases hlt : k < l.length
    · have hki : (k : Int) < (l.length : Int) := by omega
      obtain ⟨x, hx⟩ : ∃ x, l[k]? = some x := ⟨_, List.getElem?_eq_getElem hlt⟩
      obtain ⟨bb, off, rfl, hbb, d0, d1⟩ := (Hl.out.mono (HB.out.mono Hn.out) (Nat.le_refl _)).get hx
      have hn1 := Hn.out
      have hsz := HB.out.size
      have hbw : bb < wr.heap.size := by omega
      have Htk := Lib.hid (show l.take (k + 1) = l.take k ++ [x] by rw [List.take_add_one, hx]; rfl)
      have htl : (l.take k).length ≤ 1000000 := by rw [List.length_take]; omega
      clear hx
      go_wp2_with fail
      refine (cloneR0 _).mono ?_
      rintro e w1 ⟨rfl, rfl⟩
      go_wp2
      have HBk := Lib.hid (Blk.new wr [.int .i64 x, .slice none 0 0] 34)
      have HBY := Lib.hid (HB.out.alloc hsz (.cells #[.int .i64 x, .slice none 0 0] 34))
      have HOY := Lib.hid (Hown.out.keep ((Below.refl _ _).alloc (Nat.le_refl _) (.cells #[.int .i64 x, .slice none 0 0] 34)))
      obtain ⟨Y, hY⟩ : ∃ z, wr.alloc (.cells #[.int .i64 x, .slice none 0 0] 34) = z := ⟨_, rfl⟩
      rw [show (wr.alloc (.cells ([.int .i64 x, .slice none 0 0] : List Value).toArray 34)) = Y from hY] at HBk
      rw [hY] at HBY HOY ⊢
      clear hY
      obtain ⟨gB, hgB⟩ : ∃ z, wr.heap.size = z := ⟨_, rfl⟩
      rw [hgB] at HBk ⊢
      clear hgB
      go_loopw [21] (fun j w => j = .int .i64 0 ∧ w = Y) (fun _ _ => 0)
      case atStart => exact ⟨rfl, rfl⟩
      case round =>
        obtain ⟨rfl, hwY⟩ := hrel
        subst hwY
        have k0 : wr.cell? ⟨gB, 0, none⟩ = some (.int .i64 x) := HBk.out.cell 0 _ rfl
        have k1 : wr.cell? ⟨gB, 1, none⟩ = some (.slice none 0 0) := HBk.out.cell 1 _ rfl
        have hgy := HBk.out.lt
        go_wp2_with (at_builtin; refine app_told rfl _ _ rfl W.heap.size _ (l.take k) x wr.heap.size rfl rfl (HOY.out.keep ((Below.refl _ _).alloc (Nat.le_refl _) _)) (by go_simp) (by go_simp) htl (by have := HBY.out.size; simp; omega) ?_)
        intro v' w4 hown4 hg4 _
        have hb4 := OwnT.app HBY.out HOY.out hg4 (Nat.le_refl _) HBY.out.size
        have Hown4 := Lib.hid hown4; have Hb4 := Lib.hid hb4
        clear hown4 hg4 hb4
        go_wp2
        exact ⟨⟨k + 1, by omega, by go_num, by rw [Htk.out]; exact Hown4.out, Hb4.out⟩, by simp [intOf]; omega⟩
    · have hk' : k = l.length := by omega
      subst hk'
      have hki : ¬ ((l.length : Int) < (l.length : Int)) := by omega
      rw [List.take_length] at Hown
      go_wp2
      go_ret
      exact ⟨_, rfl, Hown.out, HB.out⟩
end Go.Proofs.YtfmolimnnheaoaaGreat
