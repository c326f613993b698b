/- The reference's text of an expression (printed by wip/gen_rshow.py). -/
import Derived.Test.YtobelmipjanibaaDoorRs1
namespace Go.Proofs.YtobelmipjanibaaDoor
open Go.RowKit
set_option linter.unusedSimpArgs false
set_option linter.unusedVariables false
theorem kidT_ge (a b : Int) (l : List UInt8) : l.length ≤ (kidT a (b, l)).length := by unfold kidT; split <;> simp <;> omega
set_option maxRecDepth 100000 in
set_option maxHeartbeats 8000000 in
theorem rText_1 (fn op num span : Int) (metric : ByteArray) (mats : List Mat) (names : List ByteArray) (kids : List Ex) (ih : ∀ k ∈ kids, TextC k) : TextC (Ex.mk 1 fn op num metric mats span names kids) := by
  intro hv h64 cs n W he hn hl
  have hv1 := hv
  rw [Ex.flat_eq, List.all_cons, Bool.and_eq_true] at hv1
  have hrt : rightH (hasOf 1) kids.length fn op num metric mats span names = true := by have := hv1.1; simpa [rightB, kindOk, Ex.kind, Ex.fn, Ex.op, Ex.num, Ex.metric, Ex.mats, Ex.span, Ex.names, Ex.kids] using this
  rw [rightH_1] at hrt
  have HR := Lib.hid hrt; clear hrt
  have hkv : ∀ k ∈ kids, k.flat.all rightB = true := fun k hk => List.all_eq_true.2 fun x hx => List.all_eq_true.1 hv1.2 x (flats_iff.2 ⟨k, hk, hx⟩)
  have hk64 : ∀ k ∈ kids, k.num64 := fun k hk => h64.kid (e := Ex.mk 1 fn op num metric mats span names kids) hk
  have hn64 : -9223372036854775808 ≤ num ∧ num ≤ 9223372036854775807 := h64.self (e := Ex.mk 1 fn op num metric mats span names kids)
  obtain ⟨pm, cm, pn, cn, pk, ck, hcs, hes, hma, hna, hka⟩ := he.cellsE
  simp only [Ex.kind, Ex.fn, Ex.op, Ex.num, Ex.metric, Ex.mats, Ex.span, Ex.names, Ex.kids] at hcs hes hma hna hka
  subst hcs
  rw [exT_eq] at hl ⊢
  simp only [Ex.kind, Ex.fn, Ex.op, Ex.num, Ex.metric, Ex.mats, Ex.span, Ex.names, Ex.kids] at hl ⊢
  have HV := Lib.hid hkv; clear hkv hv hv1 h64
  have HK64 := Lib.hid hk64; clear hk64
  have Hih := Lib.hid ih; clear ih
  have HL := Lib.hid hl; clear hl
  have He := Lib.hid he; clear he
  have HNa := Lib.hid hna; clear hna
  have HMa := Lib.hid hma; clear hma
  have HN64 := Lib.hid hn64; clear hn64
  clear hka
  go_enter Tryd.func30, Tryd.ntmps30; (try simp only [List.append_eq, List.cons_append, List.nil_append])
  go_upto_region 1 with fail
  have hblk := Blk.new W [.int .i64 1, .int .i64 fn, .int .i64 op, .int .i64 num, .string metric, .slice pm mats.length cm, .int .i64 span, .slice pn names.length cn, .slice pk kids.length ck] 26
  have hbw : Below W.heap.size W (W.alloc (.cells [.int .i64 1, .int .i64 fn, .int .i64 op, .int .i64 num, .string metric, .slice pm mats.length cm, .int .i64 span, .slice pn names.length cn, .slice pk kids.length ck].toArray 26)) := (Below.refl _ _).alloc (Nat.le_refl _) _
  obtain ⟨W1, hW1⟩ : ∃ W1, W.alloc (.cells [.int .i64 1, .int .i64 fn, .int .i64 op, .int .i64 num, .string metric, .slice pm mats.length cm, .int .i64 span, .slice pn names.length cn, .slice pk kids.length ck].toArray 26) = W1 := ⟨_, rfl⟩
  rw [hW1] at hblk hbw
  have hW1' : W.alloc (.cells #[.int .i64 1, .int .i64 fn, .int .i64 op, .int .i64 num, .string metric, .slice pm mats.length cm, .int .i64 span, .slice pn names.length cn, .slice pk kids.length ck] 26) = W1 := hW1
  rw [hW1']
  clear hW1 hW1'
  have hs1 := hbw.size
  have Hbw := Lib.hid hbw; clear hbw
  have HQ := Lib.hid hblk; clear hblk
  have HS := Lib.hid (fun (X : World) (h : Below W1.heap.size W1 X) => show X.cell? ⟨W.heap.size, 0, none⟩ = some (.int .i64 1) ∧ X.cell? ⟨W.heap.size, 1, none⟩ = some (.int .i64 fn) ∧ X.cell? ⟨W.heap.size, 2, none⟩ = some (.int .i64 op) ∧ X.cell? ⟨W.heap.size, 3, none⟩ = some (.int .i64 num) ∧ X.cell? ⟨W.heap.size, 4, none⟩ = some (.string metric) ∧ X.cell? ⟨W.heap.size, 5, none⟩ = some (.slice pm mats.length cm) ∧ X.cell? ⟨W.heap.size, 6, none⟩ = some (.int .i64 span) ∧ X.cell? ⟨W.heap.size, 7, none⟩ = some (.slice pn names.length cn) ∧ X.cell? ⟨W.heap.size, 8, none⟩ = some (.slice pk kids.length ck) from
    have q := HQ.out.mono h HQ.out.lt
    have r := Cells.of_below ((Hbw.out.trans (h.mono hs1)).mono hn)
    ⟨q.cell 0 _ rfl, q.cell 1 _ rfl, q.cell 2 _ rfl, q.cell 3 _ rfl, q.cell 4 _ rfl, q.cell 5 _ rfl, q.cell 6 _ rfl, q.cell 7 _ rfl, q.cell 8 _ rfl⟩)
  have hX := Below.refl W1.heap.size W1
  have HX : Hid (nodeT 1 fn op num metric mats span names (exTs kids) = wordL 1 fn ++ [40] ++ metric.data.toList ++ matsL mats ++ ([91] ++ Lib.itoa span ++ [93, 41])) := by show _ = _; simp [nodeT, windowL]
  obtain ⟨hkn, hfn, hop, hnum, hnam, ⟨hmet, hmats⟩, hspan⟩ := HR.out
  have hsp64 : -9223372036854775808 ≤ span ∧ span ≤ 9223372036854775807 := by omega
  have hmets := name_length hmet
  have hmets2 : metric.size ≤ 24 := by have : metric.data.toList.length = metric.size := by simp
                                       omega
  have HMats := Lib.hid hmats
  obtain ⟨WD, hWD⟩ : ∃ WD : ByteArray, (⟨(wordL 1 fn).toArray⟩ : ByteArray) = WD := ⟨_, rfl⟩
  have hWDs : WD.size ≤ 8 := by rw [← hWD, ba_litsize]; exact wordL_length 1 fn
  have hWDl : WD.data.toList = wordL 1 fn := by rw [← hWD]
  have CW := Lib.hid (fun (X : World) (h : Below W1.heap.size W1 X) => show Calls Tryd.prog 19 #[.int .i64 1, .int .i64 fn] X (fun e' w' => e' = .returned (.string WD) ∧ Below W1.heap.size W1 w') from
    (rWord 1 fn X).mono fun e' w' ⟨h1, h2⟩ => ⟨by rw [h1, hWD], h.trans (h2.mono h.size)⟩)
  obtain ⟨MS, hMS⟩ : ∃ MS : ByteArray, (⟨(matsL mats).toArray⟩ : ByteArray) = MS := ⟨_, rfl⟩
  have hMSs : MS.size ≤ 2401 := by rw [← hMS, ba_litsize]; exact matsL_length hmats
  have hMSl : MS.data.toList = matsL mats := by rw [← hMS]
  have CM := Lib.hid (fun (X : World) (h : Below W1.heap.size W1 X) => show Calls Tryd.prog 54 #[.slice pm mats.length cm] X (fun e' w' => e' = .returned (.string MS) ∧ Below W1.heap.size W1 w') from
    (rMatch8 mats _ n X (Nat.le_trans hn (Nat.le_trans hs1 h.size)) (HMa.out.mono ((Hbw.out.trans (h.mono hs1)).mono hn) (Nat.le_refl n)) HMats.out).mono fun e' w' ⟨h1, h2⟩ => ⟨by rw [h1, hMS], h.trans (h2.mono h.size)⟩)
  obtain ⟨DG, hDG⟩ : ∃ DG : ByteArray, (⟨(Lib.itoa span).toArray⟩ : ByteArray) = DG := ⟨_, rfl⟩
  have hDGs : DG.size ≤ 21 := by rw [← hDG, ba_litsize]; exact itoa_len span (hsp64)
  have hDGl : DG.data.toList = Lib.itoa span := by rw [← hDG]
  have CD := Lib.hid (fun (X : World) (h : Below W1.heap.size W1 X) => show Calls Tryd.prog 33 #[.int .i64 span] X (fun e' w' => e' = .returned (.string DG) ∧ Below W1.heap.size W1 w') from
    (rDigits span X (hsp64)).mono fun e' w' ⟨h1, h2⟩ => ⟨by rw [h1, hDG], h.trans (h2.mono h.size)⟩)
  clear hkn hfn hop hnum hnam hmet hmats hspan hmets hWD hMS hDG
  have z0 := (HS.out _ hX).1
  go_upto_region 3 with fail
  clear z0
  refine wp_region_held_drew (S := (fun X => X.cell? ⟨W.heap.size, 0, none⟩ = some (.int .i64 1) ∧ X.cell? ⟨W.heap.size, 1, none⟩ = some (.int .i64 fn) ∧ X.cell? ⟨W.heap.size, 2, none⟩ = some (.int .i64 op) ∧ X.cell? ⟨W.heap.size, 3, none⟩ = some (.int .i64 num) ∧ X.cell? ⟨W.heap.size, 4, none⟩ = some (.string metric) ∧ X.cell? ⟨W.heap.size, 5, none⟩ = some (.slice pm mats.length cm) ∧ X.cell? ⟨W.heap.size, 6, none⟩ = some (.int .i64 span) ∧ X.cell? ⟨W.heap.size, 7, none⟩ = some (.slice pn names.length cn) ∧ X.cell? ⟨W.heap.size, 8, none⟩ = some (.slice pk kids.length ck))) (by kernel_rfl) ?_ (fun hHeld => ?_)
  · exact HS.out _ (Below.drew hX)
  (refine held_take 0 8 ?_ rfl (by kernel_rfl) (by kernel_rfl) (by kernel_rfl) (by kernel_rfl) (fun _ _ _ h => h) (by kernel_rfl) ?_ (by assumption) ?_; rotate_left; (intro w hSw; clear hSw; go_simp); (try with_reducible rfl); simp only [List.set_cons_zero, List.set_cons_succ])
  (refine held_take 1 9 (.int .i64 1) rfl rfl (by kernel_rfl) (by kernel_rfl) (by kernel_rfl) (fun _ _ _ h => h) (by kernel_rfl) ?_ (by assumption) ?_; (intro w hSw; obtain ⟨q0, q1, q2, q3, q4, q5, q6, q7, q8⟩ := hSw; go_simp); simp only [List.set_cons_zero, List.set_cons_succ])
  (refine held_take 2 10 ?_ rfl (by kernel_rfl) (by kernel_rfl) (by kernel_rfl) (by kernel_rfl) (fun _ _ _ h => h) (by kernel_rfl) ?_ (by assumption) ?_; rotate_left; (intro w hSw; clear hSw; go_simp); (try with_reducible rfl); simp only [List.set_cons_zero, List.set_cons_succ])
  (refine held_take 3 11 (.int .i64 fn) rfl rfl (by kernel_rfl) (by kernel_rfl) (by kernel_rfl) (fun _ _ _ h => h) (by kernel_rfl) ?_ (by assumption) ?_; (intro w hSw; obtain ⟨q0, q1, q2, q3, q4, q5, q6, q7, q8⟩ := hSw; go_simp); simp only [List.set_cons_zero, List.set_cons_succ])
  (refine held_take 6 14 ?_ rfl (by kernel_rfl) (by kernel_rfl) (by kernel_rfl) (by kernel_rfl) (fun _ _ _ h => h) (by kernel_rfl) ?_ (by assumption) ?_; rotate_left; (intro w hSw; clear hSw; go_simp); (try with_reducible rfl); simp only [List.set_cons_zero, List.set_cons_succ])
  (refine held_take 7 15 (.string metric) rfl rfl (by kernel_rfl) (by kernel_rfl) (by kernel_rfl) (fun _ _ _ h => h) (by kernel_rfl) ?_ (by assumption) ?_; (intro w hSw; obtain ⟨q0, q1, q2, q3, q4, q5, q6, q7, q8⟩ := hSw; go_simp); simp only [List.set_cons_zero, List.set_cons_succ])
  (refine held_take 9 17 ?_ rfl (by kernel_rfl) (by kernel_rfl) (by kernel_rfl) (by kernel_rfl) (fun _ _ _ h => h) (by kernel_rfl) ?_ (by assumption) ?_; rotate_left; (intro w hSw; clear hSw; go_simp); (try with_reducible rfl); simp only [List.set_cons_zero, List.set_cons_succ])
  (refine held_take 10 18 (.slice pm mats.length cm) rfl rfl (by kernel_rfl) (by kernel_rfl) (by kernel_rfl) (fun _ _ _ h => h) (by kernel_rfl) ?_ (by assumption) ?_; (intro w hSw; obtain ⟨q0, q1, q2, q3, q4, q5, q6, q7, q8⟩ := hSw; go_simp); simp only [List.set_cons_zero, List.set_cons_succ])
  (refine held_take 14 22 ?_ rfl (by kernel_rfl) (by kernel_rfl) (by kernel_rfl) (by kernel_rfl) (fun _ _ _ h => h) (by kernel_rfl) ?_ (by assumption) ?_; rotate_left; (intro w hSw; clear hSw; go_simp); (try with_reducible rfl); simp only [List.set_cons_zero, List.set_cons_succ])
  (refine held_take 15 23 (.int .i64 span) rfl rfl (by kernel_rfl) (by kernel_rfl) (by kernel_rfl) (fun _ _ _ h => h) (by kernel_rfl) ?_ (by assumption) ?_; (intro w hSw; obtain ⟨q0, q1, q2, q3, q4, q5, q6, q7, q8⟩ := hSw; go_simp); simp only [List.set_cons_zero, List.set_cons_succ])
  (refine wpAnyH_ready (rs := [4]) (by kernel_rfl) (by simp) (.cons rfl (fun K hK => ?_) .nil))
  rw [if_pos (by kernel_rfl)]
  go_simp
  refine (CW.out _ (Below.drew hX)).mono ?_
  rintro e' X1 ⟨rfl, hA1⟩
  dsimp only
  refine hK.out _ _ (HS.out _ hA1) (fun hHeld => ?_)
  clear hK K
  (try simp only [Act.put, List.setIfInBounds_toArray, List.set_cons_zero, List.set_cons_succ])
  (refine held_take 5 13 (.string (WD ++ ⟨#[40]⟩)) rfl rfl (by kernel_rfl) (by kernel_rfl) (by kernel_rfl) (fun _ _ _ h => h) (by kernel_rfl) ?_ (by assumption) ?_; (intro w hSw; clear hSw; go_simp; (try simp only [ByteArray.size_append]); omega); simp only [List.set_cons_zero, List.set_cons_succ])
  (refine held_take 8 16 (.string (WD ++ ⟨#[40]⟩ ++ metric)) rfl rfl (by kernel_rfl) (by kernel_rfl) (by kernel_rfl) (fun _ _ _ h => h) (by kernel_rfl) ?_ (by assumption) ?_; (intro w hSw; clear hSw; go_simp; (try simp only [ByteArray.size_append]); omega); simp only [List.set_cons_zero, List.set_cons_succ])
  (refine wpAnyH_ready (rs := [11]) (by kernel_rfl) (by simp) (.cons rfl (fun K hK => ?_) .nil))
  rw [if_pos (by kernel_rfl)]
  go_simp
  refine (CM.out _ hA1).mono ?_
  rintro e' X2 ⟨rfl, hA2⟩
  dsimp only
  refine hK.out _ _ (HS.out _ hA2) (fun hHeld => ?_)
  clear hK K
  (try simp only [Act.put, List.setIfInBounds_toArray, List.set_cons_zero, List.set_cons_succ])
  (refine held_take 12 20 (.string (WD ++ ⟨#[40]⟩ ++ metric ++ MS)) rfl rfl (by kernel_rfl) (by kernel_rfl) (by kernel_rfl) (fun _ _ _ h => h) (by kernel_rfl) ?_ (by assumption) ?_; (intro w hSw; clear hSw; go_simp; (try simp only [ByteArray.size_append]); omega); simp only [List.set_cons_zero, List.set_cons_succ])
  (refine held_take 13 21 (.string (WD ++ ⟨#[40]⟩ ++ metric ++ MS ++ ⟨#[91]⟩)) rfl rfl (by kernel_rfl) (by kernel_rfl) (by kernel_rfl) (fun _ _ _ h => h) (by kernel_rfl) ?_ (by assumption) ?_; (intro w hSw; clear hSw; go_simp; (try simp only [ByteArray.size_append]); omega); simp only [List.set_cons_zero, List.set_cons_succ])
  (refine wpAnyH_ready (rs := [16]) (by kernel_rfl) (by simp) (.cons rfl (fun K hK => ?_) .nil))
  rw [if_pos (by kernel_rfl)]
  go_simp
  refine (CD.out _ hA2).mono ?_
  rintro e' X3 ⟨rfl, hA3⟩
  dsimp only
  refine hK.out _ _ (HS.out _ hA3) (fun hHeld => ?_)
  clear hK K
  (try simp only [Act.put, List.setIfInBounds_toArray, List.set_cons_zero, List.set_cons_succ])
  (refine held_take 17 25 (.string (WD ++ ⟨#[40]⟩ ++ metric ++ MS ++ ⟨#[91]⟩ ++ DG)) rfl rfl (by kernel_rfl) (by kernel_rfl) (by kernel_rfl) (fun _ _ _ h => h) (by kernel_rfl) ?_ (by assumption) ?_; (intro w hSw; clear hSw; go_simp; (try simp only [ByteArray.size_append]); omega); simp only [List.set_cons_zero, List.set_cons_succ])
  (refine held_take 18 26 (.string (WD ++ ⟨#[40]⟩ ++ metric ++ MS ++ ⟨#[91]⟩ ++ DG ++ ⟨#[93, 41]⟩)) rfl rfl (by kernel_rfl) (by kernel_rfl) (by kernel_rfl) (fun _ _ _ h => h) (by kernel_rfl) ?_ (by assumption) ?_; (intro w hSw; clear hSw; go_simp; (try simp only [ByteArray.size_append]); omega); simp only [List.set_cons_zero, List.set_cons_succ])
  (refine held_take 19 2 ?_ rfl (by kernel_rfl) (by kernel_rfl) (by kernel_rfl) (by kernel_rfl) (fun _ _ _ h => h) (by kernel_rfl) ?_ (by assumption) ?_; rotate_left; (intro w hSw; clear hSw; go_simp); (try with_reducible rfl); simp only [List.set_cons_zero, List.set_cons_succ])
  refine wpAnyH_done (by kernel_rfl) ?_ _
  all_goals go_wp2
  all_goals go_ret
  all_goals exact ⟨ret_string (ba_of (by simp only [ba_add, ba_lit, hWDl, hMSl, hDGl]; rw [HX.out]; simp)), Hbw.out.trans (hA3.mono hs1)⟩

set_option maxRecDepth 100000 in
set_option maxHeartbeats 8000000 in
theorem rText_2 (fn op num span : Int) (metric : ByteArray) (mats : List Mat) (names : List ByteArray) (kids : List Ex) (ih : ∀ k ∈ kids, TextC k) : TextC (Ex.mk 2 fn op num metric mats span names kids) := by
  intro hv h64 cs n W he hn hl
  have hv1 := hv
  rw [Ex.flat_eq, List.all_cons, Bool.and_eq_true] at hv1
  have hrt : rightH (hasOf 2) kids.length fn op num metric mats span names = true := by have := hv1.1; simpa [rightB, kindOk, Ex.kind, Ex.fn, Ex.op, Ex.num, Ex.metric, Ex.mats, Ex.span, Ex.names, Ex.kids] using this
  rw [rightH_2] at hrt
  have HR := Lib.hid hrt; clear hrt
  have hkv : ∀ k ∈ kids, k.flat.all rightB = true := fun k hk => List.all_eq_true.2 fun x hx => List.all_eq_true.1 hv1.2 x (flats_iff.2 ⟨k, hk, hx⟩)
  have hk64 : ∀ k ∈ kids, k.num64 := fun k hk => h64.kid (e := Ex.mk 2 fn op num metric mats span names kids) hk
  have hn64 : -9223372036854775808 ≤ num ∧ num ≤ 9223372036854775807 := h64.self (e := Ex.mk 2 fn op num metric mats span names kids)
  obtain ⟨pm, cm, pn, cn, pk, ck, hcs, hes, hma, hna, hka⟩ := he.cellsE
  simp only [Ex.kind, Ex.fn, Ex.op, Ex.num, Ex.metric, Ex.mats, Ex.span, Ex.names, Ex.kids] at hcs hes hma hna hka
  subst hcs
  rw [exT_eq] at hl ⊢
  simp only [Ex.kind, Ex.fn, Ex.op, Ex.num, Ex.metric, Ex.mats, Ex.span, Ex.names, Ex.kids] at hl ⊢
  have HV := Lib.hid hkv; clear hkv hv hv1 h64
  have HK64 := Lib.hid hk64; clear hk64
  have Hih := Lib.hid ih; clear ih
  have HL := Lib.hid hl; clear hl
  have He := Lib.hid he; clear he
  have HNa := Lib.hid hna; clear hna
  have HMa := Lib.hid hma; clear hma
  have HN64 := Lib.hid hn64; clear hn64
  have hj0 : 0 < kids.length := by have := HR.out.1; omega
  obtain ⟨kb0, ko0, km0, kc0, kn0, kd0, kk0, ke0, hpk0, hbn0, hei0, y00, y01, y02, y03, y04, y05, y06, y07, y08⟩ := hka.getE (Cells.refl _ _) hj0
  subst hpk0
  have Hei0 := Lib.hid hei0; clear hei0
  clear hka
  go_enter Tryd.func30, Tryd.ntmps30; (try simp only [List.append_eq, List.cons_append, List.nil_append])
  go_upto_region 1 with fail
  have hblk := Blk.new W [.int .i64 2, .int .i64 fn, .int .i64 op, .int .i64 num, .string metric, .slice pm mats.length cm, .int .i64 span, .slice pn names.length cn, .slice (some ⟨kb0, ko0, none⟩) kids.length ck] 26
  have hbw : Below W.heap.size W (W.alloc (.cells [.int .i64 2, .int .i64 fn, .int .i64 op, .int .i64 num, .string metric, .slice pm mats.length cm, .int .i64 span, .slice pn names.length cn, .slice (some ⟨kb0, ko0, none⟩) kids.length ck].toArray 26)) := (Below.refl _ _).alloc (Nat.le_refl _) _
  obtain ⟨W1, hW1⟩ : ∃ W1, W.alloc (.cells [.int .i64 2, .int .i64 fn, .int .i64 op, .int .i64 num, .string metric, .slice pm mats.length cm, .int .i64 span, .slice pn names.length cn, .slice (some ⟨kb0, ko0, none⟩) kids.length ck].toArray 26) = W1 := ⟨_, rfl⟩
  rw [hW1] at hblk hbw
  have hW1' : W.alloc (.cells #[.int .i64 2, .int .i64 fn, .int .i64 op, .int .i64 num, .string metric, .slice pm mats.length cm, .int .i64 span, .slice pn names.length cn, .slice (some ⟨kb0, ko0, none⟩) kids.length ck] 26) = W1 := hW1
  rw [hW1']
  clear hW1 hW1'
  have hs1 := hbw.size
  have Hbw := Lib.hid hbw; clear hbw
  have HQ := Lib.hid hblk; clear hblk
  have HS := Lib.hid (fun (X : World) (h : Below W1.heap.size W1 X) => show X.cell? ⟨W.heap.size, 0, none⟩ = some (.int .i64 2) ∧ X.cell? ⟨W.heap.size, 1, none⟩ = some (.int .i64 fn) ∧ X.cell? ⟨W.heap.size, 2, none⟩ = some (.int .i64 op) ∧ X.cell? ⟨W.heap.size, 3, none⟩ = some (.int .i64 num) ∧ X.cell? ⟨W.heap.size, 4, none⟩ = some (.string metric) ∧ X.cell? ⟨W.heap.size, 5, none⟩ = some (.slice pm mats.length cm) ∧ X.cell? ⟨W.heap.size, 6, none⟩ = some (.int .i64 span) ∧ X.cell? ⟨W.heap.size, 7, none⟩ = some (.slice pn names.length cn) ∧ X.cell? ⟨W.heap.size, 8, none⟩ = some (.slice (some ⟨kb0, ko0, none⟩) kids.length ck) ∧ X.cell? ⟨kb0, ko0, none⟩ = some (.int .i64 kids[0].kind) ∧ X.cell? ⟨kb0, ko0 + 1, none⟩ = some (.int .i64 kids[0].fn) ∧ X.cell? ⟨kb0, ko0 + 2, none⟩ = some (.int .i64 kids[0].op) ∧ X.cell? ⟨kb0, ko0 + 3, none⟩ = some (.int .i64 kids[0].num) ∧ X.cell? ⟨kb0, ko0 + 4, none⟩ = some (.string kids[0].metric) ∧ X.cell? ⟨kb0, ko0 + 5, none⟩ = some (.slice km0 kids[0].mats.length kc0) ∧ X.cell? ⟨kb0, ko0 + 6, none⟩ = some (.int .i64 kids[0].span) ∧ X.cell? ⟨kb0, ko0 + 7, none⟩ = some (.slice kn0 kids[0].names.length kd0) ∧ X.cell? ⟨kb0, ko0 + 8, none⟩ = some (.slice kk0 kids[0].kids.length ke0) from
    have q := HQ.out.mono h HQ.out.lt
    have r := Cells.of_below ((Hbw.out.trans (h.mono hs1)).mono hn)
    ⟨q.cell 0 _ rfl, q.cell 1 _ rfl, q.cell 2 _ rfl, q.cell 3 _ rfl, q.cell 4 _ rfl, q.cell 5 _ rfl, q.cell 6 _ rfl, q.cell 7 _ rfl, q.cell 8 _ rfl, r _ _ _ hbn0 (by simpa [Nat.add_assoc] using y00), r _ _ _ hbn0 (by simpa [Nat.add_assoc] using y01), r _ _ _ hbn0 (by simpa [Nat.add_assoc] using y02), r _ _ _ hbn0 (by simpa [Nat.add_assoc] using y03), r _ _ _ hbn0 (by simpa [Nat.add_assoc] using y04), r _ _ _ hbn0 (by simpa [Nat.add_assoc] using y05), r _ _ _ hbn0 (by simpa [Nat.add_assoc] using y06), r _ _ _ hbn0 (by simpa [Nat.add_assoc] using y07), r _ _ _ hbn0 (by simpa [Nat.add_assoc] using y08)⟩)
  clear y00 y01 y02 y03 y04 y05 y06 y07 y08
  have hX := Below.refl W1.heap.size W1
  have HX : Hid (nodeT 2 fn op num metric mats span names (exTs kids) = (wordL 2 fn ++ ([32, 98, 121, 32, 40] : List UInt8) ++ namesL names ++ ([41, 32, 40] : List UInt8) ++ exT kids[0] ++ ([41] : List UInt8))) := by show _ = _; rw [nodeT, exTs_getD kids 0 hj0]; simp
  have hl1 := HL.out
  rw [HX.out] at hl1
  simp only [List.length_append, List.length_cons, List.length_nil] at hl1
  obtain ⟨hkn, hfn, hop, hnum, hnam, -, hspan⟩ := HR.out
  have hnl := names_length hnam
  obtain ⟨WD, hWD⟩ : ∃ WD : ByteArray, (⟨(wordL 2 fn).toArray⟩ : ByteArray) = WD := ⟨_, rfl⟩
  have hWDs : WD.size ≤ 8 := by rw [← hWD, ba_litsize]; exact wordL_length 2 fn
  have hWDl : WD.data.toList = wordL 2 fn := by rw [← hWD]
  have CW := Lib.hid (fun (X : World) (h : Below W1.heap.size W1 X) => show Calls Tryd.prog 19 #[.int .i64 2, .int .i64 fn] X (fun e' w' => e' = .returned (.string WD) ∧ Below W1.heap.size W1 w') from
    (rWord 2 fn X).mono fun e' w' ⟨h1, h2⟩ => ⟨by rw [h1, hWD], h.trans (h2.mono h.size)⟩)
  obtain ⟨NM, hNM⟩ : ∃ NM : ByteArray, (⟨(40 :: namesL names ++ [41]).toArray⟩ : ByteArray) = NM := ⟨_, rfl⟩
  have hNMs : NM.size ≤ 300 := by rw [← hNM, ba_litsize]; simp; omega
  have hNMl : NM.data.toList = 40 :: namesL names ++ [41] := by rw [← hNM]
  have CN := Lib.hid (fun (X : World) (h : Below W1.heap.size W1 X) => show Calls Tryd.prog 55 #[.slice pn names.length cn] X (fun e' w' => e' = .returned (.string NM) ∧ Below W1.heap.size W1 w') from
    (rNames8 names _ n X (HNa.out.mono ((Hbw.out.trans (h.mono hs1)).mono hn) (Nat.le_refl n)) (by omega)).mono fun e' w' ⟨h1, h2⟩ => ⟨by rw [h1, hNM], h2 ▸ h⟩)
  obtain ⟨K0, hK0⟩ : ∃ K0 : ByteArray, (⟨(exT kids[0]).toArray⟩ : ByteArray) = K0 := ⟨_, rfl⟩
  have hK0s : K0.size ≤ 1000000 := by rw [← hK0, ba_litsize]; omega
  have hK0l : K0.data.toList = exT kids[0] := by rw [← hK0]
  have CK0 := Lib.hid (fun (X : World) (h : Below W1.heap.size W1 X) => show Calls Tryd.prog 30 #[.agg #[.int .i64 kids[0].kind, .int .i64 kids[0].fn, .int .i64 kids[0].op, .int .i64 kids[0].num, .string kids[0].metric, .slice km0 kids[0].mats.length kc0, .int .i64 kids[0].span, .slice kn0 kids[0].names.length kd0, .slice kk0 kids[0].kids.length ke0]] X (fun e' w' => e' = .returned (.string K0) ∧ Below W1.heap.size W1 w') from
    (Hih.out _ (List.getElem_mem hj0) (HV.out _ (List.getElem_mem hj0)) (HK64.out _ (List.getElem_mem hj0)) _ n X (Hei0.out.mono ((Hbw.out.trans (h.mono hs1)).mono hn) (Nat.le_refl _)) (Nat.le_trans hn (Nat.le_trans hs1 h.size)) (by omega)).mono fun e' w' ⟨h1, h2⟩ => ⟨by rw [h1, hK0], h.trans (h2.mono h.size)⟩)
  clear hkn hfn hop hnum hnam hspan hnl hl1 hWD hNM hK0
  have z0 := (HS.out _ hX).1
  go_upto_region 5 with fail
  clear z0
  refine wp_region_held_drew (S := (fun X => X.cell? ⟨W.heap.size, 0, none⟩ = some (.int .i64 2) ∧ X.cell? ⟨W.heap.size, 1, none⟩ = some (.int .i64 fn) ∧ X.cell? ⟨W.heap.size, 2, none⟩ = some (.int .i64 op) ∧ X.cell? ⟨W.heap.size, 3, none⟩ = some (.int .i64 num) ∧ X.cell? ⟨W.heap.size, 4, none⟩ = some (.string metric) ∧ X.cell? ⟨W.heap.size, 5, none⟩ = some (.slice pm mats.length cm) ∧ X.cell? ⟨W.heap.size, 6, none⟩ = some (.int .i64 span) ∧ X.cell? ⟨W.heap.size, 7, none⟩ = some (.slice pn names.length cn) ∧ X.cell? ⟨W.heap.size, 8, none⟩ = some (.slice (some ⟨kb0, ko0, none⟩) kids.length ck) ∧ X.cell? ⟨kb0, ko0, none⟩ = some (.int .i64 kids[0].kind) ∧ X.cell? ⟨kb0, ko0 + 1, none⟩ = some (.int .i64 kids[0].fn) ∧ X.cell? ⟨kb0, ko0 + 2, none⟩ = some (.int .i64 kids[0].op) ∧ X.cell? ⟨kb0, ko0 + 3, none⟩ = some (.int .i64 kids[0].num) ∧ X.cell? ⟨kb0, ko0 + 4, none⟩ = some (.string kids[0].metric) ∧ X.cell? ⟨kb0, ko0 + 5, none⟩ = some (.slice km0 kids[0].mats.length kc0) ∧ X.cell? ⟨kb0, ko0 + 6, none⟩ = some (.int .i64 kids[0].span) ∧ X.cell? ⟨kb0, ko0 + 7, none⟩ = some (.slice kn0 kids[0].names.length kd0) ∧ X.cell? ⟨kb0, ko0 + 8, none⟩ = some (.slice kk0 kids[0].kids.length ke0))) (by kernel_rfl) ?_ (fun hHeld => ?_)
  · exact HS.out _ (Below.drew hX)
  (refine held_take 0 29 ?_ rfl (by kernel_rfl) (by kernel_rfl) (by kernel_rfl) (by kernel_rfl) (fun _ _ _ h => h) (by kernel_rfl) ?_ (by assumption) ?_; rotate_left; (intro w hSw; clear hSw; go_simp); (try with_reducible rfl); simp only [List.set_cons_zero, List.set_cons_succ])
  (refine held_take 1 30 (.int .i64 2) rfl rfl (by kernel_rfl) (by kernel_rfl) (by kernel_rfl) (fun _ _ _ h => h) (by kernel_rfl) ?_ (by assumption) ?_; (intro w hSw; obtain ⟨q0, q1, q2, q3, q4, q5, q6, q7, q8, q9, q10, q11, q12, q13, q14, q15, q16, q17⟩ := hSw; go_simp); simp only [List.set_cons_zero, List.set_cons_succ])
  (refine held_take 2 31 ?_ rfl (by kernel_rfl) (by kernel_rfl) (by kernel_rfl) (by kernel_rfl) (fun _ _ _ h => h) (by kernel_rfl) ?_ (by assumption) ?_; rotate_left; (intro w hSw; clear hSw; go_simp); (try with_reducible rfl); simp only [List.set_cons_zero, List.set_cons_succ])
  (refine held_take 3 32 (.int .i64 fn) rfl rfl (by kernel_rfl) (by kernel_rfl) (by kernel_rfl) (fun _ _ _ h => h) (by kernel_rfl) ?_ (by assumption) ?_; (intro w hSw; obtain ⟨q0, q1, q2, q3, q4, q5, q6, q7, q8, q9, q10, q11, q12, q13, q14, q15, q16, q17⟩ := hSw; go_simp); simp only [List.set_cons_zero, List.set_cons_succ])
  (refine held_take 6 35 ?_ rfl (by kernel_rfl) (by kernel_rfl) (by kernel_rfl) (by kernel_rfl) (fun _ _ _ h => h) (by kernel_rfl) ?_ (by assumption) ?_; rotate_left; (intro w hSw; clear hSw; go_simp); (try with_reducible rfl); simp only [List.set_cons_zero, List.set_cons_succ])
  (refine held_take 7 36 (.slice pn names.length cn) rfl rfl (by kernel_rfl) (by kernel_rfl) (by kernel_rfl) (fun _ _ _ h => h) (by kernel_rfl) ?_ (by assumption) ?_; (intro w hSw; obtain ⟨q0, q1, q2, q3, q4, q5, q6, q7, q8, q9, q10, q11, q12, q13, q14, q15, q16, q17⟩ := hSw; go_simp); simp only [List.set_cons_zero, List.set_cons_succ])
  (refine held_take 11 40 ?_ rfl (by kernel_rfl) (by kernel_rfl) (by kernel_rfl) (by kernel_rfl) (fun _ _ _ h => h) (by kernel_rfl) ?_ (by assumption) ?_; rotate_left; (intro w hSw; clear hSw; go_simp); (try with_reducible rfl); simp only [List.set_cons_zero, List.set_cons_succ])
  (refine held_take 12 41 (.slice (some ⟨kb0, ko0, none⟩) kids.length ck) rfl rfl (by kernel_rfl) (by kernel_rfl) (by kernel_rfl) (fun _ _ _ h => h) (by kernel_rfl) ?_ (by assumption) ?_; (intro w hSw; obtain ⟨q0, q1, q2, q3, q4, q5, q6, q7, q8, q9, q10, q11, q12, q13, q14, q15, q16, q17⟩ := hSw; go_simp); simp only [List.set_cons_zero, List.set_cons_succ])
  (refine held_take 13 42 ?_ rfl (by kernel_rfl) (by kernel_rfl) (by kernel_rfl) (by kernel_rfl) (fun _ _ _ h => h) (by kernel_rfl) ?_ (by assumption) ?_; rotate_left; (intro w hSw; clear hSw; go_simp); (try with_reducible rfl); simp only [List.set_cons_zero, List.set_cons_succ])
  (refine held_take 14 43 (.agg #[.int .i64 kids[0].kind, .int .i64 kids[0].fn, .int .i64 kids[0].op, .int .i64 kids[0].num, .string kids[0].metric, .slice km0 kids[0].mats.length kc0, .int .i64 kids[0].span, .slice kn0 kids[0].names.length kd0, .slice kk0 kids[0].kids.length ke0]) rfl rfl (by kernel_rfl) (by kernel_rfl) (by kernel_rfl) (fun _ _ _ h => h) (by kernel_rfl) ?_ (by assumption) ?_; (intro w hSw; obtain ⟨q0, q1, q2, q3, q4, q5, q6, q7, q8, q9, q10, q11, q12, q13, q14, q15, q16, q17⟩ := hSw; go_simp); simp only [List.set_cons_zero, List.set_cons_succ])
  (refine wpAnyH_ready (rs := [4]) (by kernel_rfl) (by simp) (.cons rfl (fun K hK => ?_) .nil))
  rw [if_pos (by kernel_rfl)]
  go_simp
  refine (CW.out _ (Below.drew hX)).mono ?_
  rintro e' X1 ⟨rfl, hA1⟩
  dsimp only
  refine hK.out _ _ (HS.out _ hA1) (fun hHeld => ?_)
  clear hK K
  (try simp only [Act.put, List.setIfInBounds_toArray, List.set_cons_zero, List.set_cons_succ])
  (refine held_take 5 34 (.string (WD ++ ⟨#[32, 98, 121, 32]⟩)) rfl rfl (by kernel_rfl) (by kernel_rfl) (by kernel_rfl) (fun _ _ _ h => h) (by kernel_rfl) ?_ (by assumption) ?_; (intro w hSw; clear hSw; go_simp; (try simp only [ByteArray.size_append]); omega); simp only [List.set_cons_zero, List.set_cons_succ])
  (refine wpAnyH_ready (rs := [8]) (by kernel_rfl) (by simp) (.cons rfl (fun K hK => ?_) .nil))
  rw [if_pos (by kernel_rfl)]
  go_simp
  refine (CN.out _ hA1).mono ?_
  rintro e' X2 ⟨rfl, hA2⟩
  dsimp only
  refine hK.out _ _ (HS.out _ hA2) (fun hHeld => ?_)
  clear hK K
  (try simp only [Act.put, List.setIfInBounds_toArray, List.set_cons_zero, List.set_cons_succ])
  (refine held_take 9 38 (.string (WD ++ ⟨#[32, 98, 121, 32]⟩ ++ NM)) rfl rfl (by kernel_rfl) (by kernel_rfl) (by kernel_rfl) (fun _ _ _ h => h) (by kernel_rfl) ?_ (by assumption) ?_; (intro w hSw; clear hSw; go_simp; (try simp only [ByteArray.size_append]); omega); simp only [List.set_cons_zero, List.set_cons_succ])
  (refine held_take 10 39 (.string (WD ++ ⟨#[32, 98, 121, 32]⟩ ++ NM ++ ⟨#[32, 40]⟩)) rfl rfl (by kernel_rfl) (by kernel_rfl) (by kernel_rfl) (fun _ _ _ h => h) (by kernel_rfl) ?_ (by assumption) ?_; (intro w hSw; clear hSw; go_simp; (try simp only [ByteArray.size_append]); omega); simp only [List.set_cons_zero, List.set_cons_succ])
  (refine wpAnyH_ready (rs := [15]) (by kernel_rfl) (by simp) (.cons rfl (fun K hK => ?_) .nil))
  rw [if_pos (by kernel_rfl)]
  go_simp
  refine (CK0.out _ hA2).mono ?_
  rintro e' X3 ⟨rfl, hA3⟩
  dsimp only
  refine hK.out _ _ (HS.out _ hA3) (fun hHeld => ?_)
  clear hK K
  (try simp only [Act.put, List.setIfInBounds_toArray, List.set_cons_zero, List.set_cons_succ])
  (refine held_take 16 45 (.string (WD ++ ⟨#[32, 98, 121, 32]⟩ ++ NM ++ ⟨#[32, 40]⟩ ++ K0)) rfl rfl (by kernel_rfl) (by kernel_rfl) (by kernel_rfl) (fun _ _ _ h => h) (by kernel_rfl) ?_ (by assumption) ?_; (intro w hSw; clear hSw; go_simp; (try simp only [ByteArray.size_append]); omega); simp only [List.set_cons_zero, List.set_cons_succ])
  (refine held_take 17 46 (.string (WD ++ ⟨#[32, 98, 121, 32]⟩ ++ NM ++ ⟨#[32, 40]⟩ ++ K0 ++ ⟨#[41]⟩)) rfl rfl (by kernel_rfl) (by kernel_rfl) (by kernel_rfl) (fun _ _ _ h => h) (by kernel_rfl) ?_ (by assumption) ?_; (intro w hSw; clear hSw; go_simp; (try simp only [ByteArray.size_append]); omega); simp only [List.set_cons_zero, List.set_cons_succ])
  (refine held_take 18 2 ?_ rfl (by kernel_rfl) (by kernel_rfl) (by kernel_rfl) (by kernel_rfl) (fun _ _ _ h => h) (by kernel_rfl) ?_ (by assumption) ?_; rotate_left; (intro w hSw; clear hSw; go_simp); (try with_reducible rfl); simp only [List.set_cons_zero, List.set_cons_succ])
  refine wpAnyH_done (by kernel_rfl) ?_ _
  all_goals go_wp2
  all_goals go_ret
  all_goals exact ⟨ret_string (ba_of (by simp only [ba_add, ba_lit, hWDl, hNMl, hK0l]; rw [HX.out]; simp)), Hbw.out.trans (hA3.mono hs1)⟩

set_option maxRecDepth 100000 in
set_option maxHeartbeats 8000000 in
theorem rText_3 (fn op num span : Int) (metric : ByteArray) (mats : List Mat) (names : List ByteArray) (kids : List Ex) (ih : ∀ k ∈ kids, TextC k) : TextC (Ex.mk 3 fn op num metric mats span names kids) := by
  intro hv h64 cs n W he hn hl
  have hv1 := hv
  rw [Ex.flat_eq, List.all_cons, Bool.and_eq_true] at hv1
  have hrt : rightH (hasOf 3) kids.length fn op num metric mats span names = true := by have := hv1.1; simpa [rightB, kindOk, Ex.kind, Ex.fn, Ex.op, Ex.num, Ex.metric, Ex.mats, Ex.span, Ex.names, Ex.kids] using this
  rw [rightH_3] at hrt
  have HR := Lib.hid hrt; clear hrt
  have hkv : ∀ k ∈ kids, k.flat.all rightB = true := fun k hk => List.all_eq_true.2 fun x hx => List.all_eq_true.1 hv1.2 x (flats_iff.2 ⟨k, hk, hx⟩)
  have hk64 : ∀ k ∈ kids, k.num64 := fun k hk => h64.kid (e := Ex.mk 3 fn op num metric mats span names kids) hk
  have hn64 : -9223372036854775808 ≤ num ∧ num ≤ 9223372036854775807 := h64.self (e := Ex.mk 3 fn op num metric mats span names kids)
  obtain ⟨pm, cm, pn, cn, pk, ck, hcs, hes, hma, hna, hka⟩ := he.cellsE
  simp only [Ex.kind, Ex.fn, Ex.op, Ex.num, Ex.metric, Ex.mats, Ex.span, Ex.names, Ex.kids] at hcs hes hma hna hka
  subst hcs
  rw [exT_eq] at hl ⊢
  simp only [Ex.kind, Ex.fn, Ex.op, Ex.num, Ex.metric, Ex.mats, Ex.span, Ex.names, Ex.kids] at hl ⊢
  have HV := Lib.hid hkv; clear hkv hv hv1 h64
  have HK64 := Lib.hid hk64; clear hk64
  have Hih := Lib.hid ih; clear ih
  have HL := Lib.hid hl; clear hl
  have He := Lib.hid he; clear he
  have HNa := Lib.hid hna; clear hna
  have HMa := Lib.hid hma; clear hma
  have HN64 := Lib.hid hn64; clear hn64
  have hj0 : 0 < kids.length := by have := HR.out.1; omega
  obtain ⟨kb0, ko0, km0, kc0, kn0, kd0, kk0, ke0, hpk0, hbn0, hei0, y00, y01, y02, y03, y04, y05, y06, y07, y08⟩ := hka.getE (Cells.refl _ _) hj0
  subst hpk0
  have Hei0 := Lib.hid hei0; clear hei0
  have hj1 : 1 < kids.length := by have := HR.out.1; omega
  obtain ⟨kb1, ko1, km1, kc1, kn1, kd1, kk1, ke1, hpk1, hbn1, hei1, y10, y11, y12, y13, y14, y15, y16, y17, y18⟩ := hka.getE (Cells.refl _ _) hj1
  cases hpk1
  have Hei1 := Lib.hid hei1; clear hei1
  clear hka
  go_enter Tryd.func30, Tryd.ntmps30; (try simp only [List.append_eq, List.cons_append, List.nil_append])
  go_upto_region 1 with fail
  have hblk := Blk.new W [.int .i64 3, .int .i64 fn, .int .i64 op, .int .i64 num, .string metric, .slice pm mats.length cm, .int .i64 span, .slice pn names.length cn, .slice (some ⟨kb0, ko0, none⟩) kids.length ck] 26
  have hbw : Below W.heap.size W (W.alloc (.cells [.int .i64 3, .int .i64 fn, .int .i64 op, .int .i64 num, .string metric, .slice pm mats.length cm, .int .i64 span, .slice pn names.length cn, .slice (some ⟨kb0, ko0, none⟩) kids.length ck].toArray 26)) := (Below.refl _ _).alloc (Nat.le_refl _) _
  obtain ⟨W1, hW1⟩ : ∃ W1, W.alloc (.cells [.int .i64 3, .int .i64 fn, .int .i64 op, .int .i64 num, .string metric, .slice pm mats.length cm, .int .i64 span, .slice pn names.length cn, .slice (some ⟨kb0, ko0, none⟩) kids.length ck].toArray 26) = W1 := ⟨_, rfl⟩
  rw [hW1] at hblk hbw
  have hW1' : W.alloc (.cells #[.int .i64 3, .int .i64 fn, .int .i64 op, .int .i64 num, .string metric, .slice pm mats.length cm, .int .i64 span, .slice pn names.length cn, .slice (some ⟨kb0, ko0, none⟩) kids.length ck] 26) = W1 := hW1
  rw [hW1']
  clear hW1 hW1'
  have hs1 := hbw.size
  have Hbw := Lib.hid hbw; clear hbw
  have HQ := Lib.hid hblk; clear hblk
  have HS := Lib.hid (fun (X : World) (h : Below W1.heap.size W1 X) => show X.cell? ⟨W.heap.size, 0, none⟩ = some (.int .i64 3) ∧ X.cell? ⟨W.heap.size, 1, none⟩ = some (.int .i64 fn) ∧ X.cell? ⟨W.heap.size, 2, none⟩ = some (.int .i64 op) ∧ X.cell? ⟨W.heap.size, 3, none⟩ = some (.int .i64 num) ∧ X.cell? ⟨W.heap.size, 4, none⟩ = some (.string metric) ∧ X.cell? ⟨W.heap.size, 5, none⟩ = some (.slice pm mats.length cm) ∧ X.cell? ⟨W.heap.size, 6, none⟩ = some (.int .i64 span) ∧ X.cell? ⟨W.heap.size, 7, none⟩ = some (.slice pn names.length cn) ∧ X.cell? ⟨W.heap.size, 8, none⟩ = some (.slice (some ⟨kb0, ko0, none⟩) kids.length ck) ∧ X.cell? ⟨kb0, ko0, none⟩ = some (.int .i64 kids[0].kind) ∧ X.cell? ⟨kb0, ko0 + 1, none⟩ = some (.int .i64 kids[0].fn) ∧ X.cell? ⟨kb0, ko0 + 2, none⟩ = some (.int .i64 kids[0].op) ∧ X.cell? ⟨kb0, ko0 + 3, none⟩ = some (.int .i64 kids[0].num) ∧ X.cell? ⟨kb0, ko0 + 4, none⟩ = some (.string kids[0].metric) ∧ X.cell? ⟨kb0, ko0 + 5, none⟩ = some (.slice km0 kids[0].mats.length kc0) ∧ X.cell? ⟨kb0, ko0 + 6, none⟩ = some (.int .i64 kids[0].span) ∧ X.cell? ⟨kb0, ko0 + 7, none⟩ = some (.slice kn0 kids[0].names.length kd0) ∧ X.cell? ⟨kb0, ko0 + 8, none⟩ = some (.slice kk0 kids[0].kids.length ke0) ∧ X.cell? ⟨kb0, ko0 + 9, none⟩ = some (.int .i64 kids[1].kind) ∧ X.cell? ⟨kb0, ko0 + 10, none⟩ = some (.int .i64 kids[1].fn) ∧ X.cell? ⟨kb0, ko0 + 11, none⟩ = some (.int .i64 kids[1].op) ∧ X.cell? ⟨kb0, ko0 + 12, none⟩ = some (.int .i64 kids[1].num) ∧ X.cell? ⟨kb0, ko0 + 13, none⟩ = some (.string kids[1].metric) ∧ X.cell? ⟨kb0, ko0 + 14, none⟩ = some (.slice km1 kids[1].mats.length kc1) ∧ X.cell? ⟨kb0, ko0 + 15, none⟩ = some (.int .i64 kids[1].span) ∧ X.cell? ⟨kb0, ko0 + 16, none⟩ = some (.slice kn1 kids[1].names.length kd1) ∧ X.cell? ⟨kb0, ko0 + 17, none⟩ = some (.slice kk1 kids[1].kids.length ke1) from
    have q := HQ.out.mono h HQ.out.lt
    have r := Cells.of_below ((Hbw.out.trans (h.mono hs1)).mono hn)
    ⟨q.cell 0 _ rfl, q.cell 1 _ rfl, q.cell 2 _ rfl, q.cell 3 _ rfl, q.cell 4 _ rfl, q.cell 5 _ rfl, q.cell 6 _ rfl, q.cell 7 _ rfl, q.cell 8 _ rfl, r _ _ _ hbn0 (by simpa [Nat.add_assoc] using y00), r _ _ _ hbn0 (by simpa [Nat.add_assoc] using y01), r _ _ _ hbn0 (by simpa [Nat.add_assoc] using y02), r _ _ _ hbn0 (by simpa [Nat.add_assoc] using y03), r _ _ _ hbn0 (by simpa [Nat.add_assoc] using y04), r _ _ _ hbn0 (by simpa [Nat.add_assoc] using y05), r _ _ _ hbn0 (by simpa [Nat.add_assoc] using y06), r _ _ _ hbn0 (by simpa [Nat.add_assoc] using y07), r _ _ _ hbn0 (by simpa [Nat.add_assoc] using y08), r _ _ _ hbn1 (by simpa [Nat.add_assoc] using y10), r _ _ _ hbn1 (by simpa [Nat.add_assoc] using y11), r _ _ _ hbn1 (by simpa [Nat.add_assoc] using y12), r _ _ _ hbn1 (by simpa [Nat.add_assoc] using y13), r _ _ _ hbn1 (by simpa [Nat.add_assoc] using y14), r _ _ _ hbn1 (by simpa [Nat.add_assoc] using y15), r _ _ _ hbn1 (by simpa [Nat.add_assoc] using y16), r _ _ _ hbn1 (by simpa [Nat.add_assoc] using y17), r _ _ _ hbn1 (by simpa [Nat.add_assoc] using y18)⟩)
  clear y00 y01 y02 y03 y04 y05 y06 y07 y08
  clear y10 y11 y12 y13 y14 y15 y16 y17 y18
  have hX := Below.refl W1.heap.size W1
  have HX : Hid (nodeT 3 fn op num metric mats span names (exTs kids) = (kidT (byI op) (strI kids[0].kind kids[0].op, exT kids[0]) ++ (([32] : List UInt8) ++ signL op ++ ([32] : List UInt8)) ++ onL names ++ kidT (byI op + 1) (strI kids[1].kind kids[1].op, exT kids[1]))) := by show _ = _; rw [nodeT, exTs_getD kids 0 hj0, exTs_getD kids 1 hj1]; simp [byI, strI]
  have hl1 := HL.out
  rw [HX.out] at hl1
  simp only [List.length_append, List.length_cons, List.length_nil] at hl1
  obtain ⟨hkn, hfn, hop, hnum, hnam, -, hspan⟩ := HR.out
  have hnl := names_length hnam
  have hby : byI op = strI 3 op ∧ byI op = strI 4 op ∧ 1 ≤ byI op ∧ byI op ≤ 2 := by unfold byI strI; simp; split <;> simp
  obtain ⟨hby3, hby4, hby1, hby2⟩ := hby
  have CB := Lib.hid (fun (X : World) => rBy op X)
  obtain ⟨K0, hK0⟩ : ∃ K0 : ByteArray, (⟨(kidT (byI op) (strI kids[0].kind kids[0].op, exT kids[0])).toArray⟩ : ByteArray) = K0 := ⟨_, rfl⟩
  have hK0s : K0.size ≤ 1000000 := by rw [← hK0, ba_litsize]; omega
  have hK0l : K0.data.toList = kidT (byI op) (strI kids[0].kind kids[0].op, exT kids[0]) := by rw [← hK0]
  have CK0 := Lib.hid (fun (X : World) (h : Below W1.heap.size W1 X) => show Calls Tryd.prog 56 #[.agg #[.int .i64 kids[0].kind, .int .i64 kids[0].fn, .int .i64 kids[0].op, .int .i64 kids[0].num, .string kids[0].metric, .slice km0 kids[0].mats.length kc0, .int .i64 kids[0].span, .slice kn0 kids[0].names.length kd0, .slice kk0 kids[0].kids.length ke0], .int .i64 (byI op)] X (fun e' w' => e' = .returned (.string K0) ∧ Below W1.heap.size W1 w') from
    (rKid kids[0] (Hih.out _ (List.getElem_mem hj0)) (HV.out _ (List.getElem_mem hj0)) (HK64.out _ (List.getElem_mem hj0)) (byI op) _ n X (Hei0.out.mono ((Hbw.out.trans (h.mono hs1)).mono hn) (Nat.le_refl _)) (Nat.le_trans hn (Nat.le_trans hs1 h.size)) (by have := kidT_ge (byI op) (strI kids[0].kind kids[0].op) (exT kids[0]); omega)).mono fun e' w' ⟨h1, h2⟩ => ⟨by rw [h1, hK0], h.trans (h2.mono h.size)⟩)
  obtain ⟨K1, hK1⟩ : ∃ K1 : ByteArray, (⟨(kidT (byI op + 1) (strI kids[1].kind kids[1].op, exT kids[1])).toArray⟩ : ByteArray) = K1 := ⟨_, rfl⟩
  have hK1s : K1.size ≤ 1000000 := by rw [← hK1, ba_litsize]; omega
  have hK1l : K1.data.toList = kidT (byI op + 1) (strI kids[1].kind kids[1].op, exT kids[1]) := by rw [← hK1]
  have CK1 := Lib.hid (fun (X : World) (h : Below W1.heap.size W1 X) => show Calls Tryd.prog 56 #[.agg #[.int .i64 kids[1].kind, .int .i64 kids[1].fn, .int .i64 kids[1].op, .int .i64 kids[1].num, .string kids[1].metric, .slice km1 kids[1].mats.length kc1, .int .i64 kids[1].span, .slice kn1 kids[1].names.length kd1, .slice kk1 kids[1].kids.length ke1], .int .i64 (byI op + 1)] X (fun e' w' => e' = .returned (.string K1) ∧ Below W1.heap.size W1 w') from
    (rKid kids[1] (Hih.out _ (List.getElem_mem hj1)) (HV.out _ (List.getElem_mem hj1)) (HK64.out _ (List.getElem_mem hj1)) (byI op + 1) _ n X (Hei1.out.mono ((Hbw.out.trans (h.mono hs1)).mono hn) (Nat.le_refl _)) (Nat.le_trans hn (Nat.le_trans hs1 h.size)) (by have := kidT_ge (byI op + 1) (strI kids[1].kind kids[1].op) (exT kids[1]); omega)).mono fun e' w' ⟨h1, h2⟩ => ⟨by rw [h1, hK1], h.trans (h2.mono h.size)⟩)
  obtain ⟨SG, hSG⟩ : ∃ SG : ByteArray, (⟨(signL op).toArray⟩ : ByteArray) = SG := ⟨_, rfl⟩
  have hSGs : SG.size ≤ 2 := by rw [← hSG, ba_litsize]; exact signL_length op
  have hSGl : SG.data.toList = signL op := by rw [← hSG]
  have CSg := Lib.hid (fun (X : World) (h : Below W1.heap.size W1 X) => show Calls Tryd.prog 18 #[.int .i64 op] X (fun e' w' => e' = .returned (.string SG) ∧ Below W1.heap.size W1 w') from
    (rSign op X (by obtain ⟨_, _, hop, _⟩ := HR.out; omega)).mono fun e' w' ⟨h1, h2⟩ => ⟨by rw [h1, hSG], h.trans (h2.mono h.size)⟩)
  obtain ⟨NM, hNM⟩ : ∃ NM : ByteArray, (⟨(40 :: namesL names ++ [41]).toArray⟩ : ByteArray) = NM := ⟨_, rfl⟩
  have hNMs : NM.size ≤ 300 := by rw [← hNM, ba_litsize]; simp; omega
  have hNMl : NM.data.toList = 40 :: namesL names ++ [41] := by rw [← hNM]
  have CN := Lib.hid (fun (X : World) (h : Below W1.heap.size W1 X) => show Calls Tryd.prog 55 #[.slice pn names.length cn] X (fun e' w' => e' = .returned (.string NM) ∧ Below W1.heap.size W1 w') from
    (rNames8 names _ n X (HNa.out.mono ((Hbw.out.trans (h.mono hs1)).mono hn) (Nat.le_refl n)) (by omega)).mono fun e' w' ⟨h1, h2⟩ => ⟨by rw [h1, hNM], h2 ▸ h⟩)
  clear hkn hfn hop hnum hnam hspan hnl hl1 hK0 hK1 hSG hNM hby3 hby4
  have z0 := (HS.out _ hX).1
  go_upto_region 7 with fail
  clear z0
  refine wp_region_held_drew (S := (fun X => X.cell? ⟨W.heap.size, 0, none⟩ = some (.int .i64 3) ∧ X.cell? ⟨W.heap.size, 1, none⟩ = some (.int .i64 fn) ∧ X.cell? ⟨W.heap.size, 2, none⟩ = some (.int .i64 op) ∧ X.cell? ⟨W.heap.size, 3, none⟩ = some (.int .i64 num) ∧ X.cell? ⟨W.heap.size, 4, none⟩ = some (.string metric) ∧ X.cell? ⟨W.heap.size, 5, none⟩ = some (.slice pm mats.length cm) ∧ X.cell? ⟨W.heap.size, 6, none⟩ = some (.int .i64 span) ∧ X.cell? ⟨W.heap.size, 7, none⟩ = some (.slice pn names.length cn) ∧ X.cell? ⟨W.heap.size, 8, none⟩ = some (.slice (some ⟨kb0, ko0, none⟩) kids.length ck) ∧ X.cell? ⟨kb0, ko0, none⟩ = some (.int .i64 kids[0].kind) ∧ X.cell? ⟨kb0, ko0 + 1, none⟩ = some (.int .i64 kids[0].fn) ∧ X.cell? ⟨kb0, ko0 + 2, none⟩ = some (.int .i64 kids[0].op) ∧ X.cell? ⟨kb0, ko0 + 3, none⟩ = some (.int .i64 kids[0].num) ∧ X.cell? ⟨kb0, ko0 + 4, none⟩ = some (.string kids[0].metric) ∧ X.cell? ⟨kb0, ko0 + 5, none⟩ = some (.slice km0 kids[0].mats.length kc0) ∧ X.cell? ⟨kb0, ko0 + 6, none⟩ = some (.int .i64 kids[0].span) ∧ X.cell? ⟨kb0, ko0 + 7, none⟩ = some (.slice kn0 kids[0].names.length kd0) ∧ X.cell? ⟨kb0, ko0 + 8, none⟩ = some (.slice kk0 kids[0].kids.length ke0) ∧ X.cell? ⟨kb0, ko0 + 9, none⟩ = some (.int .i64 kids[1].kind) ∧ X.cell? ⟨kb0, ko0 + 10, none⟩ = some (.int .i64 kids[1].fn) ∧ X.cell? ⟨kb0, ko0 + 11, none⟩ = some (.int .i64 kids[1].op) ∧ X.cell? ⟨kb0, ko0 + 12, none⟩ = some (.int .i64 kids[1].num) ∧ X.cell? ⟨kb0, ko0 + 13, none⟩ = some (.string kids[1].metric) ∧ X.cell? ⟨kb0, ko0 + 14, none⟩ = some (.slice km1 kids[1].mats.length kc1) ∧ X.cell? ⟨kb0, ko0 + 15, none⟩ = some (.int .i64 kids[1].span) ∧ X.cell? ⟨kb0, ko0 + 16, none⟩ = some (.slice kn1 kids[1].names.length kd1) ∧ X.cell? ⟨kb0, ko0 + 17, none⟩ = some (.slice kk1 kids[1].kids.length ke1))) (by kernel_rfl) ?_ (fun hHeld => ?_)
  · exact HS.out _ (Below.drew hX)
  (refine held_take 0 49 ?_ rfl (by kernel_rfl) (by kernel_rfl) (by kernel_rfl) (by kernel_rfl) (fun _ _ _ h => h) (by kernel_rfl) ?_ (by assumption) ?_; rotate_left; (intro w hSw; clear hSw; go_simp); (try with_reducible rfl); simp only [List.set_cons_zero, List.set_cons_succ])
  (refine held_take 1 50 (.slice (some ⟨kb0, ko0, none⟩) kids.length ck) rfl rfl (by kernel_rfl) (by kernel_rfl) (by kernel_rfl) (fun _ _ _ h => h) (by kernel_rfl) ?_ (by assumption) ?_; (intro w hSw; obtain ⟨q0, q1, q2, q3, q4, q5, q6, q7, q8, q9, q10, q11, q12, q13, q14, q15, q16, q17, q18, q19, q20, q21, q22, q23, q24, q25, q26⟩ := hSw; go_simp); simp only [List.set_cons_zero, List.set_cons_succ])
  (refine held_take 2 51 ?_ rfl (by kernel_rfl) (by kernel_rfl) (by kernel_rfl) (by kernel_rfl) (fun _ _ _ h => h) (by kernel_rfl) ?_ (by assumption) ?_; rotate_left; (intro w hSw; clear hSw; go_simp); (try with_reducible rfl); simp only [List.set_cons_zero, List.set_cons_succ])
  (refine held_take 3 52 (.agg #[.int .i64 kids[0].kind, .int .i64 kids[0].fn, .int .i64 kids[0].op, .int .i64 kids[0].num, .string kids[0].metric, .slice km0 kids[0].mats.length kc0, .int .i64 kids[0].span, .slice kn0 kids[0].names.length kd0, .slice kk0 kids[0].kids.length ke0]) rfl rfl (by kernel_rfl) (by kernel_rfl) (by kernel_rfl) (fun _ _ _ h => h) (by kernel_rfl) ?_ (by assumption) ?_; (intro w hSw; obtain ⟨q0, q1, q2, q3, q4, q5, q6, q7, q8, q9, q10, q11, q12, q13, q14, q15, q16, q17, q18, q19, q20, q21, q22, q23, q24, q25, q26⟩ := hSw; go_simp); simp only [List.set_cons_zero, List.set_cons_succ])
  (refine held_take 4 53 ?_ rfl (by kernel_rfl) (by kernel_rfl) (by kernel_rfl) (by kernel_rfl) (fun _ _ _ h => h) (by kernel_rfl) ?_ (by assumption) ?_; rotate_left; (intro w hSw; clear hSw; go_simp); (try with_reducible rfl); simp only [List.set_cons_zero, List.set_cons_succ])
  (refine held_take 5 54 (.int .i64 op) rfl rfl (by kernel_rfl) (by kernel_rfl) (by kernel_rfl) (fun _ _ _ h => h) (by kernel_rfl) ?_ (by assumption) ?_; (intro w hSw; obtain ⟨q0, q1, q2, q3, q4, q5, q6, q7, q8, q9, q10, q11, q12, q13, q14, q15, q16, q17, q18, q19, q20, q21, q22, q23, q24, q25, q26⟩ := hSw; go_simp); simp only [List.set_cons_zero, List.set_cons_succ])
  (refine held_take 9 58 ?_ rfl (by kernel_rfl) (by kernel_rfl) (by kernel_rfl) (by kernel_rfl) (fun _ _ _ h => h) (by kernel_rfl) ?_ (by assumption) ?_; rotate_left; (intro w hSw; clear hSw; go_simp); (try with_reducible rfl); simp only [List.set_cons_zero, List.set_cons_succ])
  (refine held_take 10 59 (.int .i64 op) rfl rfl (by kernel_rfl) (by kernel_rfl) (by kernel_rfl) (fun _ _ _ h => h) (by kernel_rfl) ?_ (by assumption) ?_; (intro w hSw; obtain ⟨q0, q1, q2, q3, q4, q5, q6, q7, q8, q9, q10, q11, q12, q13, q14, q15, q16, q17, q18, q19, q20, q21, q22, q23, q24, q25, q26⟩ := hSw; go_simp); simp only [List.set_cons_zero, List.set_cons_succ])
  (refine wpAnyH_ready (rs := [6]) (by kernel_rfl) (by simp) (.cons rfl (fun K hK => ?_) .nil))
  rw [if_pos (by kernel_rfl)]
  go_simp
  refine (CB.out _).mono ?_
  rintro e' Xb ⟨rfl, rfl⟩
  dsimp only
  refine hK.out _ _ (by assumption) (fun hHeld => ?_)
  clear hK K
  (try simp only [Act.put, List.setIfInBounds_toArray, List.set_cons_zero, List.set_cons_succ])
  (refine wpAnyH_ready (rs := [7]) (by kernel_rfl) (by simp) (.cons rfl (fun K hK => ?_) .nil))
  rw [if_pos (by kernel_rfl)]
  go_simp
  refine (CK0.out _ (Below.drew hX)).mono ?_
  rintro e' X1 ⟨rfl, hA1⟩
  dsimp only
  refine hK.out _ _ (HS.out _ hA1) (fun hHeld => ?_)
  clear hK K
  (try simp only [Act.put, List.setIfInBounds_toArray, List.set_cons_zero, List.set_cons_succ])
  (refine held_take 8 57 (.string (K0 ++ ⟨#[32]⟩)) rfl rfl (by kernel_rfl) (by kernel_rfl) (by kernel_rfl) (fun _ _ _ h => h) (by kernel_rfl) ?_ (by assumption) ?_; (intro w hSw; clear hSw; go_simp; (try simp only [ByteArray.size_append]); omega); simp only [List.set_cons_zero, List.set_cons_succ])
  (refine wpAnyH_ready (rs := [11]) (by kernel_rfl) (by simp) (.cons rfl (fun K hK => ?_) .nil))
  rw [if_pos (by kernel_rfl)]
  go_simp
  refine (CSg.out _ hA1).mono ?_
  rintro e' X2 ⟨rfl, hA2⟩
  dsimp only
  refine hK.out _ _ (HS.out _ hA2) (fun hHeld => ?_)
  clear hK K
  (try simp only [Act.put, List.setIfInBounds_toArray, List.set_cons_zero, List.set_cons_succ])
  (refine held_take 12 61 (.string (K0 ++ ⟨#[32]⟩ ++ SG)) rfl rfl (by kernel_rfl) (by kernel_rfl) (by kernel_rfl) (fun _ _ _ h => h) (by kernel_rfl) ?_ (by assumption) ?_; (intro w hSw; clear hSw; go_simp; (try simp only [ByteArray.size_append]); omega); simp only [List.set_cons_zero, List.set_cons_succ])
  (refine held_take 13 62 (.string (K0 ++ ⟨#[32]⟩ ++ SG ++ ⟨#[32]⟩)) rfl rfl (by kernel_rfl) (by kernel_rfl) (by kernel_rfl) (fun _ _ _ h => h) (by kernel_rfl) ?_ (by assumption) ?_; (intro w hSw; clear hSw; go_simp; (try simp only [ByteArray.size_append]); omega); simp only [List.set_cons_zero, List.set_cons_succ])
  (refine held_take 14 3 ?_ rfl (by kernel_rfl) (by kernel_rfl) (by kernel_rfl) (by kernel_rfl) (fun _ _ _ h => h) (by kernel_rfl) ?_ (by assumption) ?_; rotate_left; (intro w hSw; clear hSw; go_simp); (try with_reducible rfl); simp only [List.set_cons_zero, List.set_cons_succ])
  refine wpAnyH_done (by kernel_rfl) ?_ _
  all_goals
    obtain ⟨S4, hS4⟩ : ∃ S4, K0 ++ ⟨#[32]⟩ ++ SG ++ ⟨#[32]⟩ = S4 := ⟨_, rfl⟩
    have hS4s : S4.size ≤ 1000004 := by rw [← hS4]; simp only [ByteArray.size_append]; have a2 : (⟨#[32]⟩ : ByteArray).size = 1 := rfl; omega
    have hS4l : S4.data.toList = K0.data.toList ++ [32] ++ SG.data.toList ++ [32] := by rw [← hS4]; simp only [ba_add]; try rfl
    rw [hS4]
    clear hS4
    obtain ⟨q0, q1, q2, q3, q4, q5, q6, q7, q8, -⟩ := HS.out _ hA2
  by_cases hne : names = []
  · have hnl : names.length = 0 := by rw [hne]; rfl
    have hol : onL names = [] := by unfold onL; rw [if_pos hne]
    rw [hnl] at q7
    rw [hol] at HX
    clear hne
    go_upto_region 10 with fail
    have hA3 := hA2
    have hS5l := hS4l
    have hS5s : S4.size ≤ 2000000 := by omega
    clear q0 q1 q2 q3 q4 q5 q6 q7 q8
    have hj1' : (1 : Int) < (kids.length : Int) := by omega
    refine wp_region_held_drew (S := (fun X => X.cell? ⟨W.heap.size, 0, none⟩ = some (.int .i64 3) ∧ X.cell? ⟨W.heap.size, 1, none⟩ = some (.int .i64 fn) ∧ X.cell? ⟨W.heap.size, 2, none⟩ = some (.int .i64 op) ∧ X.cell? ⟨W.heap.size, 3, none⟩ = some (.int .i64 num) ∧ X.cell? ⟨W.heap.size, 4, none⟩ = some (.string metric) ∧ X.cell? ⟨W.heap.size, 5, none⟩ = some (.slice pm mats.length cm) ∧ X.cell? ⟨W.heap.size, 6, none⟩ = some (.int .i64 span) ∧ X.cell? ⟨W.heap.size, 7, none⟩ = some (.slice pn names.length cn) ∧ X.cell? ⟨W.heap.size, 8, none⟩ = some (.slice (some ⟨kb0, ko0, none⟩) kids.length ck) ∧ X.cell? ⟨kb0, ko0, none⟩ = some (.int .i64 kids[0].kind) ∧ X.cell? ⟨kb0, ko0 + 1, none⟩ = some (.int .i64 kids[0].fn) ∧ X.cell? ⟨kb0, ko0 + 2, none⟩ = some (.int .i64 kids[0].op) ∧ X.cell? ⟨kb0, ko0 + 3, none⟩ = some (.int .i64 kids[0].num) ∧ X.cell? ⟨kb0, ko0 + 4, none⟩ = some (.string kids[0].metric) ∧ X.cell? ⟨kb0, ko0 + 5, none⟩ = some (.slice km0 kids[0].mats.length kc0) ∧ X.cell? ⟨kb0, ko0 + 6, none⟩ = some (.int .i64 kids[0].span) ∧ X.cell? ⟨kb0, ko0 + 7, none⟩ = some (.slice kn0 kids[0].names.length kd0) ∧ X.cell? ⟨kb0, ko0 + 8, none⟩ = some (.slice kk0 kids[0].kids.length ke0) ∧ X.cell? ⟨kb0, ko0 + 9, none⟩ = some (.int .i64 kids[1].kind) ∧ X.cell? ⟨kb0, ko0 + 10, none⟩ = some (.int .i64 kids[1].fn) ∧ X.cell? ⟨kb0, ko0 + 11, none⟩ = some (.int .i64 kids[1].op) ∧ X.cell? ⟨kb0, ko0 + 12, none⟩ = some (.int .i64 kids[1].num) ∧ X.cell? ⟨kb0, ko0 + 13, none⟩ = some (.string kids[1].metric) ∧ X.cell? ⟨kb0, ko0 + 14, none⟩ = some (.slice km1 kids[1].mats.length kc1) ∧ X.cell? ⟨kb0, ko0 + 15, none⟩ = some (.int .i64 kids[1].span) ∧ X.cell? ⟨kb0, ko0 + 16, none⟩ = some (.slice kn1 kids[1].names.length kd1) ∧ X.cell? ⟨kb0, ko0 + 17, none⟩ = some (.slice kk1 kids[1].kids.length ke1))) (by kernel_rfl) ?_ (fun hHeld => ?_)
    · exact HS.out _ (Below.drew hA3)
    (refine held_take 0 74 ?_ rfl (by kernel_rfl) (by kernel_rfl) (by kernel_rfl) (by kernel_rfl) (fun _ _ _ h => h) (by kernel_rfl) ?_ (by assumption) ?_; rotate_left; (intro w hSw; clear hSw; go_simp); (try with_reducible rfl); simp only [List.set_cons_zero, List.set_cons_succ])
    (refine held_take 1 75 ?_ rfl (by kernel_rfl) (by kernel_rfl) (by kernel_rfl) (by kernel_rfl) (fun _ _ _ h => h) (by kernel_rfl) ?_ (by assumption) ?_; rotate_left; (intro w hSw; clear hSw; go_simp); (try with_reducible rfl); simp only [List.set_cons_zero, List.set_cons_succ])
    (refine held_take 2 76 (.slice (some ⟨kb0, ko0, none⟩) kids.length ck) rfl rfl (by kernel_rfl) (by kernel_rfl) (by kernel_rfl) (fun _ _ _ h => h) (by kernel_rfl) ?_ (by assumption) ?_; (intro w hSw; obtain ⟨q0, q1, q2, q3, q4, q5, q6, q7, q8, q9, q10, q11, q12, q13, q14, q15, q16, q17, q18, q19, q20, q21, q22, q23, q24, q25, q26⟩ := hSw; go_simp); simp only [List.set_cons_zero, List.set_cons_succ])
    (refine held_take 3 77 (.pointer (some ⟨kb0, ko0 + 9, none⟩)) rfl rfl (by kernel_rfl) (by kernel_rfl) (by kernel_rfl) (fun _ _ _ h => h) (by kernel_rfl) ?_ (by assumption) ?_; (intro w hSw; clear hSw; go_simp; try first | exact IntWalk.i64_in _ (by omega) | omega); simp only [List.set_cons_zero, List.set_cons_succ])
    (refine held_take 4 78 (.agg #[.int .i64 kids[1].kind, .int .i64 kids[1].fn, .int .i64 kids[1].op, .int .i64 kids[1].num, .string kids[1].metric, .slice km1 kids[1].mats.length kc1, .int .i64 kids[1].span, .slice kn1 kids[1].names.length kd1, .slice kk1 kids[1].kids.length ke1]) rfl rfl (by kernel_rfl) (by kernel_rfl) (by kernel_rfl) (fun _ _ _ h => h) (by kernel_rfl) ?_ (by assumption) ?_; (intro w hSw; obtain ⟨q0, q1, q2, q3, q4, q5, q6, q7, q8, q9, q10, q11, q12, q13, q14, q15, q16, q17, q18, q19, q20, q21, q22, q23, q24, q25, q26⟩ := hSw; go_simp); simp only [List.set_cons_zero, List.set_cons_succ])
    (refine held_take 5 79 ?_ rfl (by kernel_rfl) (by kernel_rfl) (by kernel_rfl) (by kernel_rfl) (fun _ _ _ h => h) (by kernel_rfl) ?_ (by assumption) ?_; rotate_left; (intro w hSw; clear hSw; go_simp); (try with_reducible rfl); simp only [List.set_cons_zero, List.set_cons_succ])
    (refine held_take 6 80 (.int .i64 op) rfl rfl (by kernel_rfl) (by kernel_rfl) (by kernel_rfl) (fun _ _ _ h => h) (by kernel_rfl) ?_ (by assumption) ?_; (intro w hSw; obtain ⟨q0, q1, q2, q3, q4, q5, q6, q7, q8, q9, q10, q11, q12, q13, q14, q15, q16, q17, q18, q19, q20, q21, q22, q23, q24, q25, q26⟩ := hSw; go_simp); simp only [List.set_cons_zero, List.set_cons_succ])
    (refine wpAnyH_ready (rs := [7]) (by kernel_rfl) (by simp) (.cons rfl (fun K hK => ?_) .nil))
    rw [if_pos (by kernel_rfl)]
    go_simp
    refine (CB.out _).mono ?_
    rintro e' Xb ⟨rfl, rfl⟩
    dsimp only
    refine hK.out _ _ (by assumption) (fun hHeld => ?_)
    clear hK K
    (try simp only [Act.put, List.setIfInBounds_toArray, List.set_cons_zero, List.set_cons_succ])
    (refine held_take 8 82 (.int .i64 (byI op + 1)) rfl rfl (by kernel_rfl) (by kernel_rfl) (by kernel_rfl) (fun _ _ _ h => h) (by kernel_rfl) ?_ (by assumption) ?_; (intro w hSw; clear hSw; go_simp; try first | exact IntWalk.i64_in _ (by omega) | omega); simp only [List.set_cons_zero, List.set_cons_succ])
    (refine wpAnyH_ready (rs := [9]) (by kernel_rfl) (by simp) (.cons rfl (fun K hK => ?_) .nil))
    rw [if_pos (by kernel_rfl)]
    go_simp
    refine (CK1.out _ (Below.drew hA3)).mono ?_
    rintro e' X4 ⟨rfl, hA4⟩
    dsimp only
    refine hK.out _ _ (HS.out _ hA4) (fun hHeld => ?_)
    clear hK K
    (try simp only [Act.put, List.setIfInBounds_toArray, List.set_cons_zero, List.set_cons_succ])
    (refine held_take 10 84 (.string (S4 ++ K1)) rfl rfl (by kernel_rfl) (by kernel_rfl) (by kernel_rfl) (fun _ _ _ h => h) (by kernel_rfl) ?_ (by assumption) ?_; (intro w hSw; clear hSw; go_simp; (try simp only [ByteArray.size_append]); omega); simp only [List.set_cons_zero, List.set_cons_succ])
    (refine held_take 11 2 ?_ rfl (by kernel_rfl) (by kernel_rfl) (by kernel_rfl) (by kernel_rfl) (fun _ _ _ h => h) (by kernel_rfl) ?_ (by assumption) ?_; rotate_left; (intro w hSw; clear hSw; go_simp); (try with_reducible rfl); simp only [List.set_cons_zero, List.set_cons_succ])
    refine wpAnyH_done (by kernel_rfl) ?_ _
    all_goals go_wp2
    all_goals go_ret
    all_goals exact ⟨ret_string (ba_of (by simp only [ba_add, ba_lit, hK0l, hK1l, hSGl, hNMl, hS5l]; rw [HX.out]; simp)), Hbw.out.trans (hA4.mono hs1)⟩
  · have hnl : 0 < names.length := List.length_pos_iff.2 hne
    have hnl' : (0 : Int) < (names.length : Int) := by omega
    have hol : onL names = [111, 110, 32, 40] ++ namesL names ++ [41, 32] := by unfold onL; rw [if_neg hne]
    rw [hol] at HX
    clear hne
    have u1 : ¬ 9223372036854775807 < S4.size + 3 := by omega
    have u2 : ¬ 9223372036854775807 < S4.size + 3 + NM.size := by omega
    have u3 : ¬ 9223372036854775807 < S4.size + 3 + NM.size + 1 := by omega
    go_upto_region 10 with (go_at_call 55; refine (CN.out _ hA2).mono ?_; rintro e' X3 ⟨rfl, hA3⟩)
    obtain ⟨S5, hS5⟩ : ∃ S5, S4 ++ ⟨#[111, 110, 32]⟩ ++ NM ++ ⟨#[32]⟩ = S5 := ⟨_, rfl⟩
    have hS5s : S5.size ≤ 2000000 := by rw [← hS5]; simp only [ByteArray.size_append]; have a1 : (⟨#[111, 110, 32]⟩ : ByteArray).size = 3 := rfl; have a2 : (⟨#[32]⟩ : ByteArray).size = 1 := rfl; omega
    have hS5l : S5.data.toList = K0.data.toList ++ [32] ++ SG.data.toList ++ [32] ++ [111, 110, 32] ++ NM.data.toList ++ [32] := by rw [← hS5]; simp only [ba_add, hS4l]; try rfl
    rw [hS5]
    clear hS5 q0 q1 q2 q3 q4 q5 q6 q7 q8
    have hj1' : (1 : Int) < (kids.length : Int) := by omega
    refine wp_region_held_drew (S := (fun X => X.cell? ⟨W.heap.size, 0, none⟩ = some (.int .i64 3) ∧ X.cell? ⟨W.heap.size, 1, none⟩ = some (.int .i64 fn) ∧ X.cell? ⟨W.heap.size, 2, none⟩ = some (.int .i64 op) ∧ X.cell? ⟨W.heap.size, 3, none⟩ = some (.int .i64 num) ∧ X.cell? ⟨W.heap.size, 4, none⟩ = some (.string metric) ∧ X.cell? ⟨W.heap.size, 5, none⟩ = some (.slice pm mats.length cm) ∧ X.cell? ⟨W.heap.size, 6, none⟩ = some (.int .i64 span) ∧ X.cell? ⟨W.heap.size, 7, none⟩ = some (.slice pn names.length cn) ∧ X.cell? ⟨W.heap.size, 8, none⟩ = some (.slice (some ⟨kb0, ko0, none⟩) kids.length ck) ∧ X.cell? ⟨kb0, ko0, none⟩ = some (.int .i64 kids[0].kind) ∧ X.cell? ⟨kb0, ko0 + 1, none⟩ = some (.int .i64 kids[0].fn) ∧ X.cell? ⟨kb0, ko0 + 2, none⟩ = some (.int .i64 kids[0].op) ∧ X.cell? ⟨kb0, ko0 + 3, none⟩ = some (.int .i64 kids[0].num) ∧ X.cell? ⟨kb0, ko0 + 4, none⟩ = some (.string kids[0].metric) ∧ X.cell? ⟨kb0, ko0 + 5, none⟩ = some (.slice km0 kids[0].mats.length kc0) ∧ X.cell? ⟨kb0, ko0 + 6, none⟩ = some (.int .i64 kids[0].span) ∧ X.cell? ⟨kb0, ko0 + 7, none⟩ = some (.slice kn0 kids[0].names.length kd0) ∧ X.cell? ⟨kb0, ko0 + 8, none⟩ = some (.slice kk0 kids[0].kids.length ke0) ∧ X.cell? ⟨kb0, ko0 + 9, none⟩ = some (.int .i64 kids[1].kind) ∧ X.cell? ⟨kb0, ko0 + 10, none⟩ = some (.int .i64 kids[1].fn) ∧ X.cell? ⟨kb0, ko0 + 11, none⟩ = some (.int .i64 kids[1].op) ∧ X.cell? ⟨kb0, ko0 + 12, none⟩ = some (.int .i64 kids[1].num) ∧ X.cell? ⟨kb0, ko0 + 13, none⟩ = some (.string kids[1].metric) ∧ X.cell? ⟨kb0, ko0 + 14, none⟩ = some (.slice km1 kids[1].mats.length kc1) ∧ X.cell? ⟨kb0, ko0 + 15, none⟩ = some (.int .i64 kids[1].span) ∧ X.cell? ⟨kb0, ko0 + 16, none⟩ = some (.slice kn1 kids[1].names.length kd1) ∧ X.cell? ⟨kb0, ko0 + 17, none⟩ = some (.slice kk1 kids[1].kids.length ke1))) (by kernel_rfl) ?_ (fun hHeld => ?_)
    · exact HS.out _ (Below.drew hA3)
    (refine held_take 0 74 ?_ rfl (by kernel_rfl) (by kernel_rfl) (by kernel_rfl) (by kernel_rfl) (fun _ _ _ h => h) (by kernel_rfl) ?_ (by assumption) ?_; rotate_left; (intro w hSw; clear hSw; go_simp); (try with_reducible rfl); simp only [List.set_cons_zero, List.set_cons_succ])
    (refine held_take 1 75 ?_ rfl (by kernel_rfl) (by kernel_rfl) (by kernel_rfl) (by kernel_rfl) (fun _ _ _ h => h) (by kernel_rfl) ?_ (by assumption) ?_; rotate_left; (intro w hSw; clear hSw; go_simp); (try with_reducible rfl); simp only [List.set_cons_zero, List.set_cons_succ])
    (refine held_take 2 76 (.slice (some ⟨kb0, ko0, none⟩) kids.length ck) rfl rfl (by kernel_rfl) (by kernel_rfl) (by kernel_rfl) (fun _ _ _ h => h) (by kernel_rfl) ?_ (by assumption) ?_; (intro w hSw; obtain ⟨q0, q1, q2, q3, q4, q5, q6, q7, q8, q9, q10, q11, q12, q13, q14, q15, q16, q17, q18, q19, q20, q21, q22, q23, q24, q25, q26⟩ := hSw; go_simp); simp only [List.set_cons_zero, List.set_cons_succ])
    (refine held_take 3 77 (.pointer (some ⟨kb0, ko0 + 9, none⟩)) rfl rfl (by kernel_rfl) (by kernel_rfl) (by kernel_rfl) (fun _ _ _ h => h) (by kernel_rfl) ?_ (by assumption) ?_; (intro w hSw; clear hSw; go_simp; try first | exact IntWalk.i64_in _ (by omega) | omega); simp only [List.set_cons_zero, List.set_cons_succ])
    (refine held_take 4 78 (.agg #[.int .i64 kids[1].kind, .int .i64 kids[1].fn, .int .i64 kids[1].op, .int .i64 kids[1].num, .string kids[1].metric, .slice km1 kids[1].mats.length kc1, .int .i64 kids[1].span, .slice kn1 kids[1].names.length kd1, .slice kk1 kids[1].kids.length ke1]) rfl rfl (by kernel_rfl) (by kernel_rfl) (by kernel_rfl) (fun _ _ _ h => h) (by kernel_rfl) ?_ (by assumption) ?_; (intro w hSw; obtain ⟨q0, q1, q2, q3, q4, q5, q6, q7, q8, q9, q10, q11, q12, q13, q14, q15, q16, q17, q18, q19, q20, q21, q22, q23, q24, q25, q26⟩ := hSw; go_simp); simp only [List.set_cons_zero, List.set_cons_succ])
    (refine held_take 5 79 ?_ rfl (by kernel_rfl) (by kernel_rfl) (by kernel_rfl) (by kernel_rfl) (fun _ _ _ h => h) (by kernel_rfl) ?_ (by assumption) ?_; rotate_left; (intro w hSw; clear hSw; go_simp); (try with_reducible rfl); simp only [List.set_cons_zero, List.set_cons_succ])
    (refine held_take 6 80 (.int .i64 op) rfl rfl (by kernel_rfl) (by kernel_rfl) (by kernel_rfl) (fun _ _ _ h => h) (by kernel_rfl) ?_ (by assumption) ?_; (intro w hSw; obtain ⟨q0, q1, q2, q3, q4, q5, q6, q7, q8, q9, q10, q11, q12, q13, q14, q15, q16, q17, q18, q19, q20, q21, q22, q23, q24, q25, q26⟩ := hSw; go_simp); simp only [List.set_cons_zero, List.set_cons_succ])
    (refine wpAnyH_ready (rs := [7]) (by kernel_rfl) (by simp) (.cons rfl (fun K hK => ?_) .nil))
    rw [if_pos (by kernel_rfl)]
    go_simp
    refine (CB.out _).mono ?_
    rintro e' Xb ⟨rfl, rfl⟩
    dsimp only
    refine hK.out _ _ (by assumption) (fun hHeld => ?_)
    clear hK K
    (try simp only [Act.put, List.setIfInBounds_toArray, List.set_cons_zero, List.set_cons_succ])
    (refine held_take 8 82 (.int .i64 (byI op + 1)) rfl rfl (by kernel_rfl) (by kernel_rfl) (by kernel_rfl) (fun _ _ _ h => h) (by kernel_rfl) ?_ (by assumption) ?_; (intro w hSw; clear hSw; go_simp; try first | exact IntWalk.i64_in _ (by omega) | omega); simp only [List.set_cons_zero, List.set_cons_succ])
    (refine wpAnyH_ready (rs := [9]) (by kernel_rfl) (by simp) (.cons rfl (fun K hK => ?_) .nil))
    rw [if_pos (by kernel_rfl)]
    go_simp
    refine (CK1.out _ (Below.drew hA3)).mono ?_
    rintro e' X4 ⟨rfl, hA4⟩
    dsimp only
    refine hK.out _ _ (HS.out _ hA4) (fun hHeld => ?_)
    clear hK K
    (try simp only [Act.put, List.setIfInBounds_toArray, List.set_cons_zero, List.set_cons_succ])
    (refine held_take 10 84 (.string (S5 ++ K1)) rfl rfl (by kernel_rfl) (by kernel_rfl) (by kernel_rfl) (fun _ _ _ h => h) (by kernel_rfl) ?_ (by assumption) ?_; (intro w hSw; clear hSw; go_simp; (try simp only [ByteArray.size_append]); omega); simp only [List.set_cons_zero, List.set_cons_succ])
    (refine held_take 11 2 ?_ rfl (by kernel_rfl) (by kernel_rfl) (by kernel_rfl) (by kernel_rfl) (fun _ _ _ h => h) (by kernel_rfl) ?_ (by assumption) ?_; rotate_left; (intro w hSw; clear hSw; go_simp); (try with_reducible rfl); simp only [List.set_cons_zero, List.set_cons_succ])
    refine wpAnyH_done (by kernel_rfl) ?_ _
    all_goals go_wp2
    all_goals go_ret
    all_goals exact ⟨ret_string (ba_of (by simp only [ba_add, ba_lit, hK0l, hK1l, hSGl, hNMl, hS5l]; rw [HX.out]; simp)), Hbw.out.trans (hA4.mono hs1)⟩

set_option maxRecDepth 100000 in
set_option maxHeartbeats 8000000 in
theorem rText_4 (fn op num span : Int) (metric : ByteArray) (mats : List Mat) (names : List ByteArray) (kids : List Ex) (ih : ∀ k ∈ kids, TextC k) : TextC (Ex.mk 4 fn op num metric mats span names kids) := by
  intro hv h64 cs n W he hn hl
  have hv1 := hv
  rw [Ex.flat_eq, List.all_cons, Bool.and_eq_true] at hv1
  have hrt : rightH (hasOf 4) kids.length fn op num metric mats span names = true := by have := hv1.1; simpa [rightB, kindOk, Ex.kind, Ex.fn, Ex.op, Ex.num, Ex.metric, Ex.mats, Ex.span, Ex.names, Ex.kids] using this
  rw [rightH_4] at hrt
  have HR := Lib.hid hrt; clear hrt
  have hkv : ∀ k ∈ kids, k.flat.all rightB = true := fun k hk => List.all_eq_true.2 fun x hx => List.all_eq_true.1 hv1.2 x (flats_iff.2 ⟨k, hk, hx⟩)
  have hk64 : ∀ k ∈ kids, k.num64 := fun k hk => h64.kid (e := Ex.mk 4 fn op num metric mats span names kids) hk
  have hn64 : -9223372036854775808 ≤ num ∧ num ≤ 9223372036854775807 := h64.self (e := Ex.mk 4 fn op num metric mats span names kids)
  obtain ⟨pm, cm, pn, cn, pk, ck, hcs, hes, hma, hna, hka⟩ := he.cellsE
  simp only [Ex.kind, Ex.fn, Ex.op, Ex.num, Ex.metric, Ex.mats, Ex.span, Ex.names, Ex.kids] at hcs hes hma hna hka
  subst hcs
  rw [exT_eq] at hl ⊢
  simp only [Ex.kind, Ex.fn, Ex.op, Ex.num, Ex.metric, Ex.mats, Ex.span, Ex.names, Ex.kids] at hl ⊢
  have HV := Lib.hid hkv; clear hkv hv hv1 h64
  have HK64 := Lib.hid hk64; clear hk64
  have Hih := Lib.hid ih; clear ih
  have HL := Lib.hid hl; clear hl
  have He := Lib.hid he; clear he
  have HNa := Lib.hid hna; clear hna
  have HMa := Lib.hid hma; clear hma
  have HN64 := Lib.hid hn64; clear hn64
  have hj0 : 0 < kids.length := by have := HR.out.1; omega
  obtain ⟨kb0, ko0, km0, kc0, kn0, kd0, kk0, ke0, hpk0, hbn0, hei0, y00, y01, y02, y03, y04, y05, y06, y07, y08⟩ := hka.getE (Cells.refl _ _) hj0
  subst hpk0
  have Hei0 := Lib.hid hei0; clear hei0
  clear hka
  go_enter Tryd.func30, Tryd.ntmps30; (try simp only [List.append_eq, List.cons_append, List.nil_append])
  go_upto_region 1 with fail
  have hblk := Blk.new W [.int .i64 4, .int .i64 fn, .int .i64 op, .int .i64 num, .string metric, .slice pm mats.length cm, .int .i64 span, .slice pn names.length cn, .slice (some ⟨kb0, ko0, none⟩) kids.length ck] 26
  have hbw : Below W.heap.size W (W.alloc (.cells [.int .i64 4, .int .i64 fn, .int .i64 op, .int .i64 num, .string metric, .slice pm mats.length cm, .int .i64 span, .slice pn names.length cn, .slice (some ⟨kb0, ko0, none⟩) kids.length ck].toArray 26)) := (Below.refl _ _).alloc (Nat.le_refl _) _
  obtain ⟨W1, hW1⟩ : ∃ W1, W.alloc (.cells [.int .i64 4, .int .i64 fn, .int .i64 op, .int .i64 num, .string metric, .slice pm mats.length cm, .int .i64 span, .slice pn names.length cn, .slice (some ⟨kb0, ko0, none⟩) kids.length ck].toArray 26) = W1 := ⟨_, rfl⟩
  rw [hW1] at hblk hbw
  have hW1' : W.alloc (.cells #[.int .i64 4, .int .i64 fn, .int .i64 op, .int .i64 num, .string metric, .slice pm mats.length cm, .int .i64 span, .slice pn names.length cn, .slice (some ⟨kb0, ko0, none⟩) kids.length ck] 26) = W1 := hW1
  rw [hW1']
  clear hW1 hW1'
  have hs1 := hbw.size
  have Hbw := Lib.hid hbw; clear hbw
  have HQ := Lib.hid hblk; clear hblk
  have HS := Lib.hid (fun (X : World) (h : Below W1.heap.size W1 X) => show X.cell? ⟨W.heap.size, 0, none⟩ = some (.int .i64 4) ∧ X.cell? ⟨W.heap.size, 1, none⟩ = some (.int .i64 fn) ∧ X.cell? ⟨W.heap.size, 2, none⟩ = some (.int .i64 op) ∧ X.cell? ⟨W.heap.size, 3, none⟩ = some (.int .i64 num) ∧ X.cell? ⟨W.heap.size, 4, none⟩ = some (.string metric) ∧ X.cell? ⟨W.heap.size, 5, none⟩ = some (.slice pm mats.length cm) ∧ X.cell? ⟨W.heap.size, 6, none⟩ = some (.int .i64 span) ∧ X.cell? ⟨W.heap.size, 7, none⟩ = some (.slice pn names.length cn) ∧ X.cell? ⟨W.heap.size, 8, none⟩ = some (.slice (some ⟨kb0, ko0, none⟩) kids.length ck) ∧ X.cell? ⟨kb0, ko0, none⟩ = some (.int .i64 kids[0].kind) ∧ X.cell? ⟨kb0, ko0 + 1, none⟩ = some (.int .i64 kids[0].fn) ∧ X.cell? ⟨kb0, ko0 + 2, none⟩ = some (.int .i64 kids[0].op) ∧ X.cell? ⟨kb0, ko0 + 3, none⟩ = some (.int .i64 kids[0].num) ∧ X.cell? ⟨kb0, ko0 + 4, none⟩ = some (.string kids[0].metric) ∧ X.cell? ⟨kb0, ko0 + 5, none⟩ = some (.slice km0 kids[0].mats.length kc0) ∧ X.cell? ⟨kb0, ko0 + 6, none⟩ = some (.int .i64 kids[0].span) ∧ X.cell? ⟨kb0, ko0 + 7, none⟩ = some (.slice kn0 kids[0].names.length kd0) ∧ X.cell? ⟨kb0, ko0 + 8, none⟩ = some (.slice kk0 kids[0].kids.length ke0) from
    have q := HQ.out.mono h HQ.out.lt
    have r := Cells.of_below ((Hbw.out.trans (h.mono hs1)).mono hn)
    ⟨q.cell 0 _ rfl, q.cell 1 _ rfl, q.cell 2 _ rfl, q.cell 3 _ rfl, q.cell 4 _ rfl, q.cell 5 _ rfl, q.cell 6 _ rfl, q.cell 7 _ rfl, q.cell 8 _ rfl, r _ _ _ hbn0 (by simpa [Nat.add_assoc] using y00), r _ _ _ hbn0 (by simpa [Nat.add_assoc] using y01), r _ _ _ hbn0 (by simpa [Nat.add_assoc] using y02), r _ _ _ hbn0 (by simpa [Nat.add_assoc] using y03), r _ _ _ hbn0 (by simpa [Nat.add_assoc] using y04), r _ _ _ hbn0 (by simpa [Nat.add_assoc] using y05), r _ _ _ hbn0 (by simpa [Nat.add_assoc] using y06), r _ _ _ hbn0 (by simpa [Nat.add_assoc] using y07), r _ _ _ hbn0 (by simpa [Nat.add_assoc] using y08)⟩)
  clear y00 y01 y02 y03 y04 y05 y06 y07 y08
  have hX := Below.refl W1.heap.size W1
  have HX : Hid (nodeT 4 fn op num metric mats span names (exTs kids) = (kidT (byI op) (strI kids[0].kind kids[0].op, exT kids[0]) ++ ([32] ++ signL op ++ [32] ++ Lib.itoa num) : List UInt8)) := by show _ = _; rw [nodeT, exTs_getD kids 0 hj0]; simp [byI, strI]
  have hl1 := HL.out
  rw [HX.out] at hl1
  simp only [List.length_append, List.length_cons, List.length_nil] at hl1
  have hby : byI op = strI 3 op ∧ byI op = strI 4 op ∧ 1 ≤ byI op ∧ byI op ≤ 2 := by unfold byI strI; simp; split <;> simp
  obtain ⟨hby3, hby4, hby1, hby2⟩ := hby
  have CB := Lib.hid (fun (X : World) => rBy op X)
  obtain ⟨K0, hK0⟩ : ∃ K0 : ByteArray, (⟨(kidT (byI op) (strI kids[0].kind kids[0].op, exT kids[0])).toArray⟩ : ByteArray) = K0 := ⟨_, rfl⟩
  have hK0s : K0.size ≤ 1000000 := by rw [← hK0, ba_litsize]; omega
  have hK0l : K0.data.toList = kidT (byI op) (strI kids[0].kind kids[0].op, exT kids[0]) := by rw [← hK0]
  have CK0 := Lib.hid (fun (X : World) (h : Below W1.heap.size W1 X) => show Calls Tryd.prog 56 #[.agg #[.int .i64 kids[0].kind, .int .i64 kids[0].fn, .int .i64 kids[0].op, .int .i64 kids[0].num, .string kids[0].metric, .slice km0 kids[0].mats.length kc0, .int .i64 kids[0].span, .slice kn0 kids[0].names.length kd0, .slice kk0 kids[0].kids.length ke0], .int .i64 (byI op)] X (fun e' w' => e' = .returned (.string K0) ∧ Below W1.heap.size W1 w') from
    (rKid kids[0] (Hih.out _ (List.getElem_mem hj0)) (HV.out _ (List.getElem_mem hj0)) (HK64.out _ (List.getElem_mem hj0)) (byI op) _ n X (Hei0.out.mono ((Hbw.out.trans (h.mono hs1)).mono hn) (Nat.le_refl _)) (Nat.le_trans hn (Nat.le_trans hs1 h.size)) (by have := kidT_ge (byI op) (strI kids[0].kind kids[0].op) (exT kids[0]); omega)).mono fun e' w' ⟨h1, h2⟩ => ⟨by rw [h1, hK0], h.trans (h2.mono h.size)⟩)
  obtain ⟨SG, hSG⟩ : ∃ SG : ByteArray, (⟨(signL op).toArray⟩ : ByteArray) = SG := ⟨_, rfl⟩
  have hSGs : SG.size ≤ 2 := by rw [← hSG, ba_litsize]; exact signL_length op
  have hSGl : SG.data.toList = signL op := by rw [← hSG]
  have CSg := Lib.hid (fun (X : World) (h : Below W1.heap.size W1 X) => show Calls Tryd.prog 18 #[.int .i64 op] X (fun e' w' => e' = .returned (.string SG) ∧ Below W1.heap.size W1 w') from
    (rSign op X (by obtain ⟨_, _, hop, _⟩ := HR.out; omega)).mono fun e' w' ⟨h1, h2⟩ => ⟨by rw [h1, hSG], h.trans (h2.mono h.size)⟩)
  obtain ⟨DG, hDG⟩ : ∃ DG : ByteArray, (⟨(Lib.itoa num).toArray⟩ : ByteArray) = DG := ⟨_, rfl⟩
  have hDGs : DG.size ≤ 21 := by rw [← hDG, ba_litsize]; exact itoa_len num (HN64.out)
  have hDGl : DG.data.toList = Lib.itoa num := by rw [← hDG]
  have CD := Lib.hid (fun (X : World) (h : Below W1.heap.size W1 X) => show Calls Tryd.prog 33 #[.int .i64 num] X (fun e' w' => e' = .returned (.string DG) ∧ Below W1.heap.size W1 w') from
    (rDigits num X (HN64.out)).mono fun e' w' ⟨h1, h2⟩ => ⟨by rw [h1, hDG], h.trans (h2.mono h.size)⟩)
  clear hl1 hK0 hSG hDG
  have z0 := (HS.out _ hX).1
  go_upto_region 12 with fail
  clear z0
  refine wp_region_held_drew (S := (fun X => X.cell? ⟨W.heap.size, 0, none⟩ = some (.int .i64 4) ∧ X.cell? ⟨W.heap.size, 1, none⟩ = some (.int .i64 fn) ∧ X.cell? ⟨W.heap.size, 2, none⟩ = some (.int .i64 op) ∧ X.cell? ⟨W.heap.size, 3, none⟩ = some (.int .i64 num) ∧ X.cell? ⟨W.heap.size, 4, none⟩ = some (.string metric) ∧ X.cell? ⟨W.heap.size, 5, none⟩ = some (.slice pm mats.length cm) ∧ X.cell? ⟨W.heap.size, 6, none⟩ = some (.int .i64 span) ∧ X.cell? ⟨W.heap.size, 7, none⟩ = some (.slice pn names.length cn) ∧ X.cell? ⟨W.heap.size, 8, none⟩ = some (.slice (some ⟨kb0, ko0, none⟩) kids.length ck) ∧ X.cell? ⟨kb0, ko0, none⟩ = some (.int .i64 kids[0].kind) ∧ X.cell? ⟨kb0, ko0 + 1, none⟩ = some (.int .i64 kids[0].fn) ∧ X.cell? ⟨kb0, ko0 + 2, none⟩ = some (.int .i64 kids[0].op) ∧ X.cell? ⟨kb0, ko0 + 3, none⟩ = some (.int .i64 kids[0].num) ∧ X.cell? ⟨kb0, ko0 + 4, none⟩ = some (.string kids[0].metric) ∧ X.cell? ⟨kb0, ko0 + 5, none⟩ = some (.slice km0 kids[0].mats.length kc0) ∧ X.cell? ⟨kb0, ko0 + 6, none⟩ = some (.int .i64 kids[0].span) ∧ X.cell? ⟨kb0, ko0 + 7, none⟩ = some (.slice kn0 kids[0].names.length kd0) ∧ X.cell? ⟨kb0, ko0 + 8, none⟩ = some (.slice kk0 kids[0].kids.length ke0))) (by kernel_rfl) ?_ (fun hHeld => ?_)
  · exact HS.out _ (Below.drew hX)
  (refine held_take 0 87 ?_ rfl (by kernel_rfl) (by kernel_rfl) (by kernel_rfl) (by kernel_rfl) (fun _ _ _ h => h) (by kernel_rfl) ?_ (by assumption) ?_; rotate_left; (intro w hSw; clear hSw; go_simp); (try with_reducible rfl); simp only [List.set_cons_zero, List.set_cons_succ])
  (refine held_take 1 88 (.slice (some ⟨kb0, ko0, none⟩) kids.length ck) rfl rfl (by kernel_rfl) (by kernel_rfl) (by kernel_rfl) (fun _ _ _ h => h) (by kernel_rfl) ?_ (by assumption) ?_; (intro w hSw; obtain ⟨q0, q1, q2, q3, q4, q5, q6, q7, q8, q9, q10, q11, q12, q13, q14, q15, q16, q17⟩ := hSw; go_simp); simp only [List.set_cons_zero, List.set_cons_succ])
  (refine held_take 2 89 ?_ rfl (by kernel_rfl) (by kernel_rfl) (by kernel_rfl) (by kernel_rfl) (fun _ _ _ h => h) (by kernel_rfl) ?_ (by assumption) ?_; rotate_left; (intro w hSw; clear hSw; go_simp); (try with_reducible rfl); simp only [List.set_cons_zero, List.set_cons_succ])
  (refine held_take 3 90 (.agg #[.int .i64 kids[0].kind, .int .i64 kids[0].fn, .int .i64 kids[0].op, .int .i64 kids[0].num, .string kids[0].metric, .slice km0 kids[0].mats.length kc0, .int .i64 kids[0].span, .slice kn0 kids[0].names.length kd0, .slice kk0 kids[0].kids.length ke0]) rfl rfl (by kernel_rfl) (by kernel_rfl) (by kernel_rfl) (fun _ _ _ h => h) (by kernel_rfl) ?_ (by assumption) ?_; (intro w hSw; obtain ⟨q0, q1, q2, q3, q4, q5, q6, q7, q8, q9, q10, q11, q12, q13, q14, q15, q16, q17⟩ := hSw; go_simp); simp only [List.set_cons_zero, List.set_cons_succ])
  (refine held_take 4 91 ?_ rfl (by kernel_rfl) (by kernel_rfl) (by kernel_rfl) (by kernel_rfl) (fun _ _ _ h => h) (by kernel_rfl) ?_ (by assumption) ?_; rotate_left; (intro w hSw; clear hSw; go_simp); (try with_reducible rfl); simp only [List.set_cons_zero, List.set_cons_succ])
  (refine held_take 5 92 (.int .i64 op) rfl rfl (by kernel_rfl) (by kernel_rfl) (by kernel_rfl) (fun _ _ _ h => h) (by kernel_rfl) ?_ (by assumption) ?_; (intro w hSw; obtain ⟨q0, q1, q2, q3, q4, q5, q6, q7, q8, q9, q10, q11, q12, q13, q14, q15, q16, q17⟩ := hSw; go_simp); simp only [List.set_cons_zero, List.set_cons_succ])
  (refine held_take 9 96 ?_ rfl (by kernel_rfl) (by kernel_rfl) (by kernel_rfl) (by kernel_rfl) (fun _ _ _ h => h) (by kernel_rfl) ?_ (by assumption) ?_; rotate_left; (intro w hSw; clear hSw; go_simp); (try with_reducible rfl); simp only [List.set_cons_zero, List.set_cons_succ])
  (refine held_take 10 97 (.int .i64 op) rfl rfl (by kernel_rfl) (by kernel_rfl) (by kernel_rfl) (fun _ _ _ h => h) (by kernel_rfl) ?_ (by assumption) ?_; (intro w hSw; obtain ⟨q0, q1, q2, q3, q4, q5, q6, q7, q8, q9, q10, q11, q12, q13, q14, q15, q16, q17⟩ := hSw; go_simp); simp only [List.set_cons_zero, List.set_cons_succ])
  (refine held_take 14 101 ?_ rfl (by kernel_rfl) (by kernel_rfl) (by kernel_rfl) (by kernel_rfl) (fun _ _ _ h => h) (by kernel_rfl) ?_ (by assumption) ?_; rotate_left; (intro w hSw; clear hSw; go_simp); (try with_reducible rfl); simp only [List.set_cons_zero, List.set_cons_succ])
  (refine held_take 15 102 (.int .i64 num) rfl rfl (by kernel_rfl) (by kernel_rfl) (by kernel_rfl) (fun _ _ _ h => h) (by kernel_rfl) ?_ (by assumption) ?_; (intro w hSw; obtain ⟨q0, q1, q2, q3, q4, q5, q6, q7, q8, q9, q10, q11, q12, q13, q14, q15, q16, q17⟩ := hSw; go_simp); simp only [List.set_cons_zero, List.set_cons_succ])
  (refine wpAnyH_ready (rs := [6]) (by kernel_rfl) (by simp) (.cons rfl (fun K hK => ?_) .nil))
  rw [if_pos (by kernel_rfl)]
  go_simp
  refine (CB.out _).mono ?_
  rintro e' Xb ⟨rfl, rfl⟩
  dsimp only
  refine hK.out _ _ (by assumption) (fun hHeld => ?_)
  clear hK K
  (try simp only [Act.put, List.setIfInBounds_toArray, List.set_cons_zero, List.set_cons_succ])
  (refine wpAnyH_ready (rs := [7]) (by kernel_rfl) (by simp) (.cons rfl (fun K hK => ?_) .nil))
  rw [if_pos (by kernel_rfl)]
  go_simp
  refine (CK0.out _ (Below.drew hX)).mono ?_
  rintro e' X1 ⟨rfl, hA1⟩
  dsimp only
  refine hK.out _ _ (HS.out _ hA1) (fun hHeld => ?_)
  clear hK K
  (try simp only [Act.put, List.setIfInBounds_toArray, List.set_cons_zero, List.set_cons_succ])
  (refine held_take 8 95 (.string (K0 ++ ⟨#[32]⟩)) rfl rfl (by kernel_rfl) (by kernel_rfl) (by kernel_rfl) (fun _ _ _ h => h) (by kernel_rfl) ?_ (by assumption) ?_; (intro w hSw; clear hSw; go_simp; (try simp only [ByteArray.size_append]); omega); simp only [List.set_cons_zero, List.set_cons_succ])
  (refine wpAnyH_ready (rs := [11]) (by kernel_rfl) (by simp) (.cons rfl (fun K hK => ?_) .nil))
  rw [if_pos (by kernel_rfl)]
  go_simp
  refine (CSg.out _ hA1).mono ?_
  rintro e' X2 ⟨rfl, hA2⟩
  dsimp only
  refine hK.out _ _ (HS.out _ hA2) (fun hHeld => ?_)
  clear hK K
  (try simp only [Act.put, List.setIfInBounds_toArray, List.set_cons_zero, List.set_cons_succ])
  (refine held_take 12 99 (.string (K0 ++ ⟨#[32]⟩ ++ SG)) rfl rfl (by kernel_rfl) (by kernel_rfl) (by kernel_rfl) (fun _ _ _ h => h) (by kernel_rfl) ?_ (by assumption) ?_; (intro w hSw; clear hSw; go_simp; (try simp only [ByteArray.size_append]); omega); simp only [List.set_cons_zero, List.set_cons_succ])
  (refine held_take 13 100 (.string (K0 ++ ⟨#[32]⟩ ++ SG ++ ⟨#[32]⟩)) rfl rfl (by kernel_rfl) (by kernel_rfl) (by kernel_rfl) (fun _ _ _ h => h) (by kernel_rfl) ?_ (by assumption) ?_; (intro w hSw; clear hSw; go_simp; (try simp only [ByteArray.size_append]); omega); simp only [List.set_cons_zero, List.set_cons_succ])
  (refine wpAnyH_ready (rs := [16]) (by kernel_rfl) (by simp) (.cons rfl (fun K hK => ?_) .nil))
  rw [if_pos (by kernel_rfl)]
  go_simp
  refine (CD.out _ hA2).mono ?_
  rintro e' X3 ⟨rfl, hA3⟩
  dsimp only
  refine hK.out _ _ (HS.out _ hA3) (fun hHeld => ?_)
  clear hK K
  (try simp only [Act.put, List.setIfInBounds_toArray, List.set_cons_zero, List.set_cons_succ])
  (refine held_take 17 104 (.string (K0 ++ ⟨#[32]⟩ ++ SG ++ ⟨#[32]⟩ ++ DG)) rfl rfl (by kernel_rfl) (by kernel_rfl) (by kernel_rfl) (fun _ _ _ h => h) (by kernel_rfl) ?_ (by assumption) ?_; (intro w hSw; clear hSw; go_simp; (try simp only [ByteArray.size_append]); omega); simp only [List.set_cons_zero, List.set_cons_succ])
  (refine held_take 18 2 ?_ rfl (by kernel_rfl) (by kernel_rfl) (by kernel_rfl) (by kernel_rfl) (fun _ _ _ h => h) (by kernel_rfl) ?_ (by assumption) ?_; rotate_left; (intro w hSw; clear hSw; go_simp); (try with_reducible rfl); simp only [List.set_cons_zero, List.set_cons_succ])
  refine wpAnyH_done (by kernel_rfl) ?_ _
  all_goals go_wp2
  all_goals go_ret
  all_goals exact ⟨ret_string (ba_of (by simp only [ba_add, ba_lit, hK0l, hSGl, hDGl]; rw [HX.out]; simp)), Hbw.out.trans (hA3.mono hs1)⟩

set_option maxRecDepth 100000 in
set_option maxHeartbeats 8000000 in
theorem rText_5 (fn op num span : Int) (metric : ByteArray) (mats : List Mat) (names : List ByteArray) (kids : List Ex) (ih : ∀ k ∈ kids, TextC k) : TextC (Ex.mk 5 fn op num metric mats span names kids) := by
  intro hv h64 cs n W he hn hl
  have hv1 := hv
  rw [Ex.flat_eq, List.all_cons, Bool.and_eq_true] at hv1
  have hrt : rightH (hasOf 5) kids.length fn op num metric mats span names = true := by have := hv1.1; simpa [rightB, kindOk, Ex.kind, Ex.fn, Ex.op, Ex.num, Ex.metric, Ex.mats, Ex.span, Ex.names, Ex.kids] using this
  rw [rightH_5] at hrt
  have HR := Lib.hid hrt; clear hrt
  have hkv : ∀ k ∈ kids, k.flat.all rightB = true := fun k hk => List.all_eq_true.2 fun x hx => List.all_eq_true.1 hv1.2 x (flats_iff.2 ⟨k, hk, hx⟩)
  have hk64 : ∀ k ∈ kids, k.num64 := fun k hk => h64.kid (e := Ex.mk 5 fn op num metric mats span names kids) hk
  have hn64 : -9223372036854775808 ≤ num ∧ num ≤ 9223372036854775807 := h64.self (e := Ex.mk 5 fn op num metric mats span names kids)
  obtain ⟨pm, cm, pn, cn, pk, ck, hcs, hes, hma, hna, hka⟩ := he.cellsE
  simp only [Ex.kind, Ex.fn, Ex.op, Ex.num, Ex.metric, Ex.mats, Ex.span, Ex.names, Ex.kids] at hcs hes hma hna hka
  subst hcs
  rw [exT_eq] at hl ⊢
  simp only [Ex.kind, Ex.fn, Ex.op, Ex.num, Ex.metric, Ex.mats, Ex.span, Ex.names, Ex.kids] at hl ⊢
  have HV := Lib.hid hkv; clear hkv hv hv1 h64
  have HK64 := Lib.hid hk64; clear hk64
  have Hih := Lib.hid ih; clear ih
  have HL := Lib.hid hl; clear hl
  have He := Lib.hid he; clear he
  have HNa := Lib.hid hna; clear hna
  have HMa := Lib.hid hma; clear hma
  have HN64 := Lib.hid hn64; clear hn64
  have hj0 : 0 < kids.length := by have := HR.out.1; omega
  obtain ⟨kb0, ko0, km0, kc0, kn0, kd0, kk0, ke0, hpk0, hbn0, hei0, y00, y01, y02, y03, y04, y05, y06, y07, y08⟩ := hka.getE (Cells.refl _ _) hj0
  subst hpk0
  have Hei0 := Lib.hid hei0; clear hei0
  clear hka
  go_enter Tryd.func30, Tryd.ntmps30; (try simp only [List.append_eq, List.cons_append, List.nil_append])
  go_upto_region 1 with fail
  have hblk := Blk.new W [.int .i64 5, .int .i64 fn, .int .i64 op, .int .i64 num, .string metric, .slice pm mats.length cm, .int .i64 span, .slice pn names.length cn, .slice (some ⟨kb0, ko0, none⟩) kids.length ck] 26
  have hbw : Below W.heap.size W (W.alloc (.cells [.int .i64 5, .int .i64 fn, .int .i64 op, .int .i64 num, .string metric, .slice pm mats.length cm, .int .i64 span, .slice pn names.length cn, .slice (some ⟨kb0, ko0, none⟩) kids.length ck].toArray 26)) := (Below.refl _ _).alloc (Nat.le_refl _) _
  obtain ⟨W1, hW1⟩ : ∃ W1, W.alloc (.cells [.int .i64 5, .int .i64 fn, .int .i64 op, .int .i64 num, .string metric, .slice pm mats.length cm, .int .i64 span, .slice pn names.length cn, .slice (some ⟨kb0, ko0, none⟩) kids.length ck].toArray 26) = W1 := ⟨_, rfl⟩
  rw [hW1] at hblk hbw
  have hW1' : W.alloc (.cells #[.int .i64 5, .int .i64 fn, .int .i64 op, .int .i64 num, .string metric, .slice pm mats.length cm, .int .i64 span, .slice pn names.length cn, .slice (some ⟨kb0, ko0, none⟩) kids.length ck] 26) = W1 := hW1
  rw [hW1']
  clear hW1 hW1'
  have hs1 := hbw.size
  have Hbw := Lib.hid hbw; clear hbw
  have HQ := Lib.hid hblk; clear hblk
  have HS := Lib.hid (fun (X : World) (h : Below W1.heap.size W1 X) => show X.cell? ⟨W.heap.size, 0, none⟩ = some (.int .i64 5) ∧ X.cell? ⟨W.heap.size, 1, none⟩ = some (.int .i64 fn) ∧ X.cell? ⟨W.heap.size, 2, none⟩ = some (.int .i64 op) ∧ X.cell? ⟨W.heap.size, 3, none⟩ = some (.int .i64 num) ∧ X.cell? ⟨W.heap.size, 4, none⟩ = some (.string metric) ∧ X.cell? ⟨W.heap.size, 5, none⟩ = some (.slice pm mats.length cm) ∧ X.cell? ⟨W.heap.size, 6, none⟩ = some (.int .i64 span) ∧ X.cell? ⟨W.heap.size, 7, none⟩ = some (.slice pn names.length cn) ∧ X.cell? ⟨W.heap.size, 8, none⟩ = some (.slice (some ⟨kb0, ko0, none⟩) kids.length ck) ∧ X.cell? ⟨kb0, ko0, none⟩ = some (.int .i64 kids[0].kind) ∧ X.cell? ⟨kb0, ko0 + 1, none⟩ = some (.int .i64 kids[0].fn) ∧ X.cell? ⟨kb0, ko0 + 2, none⟩ = some (.int .i64 kids[0].op) ∧ X.cell? ⟨kb0, ko0 + 3, none⟩ = some (.int .i64 kids[0].num) ∧ X.cell? ⟨kb0, ko0 + 4, none⟩ = some (.string kids[0].metric) ∧ X.cell? ⟨kb0, ko0 + 5, none⟩ = some (.slice km0 kids[0].mats.length kc0) ∧ X.cell? ⟨kb0, ko0 + 6, none⟩ = some (.int .i64 kids[0].span) ∧ X.cell? ⟨kb0, ko0 + 7, none⟩ = some (.slice kn0 kids[0].names.length kd0) ∧ X.cell? ⟨kb0, ko0 + 8, none⟩ = some (.slice kk0 kids[0].kids.length ke0) from
    have q := HQ.out.mono h HQ.out.lt
    have r := Cells.of_below ((Hbw.out.trans (h.mono hs1)).mono hn)
    ⟨q.cell 0 _ rfl, q.cell 1 _ rfl, q.cell 2 _ rfl, q.cell 3 _ rfl, q.cell 4 _ rfl, q.cell 5 _ rfl, q.cell 6 _ rfl, q.cell 7 _ rfl, q.cell 8 _ rfl, r _ _ _ hbn0 (by simpa [Nat.add_assoc] using y00), r _ _ _ hbn0 (by simpa [Nat.add_assoc] using y01), r _ _ _ hbn0 (by simpa [Nat.add_assoc] using y02), r _ _ _ hbn0 (by simpa [Nat.add_assoc] using y03), r _ _ _ hbn0 (by simpa [Nat.add_assoc] using y04), r _ _ _ hbn0 (by simpa [Nat.add_assoc] using y05), r _ _ _ hbn0 (by simpa [Nat.add_assoc] using y06), r _ _ _ hbn0 (by simpa [Nat.add_assoc] using y07), r _ _ _ hbn0 (by simpa [Nat.add_assoc] using y08)⟩)
  clear y00 y01 y02 y03 y04 y05 y06 y07 y08
  have hX := Below.refl W1.heap.size W1
  have HX : Hid (nodeT 5 fn op num metric mats span names (exTs kids) = (kidT (1) (strI kids[0].kind kids[0].op, exT kids[0]) ++ ([32] ++ signL op ++ [32] ++ Lib.itoa num) : List UInt8)) := by show _ = _; rw [nodeT, exTs_getD kids 0 hj0]; simp
  have hl1 := HL.out
  rw [HX.out] at hl1
  simp only [List.length_append, List.length_cons, List.length_nil] at hl1
  obtain ⟨K0, hK0⟩ : ∃ K0 : ByteArray, (⟨(kidT (1) (strI kids[0].kind kids[0].op, exT kids[0])).toArray⟩ : ByteArray) = K0 := ⟨_, rfl⟩
  have hK0s : K0.size ≤ 1000000 := by rw [← hK0, ba_litsize]; omega
  have hK0l : K0.data.toList = kidT (1) (strI kids[0].kind kids[0].op, exT kids[0]) := by rw [← hK0]
  have CK0 := Lib.hid (fun (X : World) (h : Below W1.heap.size W1 X) => show Calls Tryd.prog 56 #[.agg #[.int .i64 kids[0].kind, .int .i64 kids[0].fn, .int .i64 kids[0].op, .int .i64 kids[0].num, .string kids[0].metric, .slice km0 kids[0].mats.length kc0, .int .i64 kids[0].span, .slice kn0 kids[0].names.length kd0, .slice kk0 kids[0].kids.length ke0], .int .i64 (1)] X (fun e' w' => e' = .returned (.string K0) ∧ Below W1.heap.size W1 w') from
    (rKid kids[0] (Hih.out _ (List.getElem_mem hj0)) (HV.out _ (List.getElem_mem hj0)) (HK64.out _ (List.getElem_mem hj0)) (1) _ n X (Hei0.out.mono ((Hbw.out.trans (h.mono hs1)).mono hn) (Nat.le_refl _)) (Nat.le_trans hn (Nat.le_trans hs1 h.size)) (by have := kidT_ge (1) (strI kids[0].kind kids[0].op) (exT kids[0]); omega)).mono fun e' w' ⟨h1, h2⟩ => ⟨by rw [h1, hK0], h.trans (h2.mono h.size)⟩)
  obtain ⟨SG, hSG⟩ : ∃ SG : ByteArray, (⟨(signL op).toArray⟩ : ByteArray) = SG := ⟨_, rfl⟩
  have hSGs : SG.size ≤ 2 := by rw [← hSG, ba_litsize]; exact signL_length op
  have hSGl : SG.data.toList = signL op := by rw [← hSG]
  have CSg := Lib.hid (fun (X : World) (h : Below W1.heap.size W1 X) => show Calls Tryd.prog 18 #[.int .i64 op] X (fun e' w' => e' = .returned (.string SG) ∧ Below W1.heap.size W1 w') from
    (rSign op X (by obtain ⟨_, _, hop, _⟩ := HR.out; omega)).mono fun e' w' ⟨h1, h2⟩ => ⟨by rw [h1, hSG], h.trans (h2.mono h.size)⟩)
  obtain ⟨DG, hDG⟩ : ∃ DG : ByteArray, (⟨(Lib.itoa num).toArray⟩ : ByteArray) = DG := ⟨_, rfl⟩
  have hDGs : DG.size ≤ 21 := by rw [← hDG, ba_litsize]; exact itoa_len num (HN64.out)
  have hDGl : DG.data.toList = Lib.itoa num := by rw [← hDG]
  have CD := Lib.hid (fun (X : World) (h : Below W1.heap.size W1 X) => show Calls Tryd.prog 33 #[.int .i64 num] X (fun e' w' => e' = .returned (.string DG) ∧ Below W1.heap.size W1 w') from
    (rDigits num X (HN64.out)).mono fun e' w' ⟨h1, h2⟩ => ⟨by rw [h1, hDG], h.trans (h2.mono h.size)⟩)
  clear hl1 hK0 hSG hDG
  have z0 := (HS.out _ hX).1
  go_upto_region 13 with fail
  clear z0
  refine wp_region_held_drew (S := (fun X => X.cell? ⟨W.heap.size, 0, none⟩ = some (.int .i64 5) ∧ X.cell? ⟨W.heap.size, 1, none⟩ = some (.int .i64 fn) ∧ X.cell? ⟨W.heap.size, 2, none⟩ = some (.int .i64 op) ∧ X.cell? ⟨W.heap.size, 3, none⟩ = some (.int .i64 num) ∧ X.cell? ⟨W.heap.size, 4, none⟩ = some (.string metric) ∧ X.cell? ⟨W.heap.size, 5, none⟩ = some (.slice pm mats.length cm) ∧ X.cell? ⟨W.heap.size, 6, none⟩ = some (.int .i64 span) ∧ X.cell? ⟨W.heap.size, 7, none⟩ = some (.slice pn names.length cn) ∧ X.cell? ⟨W.heap.size, 8, none⟩ = some (.slice (some ⟨kb0, ko0, none⟩) kids.length ck) ∧ X.cell? ⟨kb0, ko0, none⟩ = some (.int .i64 kids[0].kind) ∧ X.cell? ⟨kb0, ko0 + 1, none⟩ = some (.int .i64 kids[0].fn) ∧ X.cell? ⟨kb0, ko0 + 2, none⟩ = some (.int .i64 kids[0].op) ∧ X.cell? ⟨kb0, ko0 + 3, none⟩ = some (.int .i64 kids[0].num) ∧ X.cell? ⟨kb0, ko0 + 4, none⟩ = some (.string kids[0].metric) ∧ X.cell? ⟨kb0, ko0 + 5, none⟩ = some (.slice km0 kids[0].mats.length kc0) ∧ X.cell? ⟨kb0, ko0 + 6, none⟩ = some (.int .i64 kids[0].span) ∧ X.cell? ⟨kb0, ko0 + 7, none⟩ = some (.slice kn0 kids[0].names.length kd0) ∧ X.cell? ⟨kb0, ko0 + 8, none⟩ = some (.slice kk0 kids[0].kids.length ke0))) (by kernel_rfl) ?_ (fun hHeld => ?_)
  · exact HS.out _ (Below.drew hX)
  (refine held_take 0 105 ?_ rfl (by kernel_rfl) (by kernel_rfl) (by kernel_rfl) (by kernel_rfl) (fun _ _ _ h => h) (by kernel_rfl) ?_ (by assumption) ?_; rotate_left; (intro w hSw; clear hSw; go_simp); (try with_reducible rfl); simp only [List.set_cons_zero, List.set_cons_succ])
  (refine held_take 1 106 (.slice (some ⟨kb0, ko0, none⟩) kids.length ck) rfl rfl (by kernel_rfl) (by kernel_rfl) (by kernel_rfl) (fun _ _ _ h => h) (by kernel_rfl) ?_ (by assumption) ?_; (intro w hSw; obtain ⟨q0, q1, q2, q3, q4, q5, q6, q7, q8, q9, q10, q11, q12, q13, q14, q15, q16, q17⟩ := hSw; go_simp); simp only [List.set_cons_zero, List.set_cons_succ])
  (refine held_take 2 107 ?_ rfl (by kernel_rfl) (by kernel_rfl) (by kernel_rfl) (by kernel_rfl) (fun _ _ _ h => h) (by kernel_rfl) ?_ (by assumption) ?_; rotate_left; (intro w hSw; clear hSw; go_simp); (try with_reducible rfl); simp only [List.set_cons_zero, List.set_cons_succ])
  (refine held_take 3 108 (.agg #[.int .i64 kids[0].kind, .int .i64 kids[0].fn, .int .i64 kids[0].op, .int .i64 kids[0].num, .string kids[0].metric, .slice km0 kids[0].mats.length kc0, .int .i64 kids[0].span, .slice kn0 kids[0].names.length kd0, .slice kk0 kids[0].kids.length ke0]) rfl rfl (by kernel_rfl) (by kernel_rfl) (by kernel_rfl) (fun _ _ _ h => h) (by kernel_rfl) ?_ (by assumption) ?_; (intro w hSw; obtain ⟨q0, q1, q2, q3, q4, q5, q6, q7, q8, q9, q10, q11, q12, q13, q14, q15, q16, q17⟩ := hSw; go_simp); simp only [List.set_cons_zero, List.set_cons_succ])
  (refine held_take 6 111 ?_ rfl (by kernel_rfl) (by kernel_rfl) (by kernel_rfl) (by kernel_rfl) (fun _ _ _ h => h) (by kernel_rfl) ?_ (by assumption) ?_; rotate_left; (intro w hSw; clear hSw; go_simp); (try with_reducible rfl); simp only [List.set_cons_zero, List.set_cons_succ])
  (refine held_take 7 112 (.int .i64 op) rfl rfl (by kernel_rfl) (by kernel_rfl) (by kernel_rfl) (fun _ _ _ h => h) (by kernel_rfl) ?_ (by assumption) ?_; (intro w hSw; obtain ⟨q0, q1, q2, q3, q4, q5, q6, q7, q8, q9, q10, q11, q12, q13, q14, q15, q16, q17⟩ := hSw; go_simp); simp only [List.set_cons_zero, List.set_cons_succ])
  (refine held_take 11 116 ?_ rfl (by kernel_rfl) (by kernel_rfl) (by kernel_rfl) (by kernel_rfl) (fun _ _ _ h => h) (by kernel_rfl) ?_ (by assumption) ?_; rotate_left; (intro w hSw; clear hSw; go_simp); (try with_reducible rfl); simp only [List.set_cons_zero, List.set_cons_succ])
  (refine held_take 12 117 (.int .i64 num) rfl rfl (by kernel_rfl) (by kernel_rfl) (by kernel_rfl) (fun _ _ _ h => h) (by kernel_rfl) ?_ (by assumption) ?_; (intro w hSw; obtain ⟨q0, q1, q2, q3, q4, q5, q6, q7, q8, q9, q10, q11, q12, q13, q14, q15, q16, q17⟩ := hSw; go_simp); simp only [List.set_cons_zero, List.set_cons_succ])
  (refine wpAnyH_ready (rs := [4]) (by kernel_rfl) (by simp) (.cons rfl (fun K hK => ?_) .nil))
  rw [if_pos (by kernel_rfl)]
  go_simp
  refine (CK0.out _ (Below.drew hX)).mono ?_
  rintro e' X1 ⟨rfl, hA1⟩
  dsimp only
  refine hK.out _ _ (HS.out _ hA1) (fun hHeld => ?_)
  clear hK K
  (try simp only [Act.put, List.setIfInBounds_toArray, List.set_cons_zero, List.set_cons_succ])
  (refine held_take 5 110 (.string (K0 ++ ⟨#[32]⟩)) rfl rfl (by kernel_rfl) (by kernel_rfl) (by kernel_rfl) (fun _ _ _ h => h) (by kernel_rfl) ?_ (by assumption) ?_; (intro w hSw; clear hSw; go_simp; (try simp only [ByteArray.size_append]); omega); simp only [List.set_cons_zero, List.set_cons_succ])
  (refine wpAnyH_ready (rs := [8]) (by kernel_rfl) (by simp) (.cons rfl (fun K hK => ?_) .nil))
  rw [if_pos (by kernel_rfl)]
  go_simp
  refine (CSg.out _ hA1).mono ?_
  rintro e' X2 ⟨rfl, hA2⟩
  dsimp only
  refine hK.out _ _ (HS.out _ hA2) (fun hHeld => ?_)
  clear hK K
  (try simp only [Act.put, List.setIfInBounds_toArray, List.set_cons_zero, List.set_cons_succ])
  (refine held_take 9 114 (.string (K0 ++ ⟨#[32]⟩ ++ SG)) rfl rfl (by kernel_rfl) (by kernel_rfl) (by kernel_rfl) (fun _ _ _ h => h) (by kernel_rfl) ?_ (by assumption) ?_; (intro w hSw; clear hSw; go_simp; (try simp only [ByteArray.size_append]); omega); simp only [List.set_cons_zero, List.set_cons_succ])
  (refine held_take 10 115 (.string (K0 ++ ⟨#[32]⟩ ++ SG ++ ⟨#[32]⟩)) rfl rfl (by kernel_rfl) (by kernel_rfl) (by kernel_rfl) (fun _ _ _ h => h) (by kernel_rfl) ?_ (by assumption) ?_; (intro w hSw; clear hSw; go_simp; (try simp only [ByteArray.size_append]); omega); simp only [List.set_cons_zero, List.set_cons_succ])
  (refine wpAnyH_ready (rs := [13]) (by kernel_rfl) (by simp) (.cons rfl (fun K hK => ?_) .nil))
  rw [if_pos (by kernel_rfl)]
  go_simp
  refine (CD.out _ hA2).mono ?_
  rintro e' X3 ⟨rfl, hA3⟩
  dsimp only
  refine hK.out _ _ (HS.out _ hA3) (fun hHeld => ?_)
  clear hK K
  (try simp only [Act.put, List.setIfInBounds_toArray, List.set_cons_zero, List.set_cons_succ])
  (refine held_take 14 119 (.string (K0 ++ ⟨#[32]⟩ ++ SG ++ ⟨#[32]⟩ ++ DG)) rfl rfl (by kernel_rfl) (by kernel_rfl) (by kernel_rfl) (fun _ _ _ h => h) (by kernel_rfl) ?_ (by assumption) ?_; (intro w hSw; clear hSw; go_simp; (try simp only [ByteArray.size_append]); omega); simp only [List.set_cons_zero, List.set_cons_succ])
  (refine held_take 15 2 ?_ rfl (by kernel_rfl) (by kernel_rfl) (by kernel_rfl) (by kernel_rfl) (fun _ _ _ h => h) (by kernel_rfl) ?_ (by assumption) ?_; rotate_left; (intro w hSw; clear hSw; go_simp); (try with_reducible rfl); simp only [List.set_cons_zero, List.set_cons_succ])
  refine wpAnyH_done (by kernel_rfl) ?_ _
  all_goals go_wp2
  all_goals go_ret
  all_goals exact ⟨ret_string (ba_of (by simp only [ba_add, ba_lit, hK0l, hSGl, hDGl]; rw [HX.out]; simp)), Hbw.out.trans (hA3.mono hs1)⟩

theorem rText : ∀ e : Ex, TextC e := by
  refine Ex.ind fun e ih hv => ?_
  have hk : e.kind = 1 ∨ e.kind = 2 ∨ e.kind = 3 ∨ e.kind = 4 ∨ e.kind = 5 := by
    have h := hv
    rw [Ex.flat_eq, List.all_cons, Bool.and_eq_true] at h
    have h1 := h.1
    simp only [rightB, Bool.and_eq_true, kindOk, decide_eq_true_eq] at h1
    omega
  revert hv
  show TextC e
  rw [e.eq_mk]
  rcases hk with h | h | h | h | h <;> rw [h]
  · exact rText_1 _ _ _ _ _ _ _ _ ih
  · exact rText_2 _ _ _ _ _ _ _ _ ih
  · exact rText_3 _ _ _ _ _ _ _ _ ih
  · exact rText_4 _ _ _ _ _ _ _ _ ih
  · exact rText_5 _ _ _ _ _ _ _ _ ih
end Go.Proofs.YtobelmipjanibaaDoor
