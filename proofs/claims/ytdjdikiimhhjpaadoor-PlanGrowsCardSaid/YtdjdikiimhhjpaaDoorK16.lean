/- plan.sizes: the plain part. -/
import Derived.Test.YtdjdikiimhhjpaaDoorK15
import Derived.Test.YtdjdikiimhhjpaaDoorK12
import Derived.Test.YtdjdikiimhhjpaaDoorK11
set_option maxRecDepth 100000
set_option maxHeartbeats 16000000
namespace Go.Proofs.YtdjdikiimhhjpaaDoor
open Go.RowKit
set_option linter.unusedSimpArgs false
set_option linter.unusedVariables false
def intCs (l : List Int) : List Value := l.map fun i => Value.int .i64 i
theorem mk_ints (w : World) (L : Nat) (c : Int) (hc : c = (L : Int)) (hL : L ≤ 1000) :
    (Instr.makeSlice 27 (.int .i64 c) (.int .i64 c)).run Tryd.prog w = .ok (.slice (some ⟨w.heap.size, 0, none⟩) L L) (w.alloc (.cells (intCs (List.replicate L 0)).toArray 3)) := by
  subst hc
  obtain ⟨i0, hi, hz0, hz1, hz2⟩ := info_parts infoI64
  have h := run_make (P := Tryd.prog) w 27 3 i0 (.int .i64 0) Tryd.underlying27 hi hz0 .i64 .i64 (L : Int) (L : Int) (by omega) (Int.le_refl _) (by rw [hz2]; omega) (by omega)
  rw [h, Int.toNat_natCast, hz1, Nat.mul_one]
  congr 3
  apply Array.ext
  · simp [madeCells, intCs]
  · intro k h1 h2
    simp [madeCells, intCs, Value.cells] at h1 ⊢
    simp [Nat.mod_one]
theorem exprAt_node {p : List Nd} (hA : Ahead p) {k : Nat} (h : k < p.length) : exprAt p ((k : Int) + 1) = p[k].ex.withKids (p[k].ins.map (exprAt p)) := by
  unfold exprAt
  rw [show ((k : Int) + 1).toNat - 1 = k by omega]
  obtain ⟨f, hf⟩ : ∃ f, p.length = f + 1 := ⟨p.length - 1, by omega⟩
  rw [hf, exprN, List.getElem?_eq_getElem h]
  simp only
  congr 1
  refine List.map_congr_left fun n hn => ?_
  have := hA k n (by unfold insAt; rw [List.getElem?_eq_getElem h]; exact hn)
  exact exprN_fuel hA _ _ _ (by omega) (by omega)
def sumTo (p : List Nd) (l : List Int) : Nat := (l.map fun n => min 201 (exprAt p n).size).sum
def depTo (p : List Nd) (l : List Int) : Nat := deeps (l.map (exprAt p))
theorem sumTo_step {p : List Nd} {l : List Int} {i : Nat} (h : i < l.length) : sumTo p (l.take (i + 1)) = sumTo p (l.take i) + min 201 (exprAt p l[i]).size := by
  rw [List.take_succ_eq_append_getElem h]; unfold sumTo; rw [List.map_append, List.sum_append]; simp [List.sum_cons]
theorem depTo_step {p : List Nd} {l : List Int} {i : Nat} (h : i < l.length) : depTo p (l.take (i + 1)) = max (depTo p (l.take i)) (exprAt p l[i]).deep := by
  rw [List.take_succ_eq_append_getElem h]; unfold depTo; rw [List.map_append, deeps_append]; simp [deeps]
theorem sumTo_bd (p : List Nd) : ∀ (l : List Int), sumTo p l ≤ 201 * l.length
  | [] => by simp [sumTo]
  | a :: l => by have := sumTo_bd p l; unfold sumTo at this ⊢; simp only [List.map_cons, List.sum_cons, List.length_cons]; omega
def szA (p : List Nd) (k : Nat) : Nat := min 201 (exprAt p ((k : Int) + 1)).size
def dpA (p : List Nd) (k : Nat) : Nat := (exprAt p ((k : Int) + 1)).deep
theorem szA_eq {p : List Nd} (hA : Ahead p) {k : Nat} (h : k < p.length) : szA p k = min (sumTo p p[k].ins + 1) 201 := by
  unfold szA
  rw [exprAt_node hA h, Ex.size_eq]
  have h1 : (p[k].ex.withKids (p[k].ins.map (exprAt p))).kids = p[k].ins.map (exprAt p) := rfl
  rw [h1, sizes_sum, List.map_map]
  have h2 := min_sum 201 (p[k].ins.map (Ex.size ∘ exprAt p)) 1
  rw [List.map_map] at h2
  have h3 : sumTo p p[k].ins = (p[k].ins.map (min 201 ∘ Ex.size ∘ exprAt p)).sum := rfl
  rw [h3]
  omega
theorem dpA_eq {p : List Nd} (hA : Ahead p) {k : Nat} (h : k < p.length) : dpA p k = depTo p p[k].ins + 1 := by
  unfold dpA
  rw [exprAt_node hA h, Ex.deep_eq]; rfl
theorem exprN_deep {p : List Nd} (hA : Ahead p) : ∀ (f i : Nat), (exprN p f i).deep ≤ f + 1
  | 0, i => by simp [exprN, noX, Ex.deep, deeps]
  | f + 1, i => by
    rw [exprN]
    split
    · rename_i x _
      have hd : ∀ l : List Int, deeps (l.map fun n => exprN p f (n.toNat - 1)) ≤ f + 1 := by
        intro l
        induction l with
        | nil => simp [deeps]
        | cons a l ih => have := exprN_deep hA f (a.toNat - 1); simp only [List.map_cons, deeps]; omega
      have := hd x.ins; rw [Ex.deep_eq]
      show deeps (x.ins.map _) + 1 ≤ _
      omega
    · simp [noX, Ex.deep, deeps]
theorem exprAt_deep {p : List Nd} (hA : Ahead p) (n : Int) : (exprAt p n).deep ≤ p.length + 1 := exprN_deep hA _ _
theorem depTo_bd {p : List Nd} (hA : Ahead p) : ∀ (l : List Int), depTo p l ≤ p.length + 1
  | [] => by simp [depTo, deeps]
  | a :: l => by have := depTo_bd hA l; have h2 := exprAt_deep hA a; unfold depTo at this ⊢; simp only [List.map_cons, deeps]; omega
structure Known (L k : Nat) (f : Nat → Nat) (l : List Int) : Prop where
  len : l.length = L
  done : ∀ i, i < k → l[i]? = some (f i : Int)
  rest : ∀ i, k ≤ i → i < L → l[i]? = some 0
theorem Known.zero (L : Nat) (f : Nat → Nat) : Known L 0 f (List.replicate L 0) := ⟨by simp, fun i h => by omega, fun i _ h => by rw [List.getElem?_replicate, if_pos h]⟩
theorem Known.next {L k : Nat} {f : Nat → Nat} {l : List Int} (h : Known L k f l) (hk : k < L) : Known L (k + 1) f (l.set k (f k : Int)) := by
  refine ⟨by rw [List.length_set, h.len], fun i hi => ?_, fun i h1 h2 => ?_⟩
  · rw [List.getElem?_set]
    by_cases e : k = i
    · subst e; rw [if_pos rfl, if_pos (by rw [h.len]; exact hk)]
    · rw [if_neg e]; exact h.done i (by omega)
  · rw [List.getElem?_set, if_neg (by omega)]; exact h.rest i (by omega) h2
theorem Known.same {L k : Nat} {f : Nat → Nat} {l : List Int} (h : Known L k f l) (hk : k < L) : l.set k 0 = l := by
  apply List.ext_getElem?
  intro i
  rw [List.getElem?_set]
  by_cases e : k = i
  · subst e; rw [if_pos rfl, if_pos (by rw [h.len]; exact hk)]; exact (h.rest k (Nat.le_refl _) hk).symm
  · rw [if_neg e]
theorem intCs_at {l : List Int} {i : Nat} {x : Int} (h : l[i]? = some x) : (intCs l)[i]? = some (.int .i64 x) := by unfold intCs; rw [List.getElem?_map, h]; rfl
theorem intCs_set (l : List Int) (i : Nat) (x : Int) : (intCs l).set i (.int .i64 x) = intCs (l.set i x) := by unfold intCs; rw [List.map_set]
theorem set_at {l : List Int} {k L : Nat} (h : l.length = L) (hk : k < L) (x : Int) : (l.set k x)[k]? = some x := by rw [List.getElem?_set, if_pos rfl, if_pos (by omega)]
theorem set_off {l : List Int} {k j : Nat} (h : k ≠ j) (x : Int) : (l.set k x)[j]? = l[j]? := by rw [List.getElem?_set, if_neg h]
end Go.Proofs.YtdjdikiimhhjpaaDoor
namespace Go.Proofs.YtdjdikiimhhjpaaDoor
open Go.RowKit
set_option linter.unusedSimpArgs false
set_option linter.unusedVariables false
def W4 (w : World) (xa xb xc xd : List Value) (ta tb tc td : TypeId) : World := ((((w.alloc (.cells xa.toArray ta)).alloc (.cells xb.toArray tb)).alloc (.cells xc.toArray tc)).alloc (.cells xd.toArray td)).drew
section
variable (w : World) (xa xb xc xd : List Value) (ta tb tc td : TypeId)
theorem four0 : Blk (W4 w xa xb xc xd ta tb tc td) w.heap.size ta xa := ((((Blk.new w xa ta).alloc _).alloc _).alloc _).drew
theorem four1 : Blk (W4 w xa xb xc xd ta tb tc td) (w.heap.size + 1) tb xb := by
  have := (((Blk.new (w.alloc (.cells xa.toArray ta)) xb tb).alloc (.cells xc.toArray tc)).alloc (.cells xd.toArray td)).drew
  rw [World.size_alloc] at this; exact this
theorem four2 : Blk (W4 w xa xb xc xd ta tb tc td) (w.heap.size + 1 + 1) tc xc := by
  have := ((Blk.new ((w.alloc (.cells xa.toArray ta)).alloc (.cells xb.toArray tb)) xc tc).alloc (.cells xd.toArray td)).drew
  rw [World.size_alloc, World.size_alloc] at this; exact this
theorem four3 : Blk (W4 w xa xb xc xd ta tb tc td) (w.heap.size + 1 + 1 + 1) td xd := by
  have := (Blk.new (((w.alloc (.cells xa.toArray ta)).alloc (.cells xb.toArray tb)).alloc (.cells xc.toArray tc)) xd td).drew
  rw [World.size_alloc, World.size_alloc, World.size_alloc] at this; exact this
theorem fourB : Below w.heap.size w (W4 w xa xb xc xd ta tb tc td) := (((((Below.refl _ _).alloc (Nat.le_refl _) _).alloc (by simp) _).alloc (by simp; omega) _).alloc (by simp; omega) _).drew
end
structure SzW (h L gs gd g3 : Nat) (l1 l2 : List Int) (W : World) : Prop where
  b1 : Blk W gs 3 (intCs l1)
  b2 : Blk W gd 3 (intCs l2)
  b3 : Blk W g3 69 [.slice (some ⟨gs, 0, none⟩) L L, .slice (some ⟨gd, 0, none⟩) L L]
  b0 : Blk W h 69 [.slice none 0 0, .slice none 0 0]
  ne : gs ≠ gd ∧ g3 ≠ gs ∧ g3 ≠ gd ∧ h < gs ∧ h < gd ∧ h < g3
theorem SzW.keep {h L gs gd g3 : Nat} {l1 l2 : List Int} {W W' : World} (k : SzW h L gs gd g3 l1 l2 W) (hb : Below W.heap.size W W') : SzW h L gs gd g3 l1 l2 W' := ⟨k.b1.keep hb, k.b2.keep hb, k.b3.keep hb, k.b0.keep hb, k.ne⟩
theorem SzW.put1 {h L gs gd g3 : Nat} {l1 l2 : List Int} {W : World} (k : SzW h L gs gd g3 l1 l2 W) (i : Nat) (x : Int) : SzW h L gs gd g3 (l1.set i x) l2 (W.setCell ⟨gs, i, none⟩ (.int .i64 x)) := by
  obtain ⟨h1, h2, h3, h4, h5, h6⟩ := k.ne
  exact ⟨by rw [← intCs_set]; exact k.b1.set_ _ _, k.b2.far (fun e => h1 e.symm) _, k.b3.far h2 _, k.b0.far (fun e => by simp at e; omega) _, k.ne⟩
theorem SzW.put2 {h L gs gd g3 : Nat} {l1 l2 : List Int} {W : World} (k : SzW h L gs gd g3 l1 l2 W) (i : Nat) (x : Int) : SzW h L gs gd g3 l1 (l2.set i x) (W.setCell ⟨gd, i, none⟩ (.int .i64 x)) := by
  obtain ⟨h1, h2, h3, h4, h5, h6⟩ := k.ne
  exact ⟨k.b1.far h1 _, by rw [← intCs_set]; exact k.b2.set_ _ _, k.b3.far h3 _, k.b0.far (fun e => by simp at e; omega) _, k.ne⟩
theorem SzW.drewN {h L gs gd g3 : Nat} {l1 l2 : List Int} {W : World} (k : SzW h L gs gd g3 l1 l2 W) (n : Nat) : SzW h L gs gd g3 l1 l2 (W.drewN n) := ⟨k.b1, k.b2, k.b3, k.b0, k.ne⟩
theorem SzW.drew {h L gs gd g3 : Nat} {l1 l2 : List Int} {W : World} (k : SzW h L gs gd g3 l1 l2 W) : SzW h L gs gd g3 l1 l2 W.drew := ⟨k.b1, k.b2, k.b3, k.b0, k.ne⟩
theorem pSizes (p : List Nd) (v : Value) (n : Nat) (w : World) (hn : n ≤ w.heap.size) (hp : IsNds n w v p) (hc : ndCheck p = 0) :
    Calls Tryd.prog 28 #[v] w fun e' w' => ∃ gs gd l1 l2, e' = .returned (.agg #[.slice (some ⟨gs, 0, none⟩) p.length p.length, .slice (some ⟨gd, 0, none⟩) p.length p.length]) ∧ Blk w' gs 3 (intCs l1) ∧ Blk w' gd 3 (intCs l2) ∧ Known p.length p.length (szA p) l1 ∧ Known p.length p.length (dpA p) l2 ∧ Below w.heap.size w w' := by
  obtain ⟨pp, cp, rfl, _, hcm, hpm⟩ := hp.open
  unfold maxLen at hcm hpm
  have HP := Lib.hid hp
  obtain ⟨hl, hok⟩ := ndCheck_0 hc
  have H2 := Lib.hid hok.two; have HA := Lib.hid hok.ahead
  clear hp hc hok
  have hmk : ∀ W : World, (Instr.makeSlice 27 (.int .i64 (p.length : Int)) (.int .i64 (p.length : Int))).run Tryd.prog W = .ok (.slice (some ⟨W.heap.size, 0, none⟩) p.length p.length) (W.alloc (.cells (intCs (List.replicate p.length 0)).toArray 3)) := fun W => mk_ints W p.length p.length rfl hl
  go_enter Tryd.func28, Tryd.ntmps28; (try simp only [List.append_eq, List.cons_append, List.nil_append])
  go_upto_region 1 with fail
  go_cut [0, 2, 3, 10, 13] (fun s0 s2 s3 s10 s13 wx => ∃ gs gd g3, s0 = .slice pp p.length cp ∧ s2 = .pointer (some ⟨w.heap.size, 0, none⟩) ∧ s3 = .pointer (some ⟨g3, 0, none⟩) ∧ s10 = .slice (some ⟨gs, 0, none⟩) p.length p.length ∧ s13 = .slice (some ⟨gd, 0, none⟩) p.length p.length ∧ Blk wx g3 69 [.slice (some ⟨gs, 0, none⟩) p.length p.length, .slice (some ⟨gd, 0, none⟩) p.length p.length] ∧ Blk wx gs 3 (intCs (List.replicate p.length 0)) ∧ Blk wx gd 3 (intCs (List.replicate p.length 0)) ∧ (gs ≠ gd ∧ g3 ≠ gs ∧ g3 ≠ gd ∧ w.heap.size < gs ∧ w.heap.size < gd ∧ w.heap.size < g3) ∧ Blk wx w.heap.size 69 [.slice none 0 0, .slice none 0 0] ∧ Below w.heap.size w wx)
  case first =>
    go_region
    all_goals go_wp2
    all_goals go_meet
    all_goals refine ⟨_, _, _, rfl, rfl, rfl, rfl, rfl, ?_, ?_, ?_, ?_, four0 _ _ _ _ _ _ _ _ _, fourB _ _ _ _ _ _ _ _ _⟩
    all_goals first | exact four1 _ _ _ _ _ _ _ _ _ | exact four2 _ _ _ _ _ _ _ _ _ | exact four3 _ _ _ _ _ _ _ _ _ | omega
  case rest =>
    obtain ⟨gs, gd, g3, rfl, rfl, rfl, rfl, rfl, hb3, hb1, hb2, hne, hb0, hb⟩ := hcut; have HW := Lib.hid (SzW.mk hb1 hb2 hb3 hb0 hne); have Hb := Lib.hid hb; have Hne := Lib.hid hne; have HK1 := Lib.hid (Known.zero p.length (szA p)); have HK2 := Lib.hid (Known.zero p.length (dpA p)); clear hb3 hb1 hb2 hb0 hb hne
    go_wp2_with fail
    go_loopw [17] (fun j wr => ∃ (k : Nat) (l1 l2 : List Int), k ≤ p.length ∧ j = .int .i64 k ∧ SzW w.heap.size p.length gs gd g3 l1 l2 wr ∧ Known p.length k (szA p) l1 ∧ Known p.length k (dpA p) l2 ∧ Below w.heap.size w wr) (fun j _ => p.length - (intOf j).toNat)
    case atStart => exact ⟨0, _, _, Nat.zero_le _, rfl, HW.out, HK1.out, HK2.out, Hb.out⟩
    case round =>
      clear HW Hb HK1 HK2; obtain ⟨k, l1, l2, hk, rfl, hW, hk1, hk2, hb⟩ := hrel; have HW := Lib.hid hW; have HK1 := Lib.hid hk1; have HK2 := Lib.hid hk2; have Hb := Lib.hid hb; clear hW hk1 hk2 hb
      by_cases hlt : k < p.length
      · have hki : (k : Int) < (p.length : Int) := by omega
        obtain ⟨b, off, pm, cm, pn, cn, pk, ck, pi, ci, rfl, hbn, -, hii, hc⟩ := (HP.out.mono (Hb.out.mono hn) (Nat.le_refl _)).get hlt; have HE1 := Lib.hid (szA_eq HA.out hlt); have HE2 := Lib.hid (dpA_eq HA.out hlt); have hx2 := H2.out p[k] (List.getElem_mem hlt); have hax : ∀ m ∈ p[k].ins, 1 ≤ m ∧ m ≤ (k : Int) := fun m hm => HA.out k m (by unfold insAt; rw [List.getElem?_eq_getElem hlt]; exact hm)
        obtain ⟨x, hx⟩ : ∃ x, p[k] = x := ⟨_, rfl⟩; rw [hx] at hii hc hx2 HE1 HE2 hax; have Hax := Lib.hid hax; have Hii := Lib.hid hii; have c0 := hc 0 _ rfl; have c1 := hc 1 _ rfl; have c2 := hc 2 _ rfl; have c3 := hc 3 _ rfl; have c4 := hc 4 _ rfl; have c5 := hc 5 _ rfl; have c6 := hc 6 _ rfl; have c7 := hc 7 _ rfl; have c8 := hc 8 _ rfl; have c9 := hc 9 _ rfl; have c10 := hc 10 _ rfl; simp only [Nat.add_zero] at c0; clear hx hc hii hax
        go_upto_region 5 with fail
        obtain ⟨X, hW⟩ : ∃ z, wr.alloc (.cells #[.int .i64 x.every, .int .i64 x.ex.kind, .int .i64 x.ex.fn, .int .i64 x.ex.op, .int .i64 x.ex.num, .string x.ex.metric, .slice pm x.ex.mats.length cm, .int .i64 x.ex.span, .slice pn x.ex.names.length cn, .slice pk x.ex.kids.length ck, .slice pi x.ins.length ci] 40) = z := ⟨_, rfl⟩; have B1 : Blk X wr.heap.size 40 [.int .i64 x.every, .int .i64 x.ex.kind, .int .i64 x.ex.fn, .int .i64 x.ex.op, .int .i64 x.ex.num, .string x.ex.metric, .slice pm x.ex.mats.length cm, .int .i64 x.ex.span, .slice pn x.ex.names.length cn, .slice pk x.ex.kids.length ck, .slice pi x.ins.length ci] := by rw [← hW]; exact Blk.new wr _ _
        have bX : Below wr.heap.size wr X := by rw [← hW]; exact (Below.refl _ _).alloc (Nat.le_refl _) _
        rw [hW]; have HWX := Lib.hid (HW.out.keep bX); have HbX := Lib.hid (Hb.out.trans (bX.mono Hb.out.size)); have HiX := Lib.hid (Hii.out.mono (bX.mono (Nat.le_trans hn Hb.out.size)) (Nat.le_refl _)); have d10 := B1.cell 10 _ rfl; clear hW B1 bX c0 c1 c2 c3 c4 c5 c6 c7 c8 c9 c10 HW Hb Hii
        go_upto_region 6 with fail
        clear d10
        go_loopw [25] (fun j wq => ∃ i : Nat, i ≤ x.ins.length ∧ j = .int .i64 i ∧ SzW w.heap.size p.length gs gd g3 (l1.set k (sumTo p (x.ins.take i) : Int)) (l2.set k (depTo p (x.ins.take i) : Int)) wq ∧ Below w.heap.size w wq ∧ Below w.heap.size X wq) (fun j _ => x.ins.length - (intOf j).toNat)
        case atStart =>
          refine ⟨0, Nat.zero_le _, rfl, ?_, HbX.out, Below.refl _ _⟩; have e1 := HK1.out.same hlt; have e2 := HK2.out.same hlt
          show SzW _ _ _ _ _ (l1.set k 0) (l2.set k 0) _
          rw [e1, e2]; exact HWX.out
        case round =>
          clear HWX HbX; obtain ⟨i, hi, rfl, hW, hb, hbx⟩ := hrel; have HW := Lib.hid hW; have Hb := Lib.hid hb; have Hbx := Lib.hid hbx; clear hW hb hbx
          by_cases hlt2 : i < x.ins.length
          · have hii2 : (i : Int) < (x.ins.length : Int) := by omega
            obtain ⟨b2, off2, rfl, hbn2, e0⟩ := (HiX.out.mono (Hbx.out.mono hn) (Nat.le_refl _)).get hlt2; have Hst1 := Lib.hid (sumTo_step (p := p) hlt2); have Hst2 := Lib.hid (depTo_step (p := p) hlt2); have hs1 := sumTo_bd p (x.ins.take i); have hs2 := depTo_bd HA.out (x.ins.take i); have hax := Hax.out x.ins[i] (List.getElem_mem hlt2); have hd1 := exprAt_deep HA.out x.ins[i]; rw [List.length_take] at hs1; generalize x.ins[i] = r at *; obtain ⟨j, rfl⟩ : ∃ j : Nat, r = (j : Int) + 1 := ⟨(r - 1).toNat, by omega⟩; have hj : j < k := by omega
            have z1 := (Known.done HK1.out j hj); have z2 := (Known.done HK2.out j hj); have y1 : szA p j = min 201 (exprAt p ((j : Int) + 1)).size := rfl; have y2 : dpA p j = (exprAt p ((j : Int) + 1)).deep := rfl; rw [← y1] at Hst1; rw [← y2] at Hst2 hd1; have y3 : szA p j ≤ 201 := by omega
            clear y1 y2; generalize sumTo p (x.ins.take i) = a1 at *; generalize depTo p (x.ins.take i) = a2 at *; generalize szA p j = s1 at *; generalize dpA p j = s2 at *; have w1 := HW.out.b1.cell k _ (intCs_at (set_at HK1.out.len hlt _)); have w2 := HW.out.b1.cell j _ (intCs_at ((set_off (by omega) _).trans z1)); have w3 := HW.out.b2.cell k _ (intCs_at (set_at HK2.out.len hlt _)); have w4 := HW.out.b2.cell j _ (intCs_at ((set_off (by omega) _).trans z2)); have q0 := HW.out.b3.cell 0 _ rfl; have q1 := HW.out.b3.cell 1 _ rfl; have f1 := HW.out.b1.free k; have f2 := HW.out.b2.free k; have hjL : (j : Int) < (p.length : Int) := by omega
            have hs3 : a1 ≤ 402 := by omega
            have HZ2 := Lib.hid z2; clear z1 z2 hs1
            go_upto_region 8 with fail
            go_region
            have p1 := (HW.out.put1 k ((a1 : Int) + (s1 : Int))).drew; rw [List.set_set] at p1; have pb : Below w.heap.size wr (wr.setCell ⟨gs, k, none⟩ (.int .i64 ((a1 : Int) + (s1 : Int)))).drew := ((OffM.cell1 wr gs k _).below (fun i hi => by have := HW.out.ne; omega) Hb.out.size).drew; obtain ⟨Y, hY⟩ : ∃ z, (wr.setCell ⟨gs, k, none⟩ (.int .i64 ((a1 : Int) + (s1 : Int)))).drew = z := ⟨_, rfl⟩; rw [hY] at p1 pb ⊢; have HP1 := Lib.hid p1; have HPB := Lib.hid pb; clear hY p1 pb w1 w2 w3 w4 q0 q1 f1 f2; have w3 := HP1.out.b2.cell k _ (intCs_at (set_at HK2.out.len hlt _)); have w4 := HP1.out.b2.cell j _ (intCs_at ((set_off (by omega) _).trans HZ2.out)); have q0 := HP1.out.b3.cell 0 _ rfl; have q1 := HP1.out.b3.cell 1 _ rfl; have f2 := HP1.out.b2.free k
            go_upto_region 9 with fail
            go_region
            have p2 := (HP1.out.put2 k (if a2 < s2 then (s2 : Int) else (a2 : Int))).drew; rw [List.set_set] at p2; have pb : Below w.heap.size Y (Y.setCell ⟨gd, k, none⟩ (.int .i64 (if a2 < s2 then (s2 : Int) else (a2 : Int)))).drew := ((OffM.cell1 Y gd k _).below (fun i hi => by have := HP1.out.ne; omega) (Hb.out.trans HPB.out).size).drew; obtain ⟨Z, hZ⟩ : ∃ z, (Y.setCell ⟨gd, k, none⟩ (.int .i64 (if a2 < s2 then (s2 : Int) else (a2 : Int)))).drew = z := ⟨_, rfl⟩; rw [hZ] at p2 pb ⊢; have HP2 := Lib.hid p2; have HPZ := Lib.hid pb; clear hZ p2 pb w3 w4 q0 q1 f2; go_wp2; refine ⟨⟨i + 1, by omega, by go_num, ?_, (Hb.out.trans HPB.out).trans HPZ.out, (Hbx.out.trans HPB.out).trans HPZ.out⟩, by simp [intOf]; omega⟩; rw [Hst1.out, Hst2.out]; have e1 : ((a1 + s1 : Nat) : Int) = (a1 : Int) + (s1 : Int) := by omega
            have e2 : ((max a2 s2 : Nat) : Int) = if a2 < s2 then (s2 : Int) else (a2 : Int) := by split <;> omega
            rw [e1, e2]; exact HP2.out
          · have hi' : i = x.ins.length := by omega
            subst hi'; have hw := HW.out; rw [List.take_length] at hw; have hs1 := sumTo_bd p x.ins; have hs2 := depTo_bd HA.out x.ins; generalize sumTo p x.ins = a1 at *; generalize depTo p x.ins = a2 at *; have hs3 : a1 ≤ 402 := by omega
            have HWW := Lib.hid hw; clear hw HW hs1; have w1 := HWW.out.b1.cell k _ (intCs_at (set_at HK1.out.len hlt _)); have q0 := HWW.out.b3.cell 0 _ rfl; have q1 := HWW.out.b3.cell 1 _ rfl; have f1 := HWW.out.b1.free k
            go_upto_region 11 with fail
            go_region
            have v1 : (if (201 : Int) < (a1 : Int) + 1 then (201 : Int) else (a1 : Int) + 1) = (szA p k : Int) := by rw [HE1.out]; split <;> omega
            rw [v1]; have p1 := (HWW.out.put1 k (szA p k : Int)).drew; rw [List.set_set] at p1; have pb : Below w.heap.size wr (wr.setCell ⟨gs, k, none⟩ (.int .i64 (szA p k : Int))).drew := ((OffM.cell1 wr gs k _).below (fun i hi => by have := HWW.out.ne; omega) Hb.out.size).drew; obtain ⟨Y, hY⟩ : ∃ z, (wr.setCell ⟨gs, k, none⟩ (.int .i64 (szA p k : Int))).drew = z := ⟨_, rfl⟩; rw [hY] at p1 pb ⊢; have HP1 := Lib.hid p1; have HPB := Lib.hid pb; clear hY p1 pb w1 q0 q1 f1 v1; have w3 := HP1.out.b2.cell k _ (intCs_at (set_at HK2.out.len hlt _)); have q0 := HP1.out.b3.cell 0 _ rfl; have q1 := HP1.out.b3.cell 1 _ rfl; have f2 := HP1.out.b2.free k; have v2 : (a2 : Int) + 1 = (dpA p k : Int) := by rw [HE2.out]; omega
            have HV2 := Lib.hid v2; clear v2
            go_upto_region 13 with fail
            rw [HV2.out]; have p2 := HP1.out.put2 k (dpA p k : Int); rw [List.set_set] at p2; have pb : Below w.heap.size Y (Y.setCell ⟨gd, k, none⟩ (.int .i64 (dpA p k : Int))) := (OffM.cell1 Y gd k _).below (fun i hi => by have := HP1.out.ne; omega) (Hb.out.trans HPB.out).size; obtain ⟨Z, hZ⟩ : ∃ z, Y.setCell ⟨gd, k, none⟩ (.int .i64 (dpA p k : Int)) = z := ⟨_, rfl⟩; rw [hZ] at p2 pb ⊢; have HP2 := Lib.hid p2; have HPZ := Lib.hid pb; clear hZ p2 pb w3 q0 q1 f2; go_wp2; exact ⟨⟨k + 1, _, _, by omega, by go_num, HP2.out, HK1.out.next hlt, HK2.out.next hlt, (Hb.out.trans HPB.out).trans HPZ.out⟩, by simp [intOf]; omega⟩
      · have hk' : k = p.length := by omega
        subst hk'; have q0 := HW.out.b3.cell 0 _ rfl; have q1 := HW.out.b3.cell 1 _ rfl; have r0 := HW.out.b0.cell 0 _ rfl; have r1 := HW.out.b0.cell 1 _ rfl; have f0 := HW.out.b0.free 0; have f1 := HW.out.b0.free 1; go_wp2; have hz := (HW.out.b0.set_ 0 (.slice (some ⟨gs, 0, none⟩) p.length p.length)).set_ 1 (.slice (some ⟨gd, 0, none⟩) p.length p.length); refine bodyPost_agg (g := w.heap.size) (fr := (0, 0)) rfl rfl hz Tryd.underlying69 rfl (by kernel_rfl) rfl ?_; obtain ⟨h1, h2, h3, h4, h5, h6⟩ := Hne.out; have hb2 := ((OffM.cell1 wr w.heap.size 0 (.slice (some ⟨gs, 0, none⟩) p.length p.length)).trans (OffM.cell1 _ w.heap.size 1 (.slice (some ⟨gd, 0, none⟩) p.length p.length)) (fun i _ h => h)).below (n := w.heap.size) (fun i hi => by omega) Hb.out.size; exact ⟨gs, gd, l1, l2, rfl, (HW.out.b1.far (fun e => by simp at e; omega) _).far (fun e => by simp at e; omega) _, (HW.out.b2.far (fun e => by simp at e; omega) _).far (fun e => by simp at e; omega) _, HK1.out, HK2.out, Hb.out.trans hb2⟩
end Go.Proofs.YtdjdikiimhhjpaaDoor
namespace Go.Proofs.YtdjdikiimhhjpaaDoor
open Go.RowKit
set_option linter.unusedSimpArgs false
set_option linter.unusedVariables false
theorem cloneI (l : List Int) (v : Value) (n : Nat) (w : World) (hn : n ≤ w.heap.size) (ha : IsInts n w v l) (hl : l.length ≤ 1000000) :
    Calls Tryd.prog 36 #[v] w fun e' w' => ∃ v', e' = .returned v' ∧ OwnI 3 w.heap.size w' v' l ∧ Below w.heap.size w w' := by
  obtain ⟨i0, hi, hz0, hz1, hz2⟩ := info_parts infoI64
  obtain ⟨p, cap, rfl, hc1, hc2, -⟩ := ha.open
  have Ha := Lib.hid ha; clear ha
  cases p with
  | none =>
    have hrow : l = [] := by
      cases l with
      | nil => rfl
      | cons r l => obtain ⟨b, off, hp, _⟩ := Ha.out.get (k := 0) (by simp); cases hp
    have Hrow := Lib.hid hrow; clear hrow; have hnil : ∀ w, (binOp .eql 27 (.slice none l.length cap) (.slice none 0 0)).run Tryd.prog w = .ok (.bool true) w := fun w => Lib.run_eql_slice_nil (P := Tryd.prog) w 27 _ none l.length cap 0 0 Tryd.underlying27
    go_enter Tryd.func36, Tryd.ntmps36; (try simp only [List.append_eq, List.cons_append, List.nil_append])
    go_wp2; go_ret; refine ⟨_, rfl, ?_, Below.refl _ _⟩; rw [Hrow.out]; exact World.ownsRow_nil _ _ _ _
  | some ad =>
    have hnil : ∀ w, (binOp .eql 27 (.slice (some ad) l.length cap) (.slice none 0 0)).run Tryd.prog w = .ok (.bool false) w := fun w => Lib.run_eql_slice_nil (P := Tryd.prog) w 27 _ (some ad) l.length cap 0 0 Tryd.underlying27
    have hrl : (l.map fun i => [Value.int .i64 i]).length = l.length := List.length_map _; have hsrc : ∀ W, Below n w W → Src W (.slice (some ad) l.length cap) 1 l.length (l.map fun i => Value.int .i64 i) := fun W h => by
      have h1 := Src.of_arr (n := n) (w := W) (p := some ad) (c := cap) (sz := 1) (rows := l.map fun i => [Value.int .i64 i]) (by rw [hrl]; exact Ha.out.mono h (Nat.le_refl _)) (fun r hr => by obtain ⟨i, -, rfl⟩ := List.mem_map.1 hr; rfl) (by decide) (by simp); rw [hrl] at h1; have h2 : (l.map fun i => [Value.int .i64 i]).flatten = l.map fun i => Value.int .i64 i := by
        clear hnil h1 hrl Ha
        induction l with
        | nil => rfl
        | cons a l ih => simp only [List.map_cons, List.flatten_cons, ih (by simp at hl; omega) (by simp at hc1; omega)]; rfl
      rw [h2] at h1; exact h1
    have Hsrc := Lib.hid hsrc; have H1 := Lib.hid (ints_one l); clear hsrc hrl
    go_enter Tryd.func36, Tryd.ntmps36; (try simp only [List.append_eq, List.cons_append, List.nil_append])
    go_wp2_with (at_builtin; refine wpList_append_src _ rfl _ _ _ rfl w.heap.size 3 i0 _ (1) (8) Tryd.underlying27 hi hz0 hz1 hz2 rfl (by decide) (.slice (some ⟨w.heap.size, 0, none⟩) 0 0) 0 [] rfl ⟨rfl, .inr ⟨_, 0, #[], rfl, Nat.le_refl _, World.alloc_heap_new w _, Nat.le_refl _, Nat.zero_le _, rfl, rfl⟩⟩ _ l.length _ rfl (Hsrc.out _ ((Below.refl _ _).alloc hn _)) H1.out (by unfold maxLen; omega) (by omega) (by simp) ?_; intro v3 w3 hown3 hgr3 hat3)
    go_ret; exact ⟨_, rfl, by simpa [OwnI] using hown3, ((Below.refl _ _).alloc (Nat.le_refl _) _).grown hgr3 (by simp) (by simp [Value.ownBlock])⟩
def outB (L : Nat) (r : Int) : Bool := decide (r < 1 ∨ (L : Int) < r)
theorem pOnlyC (pp : Option Addr) (L cp g : Nat) (r : Int) (w : World) (hB : Blk w g 26 [.slice pp L cp]) :
    Calls Tryd.prog 34 #[.int .i64 r, .pointer (some ⟨g, 0, none⟩)] w fun e' w' => e' = .returned (.bool (outB L r)) ∧ w = w' := by
  have c0 := hB.cell 0 _ rfl
  clear hB
  by_cases h1 : r < 1
  · have Ho : Hid (outB L r = true) := Lib.hid (by unfold outB; simp [h1])
    go_enter Tryd.func34, Tryd.ntmps34; (try simp only [List.append_eq, List.cons_append, List.nil_append])
    go_wp2; go_ret; exact ⟨ret_bool Ho.out.symm, rfl⟩
  · have Ho : Hid (outB L r = decide ((L : Int) < r)) := Lib.hid (by unfold outB; simp [h1])
    go_enter Tryd.func34, Tryd.ntmps34; (try simp only [List.append_eq, List.cons_append, List.nil_append])
    go_wp2; go_ret; exact ⟨ret_bool Ho.out.symm, rfl⟩
theorem sIndexOut (l : List Int) (v : Value) (pp : Option Addr) (L cp g n : Nat) (w : World) (hn : n ≤ w.heap.size) (hB : Blk w g 26 [.slice pp L cp]) (hl : IsInts n w v l) :
    Calls Tryd.prog 50 #[v, .func (.func 34) #[] #[.pointer (some ⟨g, 0, none⟩)]] w fun e' w' => (∃ r : Int, e' = .returned (.int .i64 r) ∧ decide (0 ≤ r) = l.any (outB L)) ∧ w = w' := by
  obtain ⟨p, cap, rfl, _, _, hlm⟩ := hl.open
  unfold maxLen at hlm
  have Hl := Lib.hid hl; have HBx := Lib.hid hB; clear hl hB
  go_enter Tryd.func50, Tryd.ntmps50; (try simp only [List.append_eq, List.cons_append, List.nil_append])
  go_wp2
  go_loopw [8] (fun i wr => ∃ k : Nat, k ≤ l.length ∧ i = .int .i64 k ∧ (l.take k).any (outB L) = false ∧ w = wr) (fun i _ => l.length - (intOf i).toNat)
  case atStart => exact ⟨0, Nat.zero_le _, rfl, by simp, rfl⟩
  case round =>
    obtain ⟨k, hk, rfl, hr, rfl⟩ := hrel; have Hr := Lib.hid hr; clear hr
    by_cases hlt : k < l.length
    · obtain ⟨b, off, rfl, hbn, c0⟩ := Hl.out.get hlt
      have Hany := Lib.hid (any_snoc (outB L) l k hlt); have Hat := Lib.hid (fun h => any_at (f := outB L) (l := l) hlt h); generalize l[k] = y at *; have HS := Lib.hid (pOnlyC pp L cp g y w HBx.out); obtain ⟨bq, hbq⟩ : ∃ bq, outB L y = bq := ⟨_, rfl⟩; rw [hbq] at HS Hany Hat; clear hbq
      go_wp2_with fail
      refine HS.out.mono ?_; rintro e' w1 ⟨rfl, rfl⟩; cases bq with
      | true =>
        go_wp2; go_ret; exact ⟨⟨(k : Int), rfl, by rw [Hat.out (by first | rfl | trivial)]; simp⟩, rfl⟩
      | false =>
        go_wp2; exact ⟨⟨k + 1, by omega, by go_num, by rw [Hany.out, Hr.out]; rfl, by first | rfl | trivial⟩, by simp [intOf]; omega⟩
    · have hk' : k = l.length := by omega
      subst hk'; have hr := Hr.out; rw [List.take_of_length_le (Nat.le_refl _)] at hr; have Hr2 := Lib.hid hr; clear hr; go_wp2; go_ret; exact ⟨⟨-1, rfl, by rw [Hr2.out]; rfl⟩, rfl⟩
theorem sHasOut (l : List Int) (v : Value) (pp : Option Addr) (L cp g n : Nat) (w : World) (hn : n ≤ w.heap.size) (hB : Blk w g 26 [.slice pp L cp]) (hl : IsInts n w v l) :
    Calls Tryd.prog 33 #[v, .func (.func 34) #[] #[.pointer (some ⟨g, 0, none⟩)]] w fun e' w' => e' = .returned (.bool (l.any (outB L))) ∧ w = w' := by
  have HS := Lib.hid (sIndexOut l v pp L cp g n w hn hB hl)
  clear hB hl
  go_enter Tryd.func33, Tryd.ntmps33; (try simp only [List.append_eq, List.cons_append, List.nil_append])
  go_wp2_with fail
  refine HS.out.mono ?_
  rintro e' w1 ⟨⟨r, rfl, hr⟩, rfl⟩
  have HR := Lib.hid hr; clear hr
  go_wp2
  go_ret
  exact ⟨ret_bool HR.out, rfl⟩
end Go.Proofs.YtdjdikiimhhjpaaDoor
namespace Go.Proofs.YtdjdikiimhhjpaaDoor
open Go.RowKit
set_option linter.unusedSimpArgs false
set_option linter.unusedVariables false
theorem numsOf_in : ∀ (l : List Bool) (i : Int), ∀ x ∈ numsOf l i, i < x ∧ x ≤ i + l.length
  | [], i, x, h => by simp [numsOf] at h
  | a :: l, i, x, h => by
    rw [numsOf] at h; have := numsOf_in l (i + 1) x; simp only [List.length_cons]
    split at h
    · rcases List.mem_cons.1 h with rfl | h
      · omega
      · have := this h; omega
    · have := this h; omega
theorem maxTo_step {l : List Int} {k : Nat} (h : k < l.length) : maxTo (l.take (k + 1)) = max (maxTo (l.take k)) l[k] := by
  rw [List.take_succ_eq_append_getElem h]; unfold maxTo; rw [List.foldl_append]; rfl
theorem ndHorizon_bad {p : List Nd} {t : Int} (h : ¬ (ndCheck p = 0 ∧ 1 ≤ t ∧ t ≤ (p.length : Int))) : ndHorizon p t = 0 := by unfold ndHorizon; rw [if_neg h]
theorem ndHorizon_ok {p : List Nd} {t : Int} (h : ndCheck p = 0 ∧ 1 ≤ t ∧ t ≤ (p.length : Int)) : ndHorizon p t = maxTo ((ndUsed p [t]).map (spanAt p)) := by unfold ndHorizon; rw [if_pos h, ndUsed_ok h.1]
theorem ints_blk {w : World} {g : Nat} {l : List Int} (h : Blk w g 3 (l.map fun i => Value.int .i64 i)) (hl : l.length ≤ maxLen) : IsInts w.heap.size w (.slice (some ⟨g, 0, none⟩) l.length l.length) l := by
  refine ⟨_, l.length, by rw [List.length_map], by simp, hl, fun _ => ⟨g, 0, rfl, h.lt, fun k r hr j x hx => ?_⟩⟩
  rw [List.getElem?_map] at hr
  obtain ⟨a, ha, rfl⟩ := Option.map_eq_some_iff.1 hr
  have hj : j = 0 := by have := (List.getElem?_eq_some_iff.1 hx).1; simpa using this
  subst hj
  simp only [List.getElem?_cons_zero, Option.some.injEq] at hx
  subst hx
  have := h.cell k (.int .i64 a) (by rw [List.getElem?_map, ha]; rfl)
  rw [show 0 + k * 1 + 0 = k by omega]; exact this
theorem spanAt_of {p : List Nd} {k : Nat} (h : k < p.length) : spanAt p ((k : Int) + 1) = p[k].ex.span := by
  unfold spanAt
  rw [show ((k : Int) + 1).toNat - 1 = k by omega, List.getElem?_eq_getElem h]
theorem pHorizon (p : List Nd) (t : Int) (v : Value) (n : Nat) (w : World) (hn : n ≤ w.heap.size) (hp : IsNds n w v p) :
    Calls Tryd.prog 17 #[v, .int .i64 t] w fun e' w' => e' = .returned (.int .i64 (ndHorizon p t)) ∧ Below w.heap.size w w' := by
  obtain ⟨pp, cp, rfl, _, hcm, hpm⟩ := hp.open
  unfold maxLen at hcm hpm
  have HP := Lib.hid hp
  clear hp
  have HC := Lib.hid (pCheck p _ n w hn HP.out)
  by_cases hc : ndCheck p = 0
  · rw [hc] at HC
    by_cases h1 : 1 ≤ t
    · by_cases h2 : t ≤ (p.length : Int)
      · rw [ndHorizon_ok ⟨hc, h1, h2⟩]
        have HU := Lib.hid (fun W vr (h : Below w.heap.size w W) (hr : IsInts W.heap.size W vr [t]) => pUsedN p [t] _ vr W.heap.size W (Nat.le_refl _) (HP.out.mono (h.mono hn) (Nat.le_trans hn h.size)) hr (by simp)); have hin : ∀ x ∈ ndUsed p [t], 0 < x ∧ x ≤ (p.length : Int) := by
          intro x hx; rw [ndUsed_ok hc] at hx; have := numsOf_in _ _ x hx; rw [usedL_len] at this; omega
        have Hin := Lib.hid hin; obtain ⟨l, hl⟩ : ∃ l, ndUsed p [t] = l := ⟨_, rfl⟩; rw [hl] at Hin HU ⊢; clear hl hin hc
        go_enter Tryd.func17, Tryd.ntmps17; (try simp only [List.append_eq, List.cons_append, List.nil_append])
        go_wp2_with fail
        refine HC.out.mono ?_; rintro e' w1 ⟨rfl, hb1⟩; have HB1 := Lib.hid hb1; have hs1 := hb1.size; clear hb1
        go_wp2_with fail
        obtain ⟨X, hW⟩ : ∃ z, w1.alloc (.cells #[.int .i64 t] 3) = z := ⟨_, rfl⟩; have kb : Below w1.heap.size w1 X := by rw [← hW]; exact (Below.refl _ _).alloc (Nat.le_refl _) _
        have B1 : Blk X w1.heap.size 3 [.int .i64 t] := by rw [← hW]; exact Blk.new w1 _ _
        rw [hW]; clear hW; refine (HU.out X _ (HB1.out.trans (kb.mono hs1)) (ints_blk (l := [t]) B1 (by simp [maxLen]))).mono ?_; rintro e' w2 ⟨v2, rfl, hown, hb2⟩; have hsX := kb.size; have hi := hown.ints (Nat.le_refl _); obtain ⟨p2, c2, rfl, _, _, hlm⟩ := hi.open; unfold maxLen at hlm; have Hi := Lib.hid hi; have Hb := Lib.hid (HB1.out.trans ((kb.trans (hb2.mono hsX)).mono hs1)); clear kb B1 hown hb2 hi HU
        go_wp2_with fail
        go_loopw [5, 26] (fun s j wr => ∃ k : Nat, k ≤ l.length ∧ j = .int .i64 k ∧ s = .int .i64 (maxTo ((l.take k).map (spanAt p))) ∧ w2 = wr) (fun _ j _ => l.length - (intOf j).toNat)
        case atStart => exact ⟨0, Nat.zero_le _, rfl, rfl, rfl⟩
        case round =>
          obtain ⟨k, hk', rfl, rfl, rfl⟩ := hrel
          by_cases hlt : k < l.length
          · have hki : (k : Int) < (l.length : Int) := by omega
            obtain ⟨b, off, rfl, hbn, e0⟩ := Hi.out.get hlt; have hin := Hin.out l[k] (List.getElem_mem hlt); have Hst := Lib.hid (show maxTo ((l.take (k + 1)).map (spanAt p)) = max (maxTo ((l.take k).map (spanAt p))) (spanAt p l[k]) from by
              have := maxTo_step (l := l.map (spanAt p)) (k := k) (by rw [List.length_map]; exact hlt); rw [← List.map_take, ← List.map_take, List.getElem_map] at this; exact this)
            generalize l[k] = r at *; obtain ⟨i, rfl⟩ : ∃ i : Nat, r = (i : Int) + 1 := ⟨(r - 1).toNat, by omega⟩; have hi2 : i < p.length := by omega
            rw [spanAt_of hi2] at Hst; obtain ⟨b3, off3, pm, cm, pn, cn, pk, ck, pi, ci, rfl, hbn3, -, -, hc⟩ := (HP.out.mono (Hb.out.mono hn) (Nat.le_refl _)).get hi2; have c7 := hc 7 _ rfl; clear hc hin; generalize maxTo ((l.take k).map (spanAt p)) = m0 at *; generalize p[i].ex.span = m1 at *; go_wp2; refine ⟨⟨k + 1, by omega, by go_num, ?_, by first | rfl | trivial⟩, by simp [intOf]; omega⟩; rw [Hst.out]
            congr 1
            split <;> omega
          · have hk2 : k = l.length := by omega
            subst hk2; go_wp2; go_ret; exact ⟨ret_int (by rw [List.take_length]), Hb.out⟩
      · have h2' : (p.length : Int) < t := by omega
        rw [ndHorizon_bad (fun h => h2 h.2.2)]; clear hc
        go_enter Tryd.func17, Tryd.ntmps17; (try simp only [List.append_eq, List.cons_append, List.nil_append])
        go_wp2_with fail
        refine HC.out.mono ?_; rintro e' w1 ⟨rfl, hb1⟩; have HB1 := Lib.hid hb1; clear hb1; go_wp2
        all_goals go_ret
        all_goals exact ⟨rfl, HB1.out⟩
    · have h1' : t < 1 := by omega
      rw [ndHorizon_bad (fun h => h1 h.2.1)]; clear hc
      go_enter Tryd.func17, Tryd.ntmps17; (try simp only [List.append_eq, List.cons_append, List.nil_append])
      go_wp2_with fail
      refine HC.out.mono ?_; rintro e' w1 ⟨rfl, hb1⟩; have HB1 := Lib.hid hb1; clear hb1; go_wp2; go_ret; exact ⟨rfl, HB1.out⟩
  · have hcb : (ndCheck p != 0) = true := by simpa using hc
    rw [ndHorizon_bad (fun h => hc h.1)]; generalize ndCheck p = c at *
    go_enter Tryd.func17, Tryd.ntmps17; (try simp only [List.append_eq, List.cons_append, List.nil_append])
    go_wp2_with fail
    refine HC.out.mono ?_; rintro e' w1 ⟨rfl, hb1⟩; have HB1 := Lib.hid hb1; clear hb1; go_wp2; go_ret; exact ⟨rfl, HB1.out⟩
end Go.Proofs.YtdjdikiimhhjpaaDoor
