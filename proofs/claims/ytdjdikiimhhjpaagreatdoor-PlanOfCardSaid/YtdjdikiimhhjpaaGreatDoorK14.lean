/- plan.used. -/
import Derived.Test.YtdjdikiimhhjpaaGreatDoorK12
import Derived.Test.YtdjdikiimhhjpaaGreatDoorK13
import Derived.Test.YtdjdikiimhhjpaaGreatDoorK9
import Derived.Laws.MakeOwn
import Derived.Test.YtdjdikiimhhjpaaGreatDoorK7
import Derived.Test.YtdjdikiimhhjpaaGreatDoorK11
set_option maxRecDepth 100000
set_option maxHeartbeats 16000000
namespace Go.Proofs.YtdjdikiimhhjpaaGreatDoor
open Go.RowKit
set_option linter.unusedSimpArgs false
set_option linter.unusedVariables false
structure Marks (ws : List Nat) (m : List Bool) : Prop where
  lt : ∀ x ∈ ws, x < 18446744073709551616
  len : ws.length = m.length / 64 + 1
  bit : ∀ j, j < m.length → (ws.getD ((j + 1) / 64) 0).testBit ((j + 1) % 64) = m.getD j false
theorem Marks.at {ws : List Nat} {m : List Bool} (h : Marks ws m) {n : Nat} (hn : n ≤ m.length) : n / 64 < ws.length := by
  rw [h.len]
  have := Nat.div_le_div_right (c := 64) hn
  omega
theorem Marks.get {ws : List Nat} {m : List Bool} (h : Marks ws m) {j : Nat} (hj : j < m.length) : (ws[(j + 1) / 64]'(h.at hj)).testBit ((j + 1) % 64) = m.getD j false := by
  rw [← h.bit j hj, List.getD_eq_getElem?_getD, List.getElem?_eq_getElem (h.at hj)]; rfl
theorem Marks.put {ws : List Nat} {m : List Bool} (h : Marks ws m) {j : Nat} (hj : j < m.length) : Marks (ws.set ((j + 1) / 64) ((ws[(j + 1) / 64]'(h.at hj)) ||| 2 ^ ((j + 1) % 64))) (m.set j true) := by
  have ha := h.at (n := j + 1) hj
  have hm : (j + 1) % 64 < 64 := Nat.mod_lt _ (by decide)
  have hp : 2 ^ ((j + 1) % 64) < 2 ^ 64 := Nat.pow_lt_pow_right (by decide) hm
  refine ⟨fun x hx => ?_, by simp [h.len], fun i hi => ?_⟩
  · rcases List.mem_or_eq_of_mem_set hx with hx | rfl
    · exact h.lt x hx
    · exact Nat.or_lt_two_pow (n := 64) (h.lt _ (List.getElem_mem ha)) hp
  · rw [List.length_set] at hi
    rw [getD_set hi, ← h.bit i hi]; simp only [List.getD_eq_getElem?_getD, List.getElem?_set]
    by_cases hq : (j + 1) / 64 = (i + 1) / 64
    · rw [if_pos hq, if_pos ha, ← hq, List.getElem?_eq_getElem ha]
      simp only [Option.getD_some, Nat.testBit_or, Nat.testBit_two_pow]
      congr 1
      by_cases e : j = i
      · subst e; simp
      · have : (j + 1) % 64 ≠ (i + 1) % 64 := fun he => e (by
          have h1 := Nat.div_add_mod (j + 1) 64; have h2 := Nat.div_add_mod (i + 1) 64; rw [hq, he] at h1; omega)
        simp [e, this]
    · rw [if_neg hq]
      have e : j ≠ i := fun e => hq (by rw [e])
      simp [e]
theorem Marks.zero (n : Nat) : Marks (List.replicate (n / 64 + 1) 0) (List.replicate n false) := by
  refine ⟨fun x hx => ?_, by simp, fun j hj => ?_⟩
  · rw [List.eq_of_mem_replicate hx]; decide
  · have e1 : (List.replicate (n / 64 + 1) 0).getD ((j + 1) / 64) 0 = 0 := by
      simp only [List.getD_eq_getElem?_getD, List.getElem?_replicate]
      split <;> rfl
    have e2 : (List.replicate n false).getD j false = false := by
      simp only [List.getD_eq_getElem?_getD, List.getElem?_replicate]
      split <;> rfl
    rw [e1, e2, Nat.zero_testBit]
theorem infoW64 : (Tryz.prog.info? 75).map (fun i => (i.zero, i.size, i.bytes)) = some (some (.int .u64 0), 1, 8) := by kernel_rfl
theorem mk_words (w : World) (L : Nat) (c : Int) (hc : c = (L : Int)) (hL : L ≤ 1000) :
    (Instr.makeSlice 58 (.int .i64 c) (.int .i64 c)).run Tryz.prog w = .ok (.slice (some ⟨w.heap.size, 0, none⟩) L L) (w.alloc (.cells (bitCs (List.replicate L 0)).toArray 75)) := by
  subst hc
  obtain ⟨i0, hi, hz0, hz1, hz2⟩ := info_parts infoW64
  have h := run_make (P := Tryz.prog) w 58 75 i0 (.int .u64 0) Tryz.underlying58 hi hz0 .i64 .i64 (L : Int) (L : Int) (by omega) (Int.le_refl _) (by rw [hz2]; omega) (by omega)
  rw [h, Int.toNat_natCast, hz1, Nat.mul_one]
  congr 3
  apply Array.ext
  · simp [madeCells, bitCs]
  · intro k h1 h2
    simp [madeCells, bitCs, Value.cells] at h1 ⊢
    simp [Nat.mod_one]
theorem markRoots_snoc (n : Nat) (r : Int) : ∀ (l : List Int) (m : List Bool), markRoots n (l ++ [r]) m = if 1 ≤ r ∧ r ≤ (n : Int) then (markRoots n l m).set (r.toNat - 1) true else markRoots n l m
  | [], m => rfl
  | a :: l, m => by rw [List.cons_append, markRoots, markRoots_snoc n r l, markRoots]
theorem marksIn_snoc (r : Int) : ∀ (l : List Int) (m : List Bool), marksIn (l ++ [r]) m = (marksIn l m).set (r.toNat - 1) true
  | [], m => rfl
  | a :: l, m => by rw [List.cons_append, marksIn, marksIn_snoc r l, marksIn]
end Go.Proofs.YtdjdikiimhhjpaaGreatDoor
namespace Go.Proofs.YtdjdikiimhhjpaaGreatDoor
open Go.RowKit
set_option linter.unusedSimpArgs false
set_option linter.unusedVariables false
theorem pUsed (p : List Nd) (roots : List Int) (v vr : Value) (n : Nat) (w : World) (hn : n ≤ w.heap.size) (hp : IsNds n w v p) (hr : IsInts n w vr roots) (hc : ndCheck p = 0) (hrl : roots.length ≤ 1000000) :
    Calls Tryz.prog 22 #[v, vr] w fun e' w' => ∃ ws, e' = .returned (.slice (some ⟨w.heap.size, 0, none⟩) ws.length ws.length) ∧ Blk w' w.heap.size 75 (bitCs ws) ∧ Marks ws (usedL p roots) ∧ Below w.heap.size w w' := by
  obtain ⟨pp, cp, rfl, _, hcm, hpm⟩ := hp.open
  obtain ⟨rp, cr, rfl, _, hcr, hrm⟩ := hr.open
  unfold maxLen at hcm hpm hcr hrm
  obtain ⟨hl, hok⟩ := ndCheck_0 hc
  have HA := Lib.hid hok.ahead
  have HP := Lib.hid hp; have HR := Lib.hid hr
  clear hp hr hok hc
  obtain ⟨L, hL⟩ : ∃ L, p.length / 64 + 1 = L := ⟨_, rfl⟩
  have HL := Lib.hid hL
  have hmk := mk_words w L ((p.length : Int) / 64 + 1) (by omega) (by omega)
  clear hL
  go_enter Tryz.func22, Tryz.ntmps22; (try simp only [List.append_eq, List.cons_append, List.nil_append])
  go_upto_region 2 with fail
  clear hmk
  obtain ⟨X, hW⟩ : ∃ z, w.alloc (.cells (bitCs (List.replicate L 0)).toArray 75) = z := ⟨_, rfl⟩
  have kb : Below w.heap.size w X := by rw [← hW]; exact (Below.refl _ _).alloc (Nat.le_refl _) _
  have B1 : Blk X w.heap.size 75 (bitCs (List.replicate L 0)) := by rw [← hW]; exact Blk.new w _ _
  rw [hW]; clear hW
  have HB := Lib.hid kb; have HX := Lib.hid B1
  have HM0 : Hid (Marks (List.replicate L 0) (List.replicate p.length false)) := Lib.hid (by rw [← HL.out]; exact Marks.zero p.length)
  clear kb B1
  go_wp2_with fail
  go_loopw [18] (fun j wr => ∃ (k : Nat) (ws : List Nat), k ≤ roots.length ∧ j = .int .i64 k ∧ Blk wr w.heap.size 75 (bitCs ws) ∧ Marks ws (markRoots p.length (roots.take k) (List.replicate p.length false)) ∧ Below w.heap.size w wr) (fun j _ => roots.length - (intOf j).toNat)
  case atStart => exact ⟨0, _, Nat.zero_le _, rfl, HX.out, HM0.out, HB.out⟩
  case round =>
    obtain ⟨k, ws, hk, rfl, hbk, hmk, hb⟩ := hrel; have Hbk := Lib.hid hbk; have Hmk := Lib.hid hmk; have Hb := Lib.hid hb; clear hbk hmk hb; have hml : (markRoots p.length (roots.take k) (List.replicate p.length false)).length = p.length := by rw [markRoots_len, List.length_replicate]
    have hwl : ws.length = L := by rw [Hmk.out.len, hml, HL.out]
    have Hml := Lib.hid hml; clear hml
    by_cases hlt : k < roots.length
    · obtain ⟨b, off, rfl, hbn, e0⟩ := (HR.out.mono (Hb.out.mono hn) (Nat.le_refl _)).get hlt
      have hki : (k : Int) < (roots.length : Int) := by omega
      have Hstep := Lib.hid (show markRoots p.length (roots.take (k + 1)) (List.replicate p.length false) = if 1 ≤ roots[k] ∧ roots[k] ≤ (p.length : Int) then (markRoots p.length (roots.take k) (List.replicate p.length false)).set (roots[k].toNat - 1) true else markRoots p.length (roots.take k) (List.replicate p.length false) from by rw [List.take_succ_eq_append_getElem hlt]; exact markRoots_snoc _ _ _ _); generalize roots[k] = r at *
      by_cases h1 : 1 ≤ r
      · by_cases h2 : r ≤ (p.length : Int)
        · obtain ⟨j, rfl⟩ : ∃ j : Nat, r = (j : Int) + 1 := ⟨(r - 1).toNat, by omega⟩
          have hj : j < p.length := by omega
          have hst := Hstep.out; rw [if_pos ⟨h1, h2⟩, show ((j : Int) + 1).toNat - 1 = j by omega] at hst; have hput := Hmk.out.put (j := j) (by rw [Hml.out]; exact hj); rw [← hst] at hput; have hs := pSet ws w.heap.size L (j + 1) wr Hbk.out Hmk.out.lt (Hmk.out.at (by rw [Hml.out]; exact hj)) (by omega); rw [hwl] at hs; have HS := Lib.hid hs; have Hput := Lib.hid hput; clear hst hs hput
          go_wp2_with fail
          refine HS.out.mono ?_; rintro e' w1 ⟨rfl, hb1, ho⟩; have Hb1 := Lib.hid hb1; have Hb := Lib.hid (Hb.out.trans (ho.below (fun i hi => by omega) Hb.out.size)); clear hb1 ho; go_wp2; exact ⟨⟨k + 1, _, by omega, by go_num, Hb1.out, Hput.out, Hb.out⟩, by simp [intOf]; omega⟩
        · have hst := Hstep.out
          rw [if_neg (fun h => h2 h.2)] at hst; have Hst := Lib.hid hst; clear hst; go_wp2; exact ⟨⟨k + 1, ws, by omega, by go_num, Hbk.out, by rw [Hst.out]; exact Hmk.out, Hb.out⟩, by simp [intOf]; omega⟩
      · have hst := Hstep.out
        rw [if_neg (fun h => h1 h.1)] at hst; have Hst := Lib.hid hst; clear hst; go_wp2; exact ⟨⟨k + 1, ws, by omega, by go_num, Hbk.out, by rw [Hst.out]; exact Hmk.out, Hb.out⟩, by simp [intOf]; omega⟩
    · have hk' : k = roots.length := by omega
      subst hk'; have hm2 := Hmk.out; rw [List.take_of_length_le (Nat.le_refl _)] at hm2; obtain ⟨m0, hm0⟩ : ∃ z, markRoots p.length roots (List.replicate p.length false) = z := ⟨_, rfl⟩; have hu : usedF p p.length m0 = usedL p roots := by rw [← hm0]; rfl
      have hml := Hml.out; rw [List.take_of_length_le (Nat.le_refl _), hm0] at hml; rw [hm0] at hm2; have Hm2 := Lib.hid hm2; have HU := Lib.hid hu; have Hml2 := Lib.hid hml; clear hm2 hu hml Hml hm0 Hmk hk hlt hwl HM0 HX HB
      go_wp2_with fail
      go_loopw [8] (fun j wr => ∃ (k : Nat) (ws : List Nat) (m : List Bool), k ≤ p.length ∧ j = .int .i64 k ∧ Blk wr w.heap.size 75 (bitCs ws) ∧ Marks ws m ∧ m.length = p.length ∧ usedF p k m = usedL p roots ∧ Below w.heap.size w wr) (fun j _ => (intOf j).toNat)
      case atStart => exact ⟨p.length, ws, m0, Nat.le_refl _, rfl, Hbk.out, Hm2.out, Hml2.out, HU.out, Hb.out⟩
      case round =>
        clear Hbk Hm2 Hml2 HU Hb; obtain ⟨k, ws, m, hk, rfl, hbk, hmk, hml, hu, hb⟩ := hrel; have Hbk := Lib.hid hbk; have Hmk := Lib.hid hmk; have Hml := Lib.hid hml; have HU := Lib.hid hu; have Hb := Lib.hid hb; clear hbk hmk hml hu hb; have hwl : ws.length = L := by rw [Hmk.out.len, Hml.out, HL.out]
        cases k with
        | zero =>
          have hfin : Marks ws (usedL p roots) := by rw [← HU.out]; exact Hmk.out
          have HF := Lib.hid hfin; clear hfin; go_wp2; go_ret; exact ⟨ws, by rw [hwl]; rfl, Hbk.out, HF.out, Hb.out⟩
        | succ k =>
          have hkp : k < p.length := hk; have hki : (0 : Int) < ((k + 1 : Nat) : Int) := by omega
          have hh := pHas ws w.heap.size L (k + 1) wr Hbk.out Hmk.out.lt (Hmk.out.at (by rw [Hml.out]; omega)) (by omega); rw [Hmk.out.get (by rw [Hml.out]; omega), hwl] at hh; obtain ⟨b, off, pm, cm, pn, cn, pk, ck, pi, ci, rfl, hbn, -, hii, hc⟩ := (HP.out.mono (Hb.out.mono hn) (Nat.le_refl _)).get hkp; obtain ⟨x, hx⟩ : ∃ x, p[k] = x := ⟨_, rfl⟩; have hins : insAt p k = x.ins := by unfold insAt; rw [List.getElem?_eq_getElem hkp, hx]
          rw [hx] at hii hc; have c10 := hc 10 _ rfl; have Hii := Lib.hid hii; obtain ⟨_, _, hiv, _, _, hil⟩ := hii.open; unfold maxLen at hil; have Hins := Lib.hid hins; have Hh := Lib.hid hh; have Hgo := Lib.hid (fun (h : m.getD k false = true) => show usedF p k (marksIn x.ins m) = usedL p roots from by have := HU.out; rw [usedF, if_pos h, hins] at this; exact this); have Hno := Lib.hid (fun (h : m.getD k false = false) => show usedF p k m = usedL p roots from by have := HU.out; rw [usedF, h, if_neg (by decide)] at this; exact this); clear hc hii hiv hins hh hx; generalize m.getD k false = bk at Hh Hgo Hno
          go_wp2_with fail
          refine Hh.out.mono ?_; rintro e' w1 ⟨rfl, rfl⟩; cases bk with
          | false =>
            go_wp2; exact ⟨⟨k, ws, m, by omega, rfl, Hbk.out, Hmk.out, Hml.out, Hno.out (by first | rfl | trivial), Hb.out⟩, by simp [intOf]⟩
          | true =>
            have HU2 := Lib.hid (Hgo.out (by first | rfl | trivial)); obtain ⟨W1, rfl⟩ : ∃ z, z = wr := ⟨_, rfl⟩; have HAx := Lib.hid (fun r (h : r ∈ x.ins) => HA.out k r (by rw [Hins.out]; exact h)); clear Hgo Hno
            go_wp2_with fail
            go_loopw [50] (fun j wq => ∃ (i : Nat) (ws : List Nat), i ≤ x.ins.length ∧ j = .int .i64 i ∧ Blk wq w.heap.size 75 (bitCs ws) ∧ Marks ws (marksIn (x.ins.take i) m) ∧ Below w.heap.size w wq ∧ Below w.heap.size W1 wq) (fun j _ => x.ins.length - (intOf j).toNat)
            case atStart => exact ⟨0, ws, Nat.zero_le _, rfl, Hbk.out, Hmk.out, Hb.out, Below.refl _ _⟩
            case round =>
              clear Hbk Hmk Hb hwl hbn; obtain ⟨i, ws, hi, rfl, hbk, hmk, hb, hb1⟩ := hrel; have Hb1 := Lib.hid hb1; clear hb1; have Hbk := Lib.hid hbk; have Hmk := Lib.hid hmk; have Hb := Lib.hid hb; clear hbk hmk hb; have hml2 : (marksIn (x.ins.take i) m).length = p.length := by rw [marksIn_len, Hml.out]
              have hwl : ws.length = L := by rw [Hmk.out.len, hml2, HL.out]
              by_cases hlt : i < x.ins.length
              · have hii2 : (i : Int) < (x.ins.length : Int) := by omega
                obtain ⟨b2, off2, rfl, hbn2, e0⟩ := (Hii.out.mono (Hb1.out.mono hn) (Nat.le_refl _)).get hlt; have hax := HAx.out x.ins[i] (List.getElem_mem hlt); have Hstep := Lib.hid (show marksIn (x.ins.take (i + 1)) m = (marksIn (x.ins.take i) m).set (x.ins[i].toNat - 1) true from by rw [List.take_succ_eq_append_getElem hlt]; exact marksIn_snoc _ _ _); generalize x.ins[i] = r at *; obtain ⟨j, rfl⟩ : ∃ j : Nat, r = (j : Int) + 1 := ⟨(r - 1).toNat, by omega⟩; have hj : j < p.length := by omega
                have hst := Hstep.out; rw [show ((j : Int) + 1).toNat - 1 = j by omega] at hst; have hput := Hmk.out.put (j := j) (by rw [hml2]; exact hj); rw [← hst] at hput; have hs := pSet ws w.heap.size L (j + 1) wr Hbk.out Hmk.out.lt (Hmk.out.at (by rw [hml2]; exact hj)) (by omega); rw [hwl] at hs; have HS := Lib.hid hs; have Hput := Lib.hid hput; have Hml2 := Lib.hid hml2; have Hax := Lib.hid hax; clear hst hs hput hax Hstep
                go_wp2_with fail
                refine HS.out.mono ?_; rintro e' w1 ⟨rfl, hb1, ho⟩; have Hbk1 := Lib.hid hb1; have Hbb := Lib.hid (ho.below (fun i hi => by omega) Hb.out.size); clear hb1 ho; go_wp2; exact ⟨⟨i + 1, _, by omega, by go_num, Hbk1.out, Hput.out, Hb.out.trans Hbb.out, Hb1.out.trans Hbb.out⟩, by simp [intOf]; omega⟩
              · have hi' : i = x.ins.length := by omega
                subst hi'; have hm2 := Hmk.out; rw [List.take_of_length_le (Nat.le_refl _)] at hm2; have hl2 : (marksIn x.ins m).length = p.length := by rw [marksIn_len, Hml.out]
                have Hm2 := Lib.hid hm2; have Hl2 := Lib.hid hl2; clear hm2 hl2 hml2; go_wp2; exact ⟨⟨k, ws, _, by omega, by go_num, Hbk.out, Hm2.out, Hl2.out, HU2.out, Hb.out⟩, by simp [intOf]⟩
end Go.Proofs.YtdjdikiimhhjpaaGreatDoor
namespace Go.Proofs.YtdjdikiimhhjpaaGreatDoor
open Go.RowKit
set_option linter.unusedSimpArgs false
set_option linter.unusedVariables false
theorem infoI64 : (Tryz.prog.info? 3).map (fun i => (i.zero, i.size, i.bytes)) = some (some (.int .i64 0), 1, 8) := by kernel_rfl
theorem app_int {ops : Array Oper} {rest : List Oper} {o : Oper} {a : Act} {w : World} {Q : Exit → Act → World → Prop} (hgd : o.guard = none) (s x : Operand)
    (ho : o.op = .call { callee := .builtin .append, args := #[s, x], argTypes := #[26, 26] }) (base : Nat) (v : Value) (l : List Int) (i : Int) (g : Nat)
    (hs : a.eval s = v) (hx : a.eval x = .slice (some ⟨g, 0, none⟩) 1 1) (hown : OwnI 3 base w v l) (hc : w.cell? ⟨g, 0, none⟩ = some (.int .i64 i)) (hl : l.length ≤ 1000000) (hbase : base ≤ w.heap.size)
    (h : ∀ v' w', OwnI 3 base w' v' (l ++ [i]) → w.grownBy w' v.ownBlock → (v'.ownBlock = v.ownBlock ∨ v'.ownBlock = some w.heap.size) → wpList Tryz.prog ops Q rest (a.put o.dst v') w') :
    wpList Tryz.prog ops Q (o :: rest) a w := by
  obtain ⟨i0, hi, hz0, hz1, hz2⟩ := info_parts infoI64
  refine wpList_append_src _ hgd s x 26 ho base 3 i0 (.int .i64 0) 1 8 Tryz.underlying26 hi hz0 hz1 hz2 rfl (by decide) v l.length _ hs hown _ 1 [.int .i64 i] hx (.inr ⟨⟨g, 0, none⟩, 1, rfl, rfl, ?_⟩) (by intro u hu; simp at hu; subst hu; rfl) (by unfold maxLen; omega) (by omega) hbase ?_
  · intro j u hj
    match j, hj with
    | 0, hj => simp at hj; subst hj; simpa [Addr.add] using hc
    | j + 1, hj => simp at hj
  · intro v' w' h1 h2 h3
    refine h v' w' ?_ h2 h3; unfold OwnI; rw [List.length_append, List.map_append]; exact h1
theorem OwnI.app {t base B : Nat} {a w w' : World} {v : Value} {l : List Int} (h : Below B a w) (ho : OwnI t base w v l) {o : Obj} (hg : (w.alloc o).grownBy w' v.ownBlock) (hB : B ≤ base) (hs : B ≤ w.heap.size) : Below B a w' :=
  below_app (h.alloc hs o) (ho.keep ((Below.refl _ _).alloc (Nat.le_refl _) o)) hg hB (by simp; omega)
theorem numsOf_snoc (b : Bool) : ∀ (l : List Bool) (i : Int), numsOf (l ++ [b]) i = numsOf l i ++ (if b then [i + l.length + 1] else [])
  | [], i => by simp [numsOf]
  | a :: l, i => by
    rw [List.cons_append, numsOf, numsOf, numsOf_snoc b l]; have : i + 1 + (l.length : Int) + 1 = i + ((a :: l).length : Int) + 1 := by simp; omega
    rw [this]
    split <;> simp
theorem numsOf_len : ∀ (l : List Bool) (i : Int), (numsOf l i).length ≤ l.length
  | [], i => by simp [numsOf]
  | a :: l, i => by rw [numsOf]; have := numsOf_len l (i + 1); split <;> simp <;> omega
theorem numsOf_step {m : List Bool} {k : Nat} (h : k < m.length) : numsOf (m.take (k + 1)) 0 = numsOf (m.take k) 0 ++ (if m.getD k false then [(k : Int) + 1] else []) := by
  rw [List.take_succ_eq_append_getElem h, numsOf_snoc, List.getD_eq_getElem?_getD, List.getElem?_eq_getElem h, List.length_take]
  have : (0 : Int) + ((min k m.length : Nat) : Int) + 1 = (k : Int) + 1 := by rw [Nat.min_eq_left (Nat.le_of_lt h)]; omega
  rw [this]; rfl
theorem ndUsed_bad {p : List Nd} {roots : List Int} (h : ndCheck p ≠ 0) : ndUsed p roots = [] := by unfold ndUsed; rw [if_neg h]
theorem ndUsed_ok {p : List Nd} {roots : List Int} (h : ndCheck p = 0) : ndUsed p roots = numsOf (usedL p roots) 0 := by unfold ndUsed; rw [if_pos h]
end Go.Proofs.YtdjdikiimhhjpaaGreatDoor
namespace Go.Proofs.YtdjdikiimhhjpaaGreatDoor
open Go.RowKit
set_option linter.unusedSimpArgs false
set_option linter.unusedVariables false
def outIn (t : Int) (i : Int) (l : List Int) : List Int := (l.filter fun m => m == t).map fun _ => i + 1
def outsOf (t : Int) : List Nd → Int → List Int
  | [], _ => []
  | x :: r, i => outIn t i x.ins ++ outsOf t r (i + 1)
noncomputable def ndOut (p : List Nd) (t : Int) : List Int := open Classical in if ndCheck p = 0 then outsOf t p 0 else []
theorem outIn_step {t i : Int} {l : List Int} {k : Nat} (h : k < l.length) : outIn t i (l.take (k + 1)) = outIn t i (l.take k) ++ (if l[k] = t then [i + 1] else []) := by
  rw [List.take_succ_eq_append_getElem h]
  unfold outIn
  rw [List.filter_append, List.map_append, List.filter_cons, List.filter_nil]
  by_cases e : l[k] = t <;> simp [e]
theorem outIn_len {t i : Int} (l : List Int) : (outIn t i l).length ≤ l.length := by
  unfold outIn; rw [List.length_map]; exact List.length_filter_le _ _
theorem outsOf_snoc (t : Int) (x : Nd) : ∀ (l : List Nd) (i : Int), outsOf t (l ++ [x]) i = outsOf t l i ++ outIn t (i + l.length) x.ins
  | [], i => by simp [outsOf]
  | a :: l, i => by
    rw [List.cons_append, outsOf, outsOf, outsOf_snoc t x l]; have : i + 1 + (l.length : Int) = i + ((a :: l).length : Int) := by simp; omega
    rw [this, List.append_assoc]
theorem outsOf_step {t : Int} {p : List Nd} {k : Nat} (h : k < p.length) : outsOf t (p.take (k + 1)) 0 = outsOf t (p.take k) 0 ++ outIn t (k : Int) p[k].ins := by
  rw [List.take_succ_eq_append_getElem h, outsOf_snoc, List.length_take]
  have : (0 : Int) + ((min k p.length : Nat) : Int) = (k : Int) := by rw [Nat.min_eq_left (Nat.le_of_lt h)]; omega
  rw [this]
theorem outsOf_len {t : Int} : ∀ (l : List Nd) (i : Int), (∀ x ∈ l, x.ins.length ≤ 2) → (outsOf t l i).length ≤ 2 * l.length
  | [], i, _ => by simp [outsOf]
  | a :: l, i, h => by
    rw [outsOf, List.length_append]; have := outsOf_len (t := t) l (i + 1) (fun x hx => h x (by simp [hx])); have h1 := outIn_len (t := t) (i := i) a.ins; have h2 := h a (by simp)
    simp; omega
theorem OkPlan.two {p : List Nd} (h : OkPlan p) : ∀ x ∈ p, x.ins.length ≤ 2 := by
  intro x hx
  obtain ⟨i, hi, rfl⟩ := List.getElem_of_mem hx
  have h1 := (h i _ (List.getElem?_eq_getElem hi)).len
  have h2 := kidsOf_bd p[i].ex.kind
  omega
theorem ndOut_bad {p : List Nd} {t : Int} (h : ndCheck p ≠ 0) : ndOut p t = [] := by unfold ndOut; rw [if_neg h]
theorem ndOut_ok {p : List Nd} {t : Int} (h : ndCheck p = 0) : ndOut p t = outsOf t p 0 := by unfold ndOut; rw [if_pos h]
theorem pOut (p : List Nd) (t : Int) (v : Value) (n : Nat) (w : World) (hn : n ≤ w.heap.size) (hp : IsNds n w v p) :
    Calls Tryz.prog 12 #[v, .int .i64 t] w fun e' w' => ∃ v', e' = .returned v' ∧ OwnI 3 w.heap.size w' v' (ndOut p t) ∧ Below w.heap.size w w' := by
  obtain ⟨pp, cp, rfl, _, hcm, hpm⟩ := hp.open
  unfold maxLen at hcm hpm
  have HP := Lib.hid hp
  clear hp
  have HC := Lib.hid (pCheck p _ n w hn HP.out)
  by_cases hc : ndCheck p = 0
  · obtain ⟨hl, hok⟩ := ndCheck_0 hc
    have H2 := Lib.hid hok.two; rw [ndOut_ok hc]; rw [hc] at HC; clear hc hok
    go_enter Tryz.func12, Tryz.ntmps12; (try simp only [List.append_eq, List.cons_append, List.nil_append])
    go_wp2_with fail
    refine HC.out.mono ?_; rintro e' w1 ⟨rfl, hb1⟩; have HB1 := Lib.hid hb1; have hs1 := hb1.size; clear hb1
    go_wp2_with fail
    go_loopw [5, 15] (fun v j wr => ∃ k : Nat, k ≤ p.length ∧ j = .int .i64 k ∧ OwnI 3 w1.heap.size wr v (outsOf t (p.take k) 0) ∧ Below w1.heap.size w1 wr) (fun _ j _ => p.length - (intOf j).toNat)
    case atStart => exact ⟨0, Nat.zero_le _, rfl, by simpa [outsOf] using OwnI.nil, Below.refl _ _⟩
    case round =>
      obtain ⟨k, hk, rfl, hown, hb⟩ := hrel; have Hown := Lib.hid hown; have Hb := Lib.hid hb; clear hown hb
      by_cases hlt : k < p.length
      · have hki : (k : Int) < (p.length : Int) := by omega
        have HBn := Lib.hid (HB1.out.trans (Hb.out.mono hs1)); obtain ⟨b, off, pm, cm, pn, cn, pk, ck, pi, ci, rfl, hbn, -, hii, hc⟩ := (HP.out.mono (HBn.out.mono hn) (Nat.le_refl _)).get hlt; have hstep := outsOf_step (t := t) hlt; have hlen := outsOf_len (t := t) (p.take k) 0 (fun x hx => H2.out x (List.mem_of_mem_take hx)); have hx2 := H2.out p[k] (List.getElem_mem hlt); rw [List.length_take] at hlen; obtain ⟨x, hx⟩ : ∃ x, p[k] = x := ⟨_, rfl⟩; rw [hx] at hii hc hstep hx2; obtain ⟨l, hl2⟩ : ∃ l, outsOf t (p.take k) 0 = l := ⟨_, rfl⟩; rw [hl2] at hstep Hown hlen; have hll : l.length ≤ 2000 := by omega
        have Hstep := Lib.hid hstep; have Hii := Lib.hid hii; have c0 := hc 0 _ rfl; have c1 := hc 1 _ rfl; have c2 := hc 2 _ rfl; have c3 := hc 3 _ rfl; have c4 := hc 4 _ rfl; have c5 := hc 5 _ rfl; have c6 := hc 6 _ rfl; have c7 := hc 7 _ rfl; have c8 := hc 8 _ rfl; have c9 := hc 9 _ rfl; have c10 := hc 10 _ rfl; simp only [Nat.add_zero] at c0; clear hl2 hlen hx hstep hc hii
        go_upto_region 7 with fail
        obtain ⟨X, hW⟩ : ∃ z, wr.alloc (.cells #[.int .i64 x.every, .int .i64 x.ex.kind, .int .i64 x.ex.fn, .int .i64 x.ex.op, .int .i64 x.ex.num, .string x.ex.metric, .slice pm x.ex.mats.length cm, .int .i64 x.ex.span, .slice pn x.ex.names.length cn, .slice pk x.ex.kids.length ck, .slice pi x.ins.length ci] 39) = z := ⟨_, rfl⟩; have B1 : Blk X wr.heap.size 39 [.int .i64 x.every, .int .i64 x.ex.kind, .int .i64 x.ex.fn, .int .i64 x.ex.op, .int .i64 x.ex.num, .string x.ex.metric, .slice pm x.ex.mats.length cm, .int .i64 x.ex.span, .slice pn x.ex.names.length cn, .slice pk x.ex.kids.length ck, .slice pi x.ins.length ci] := by rw [← hW]; exact Blk.new wr _ _
        have bX : Below wr.heap.size wr X := by rw [← hW]; exact (Below.refl _ _).alloc (Nat.le_refl _) _
        rw [hW]; have HownX := Lib.hid (Hown.out.keep bX); have HbX := Lib.hid (Hb.out.trans (bX.mono Hb.out.size)); have HiX := Lib.hid (Hii.out.mono (bX.mono (Nat.le_trans hn (Nat.le_trans hs1 Hb.out.size))) (Nat.le_refl _)); have d10 := B1.cell 10 _ rfl; have hn1 := Nat.le_trans hn hs1; clear hW B1 bX c0 c1 c2 c3 c4 c5 c6 c7 c8 c9 c10 Hown Hb Hii HBn
        go_upto_region 8 with fail
        clear d10
        go_loopw [5, 23] (fun v j wq => ∃ i : Nat, i ≤ x.ins.length ∧ j = .int .i64 i ∧ OwnI 3 w1.heap.size wq v (l ++ outIn t k (x.ins.take i)) ∧ Below w1.heap.size w1 wq ∧ Below w1.heap.size X wq) (fun _ j _ => x.ins.length - (intOf j).toNat)
        case atStart => exact ⟨0, Nat.zero_le _, rfl, by simpa [outIn] using HownX.out, HbX.out, Below.refl _ _⟩
        case round =>
          clear HownX HbX; obtain ⟨i, hi, rfl, hown, hb, hbx⟩ := hrel; have Hown := Lib.hid hown; have Hb := Lib.hid hb; have Hbx := Lib.hid hbx; clear hown hb hbx
          by_cases hlt2 : i < x.ins.length
          · have hii2 : (i : Int) < (x.ins.length : Int) := by omega
            obtain ⟨b2, off2, rfl, hbn2, e0⟩ := (HiX.out.mono (Hbx.out.mono hn1) (Nat.le_refl _)).get hlt2; have Hst := Lib.hid (outIn_step (t := t) (i := (k : Int)) hlt2); have hol := outIn_len (t := t) (i := (k : Int)) (x.ins.take i); rw [List.length_take] at hol; have hll2 : (l ++ outIn t k (x.ins.take i)).length ≤ 1000000 := by rw [List.length_append]; omega
            generalize outIn t k (x.ins.take i) = o at *; clear hol; generalize x.ins[i] = r at *
            by_cases e : r = t
            · have hst := Hst.out
              rw [if_pos e] at hst; have Hst2 := Lib.hid hst; clear hst Hst; have eb : (r == t) = true := by simpa using e
              clear e
              go_wp2_with (at_builtin; refine app_int rfl _ _ rfl w1.heap.size _ (l ++ o) ((k : Int) + 1) wr.heap.size rfl rfl (Hown.out.keep ((Below.refl _ _).alloc (Nat.le_refl _) _)) (by go_simp) hll2 (by have := Hb.out.size; simp; omega) ?_)
              intro v' w4 hown4 hg4 _; have hb4 := OwnI.app Hb.out Hown.out hg4 (Nat.le_refl _) Hb.out.size; have hb5 := OwnI.app Hbx.out Hown.out hg4 (Nat.le_refl _) Hb.out.size; have Hown4 := Lib.hid hown4; have Hb4 := Lib.hid hb4; have Hb5 := Lib.hid hb5; clear hown4 hg4 hb4 hb5; go_wp2; exact ⟨⟨i + 1, by omega, by go_num, by rw [Hst2.out]; simpa using Hown4.out, Hb4.out, Hb5.out⟩, by simp [intOf]; omega⟩
            · have hst := Hst.out
              rw [if_neg e] at hst; have Hst2 := Lib.hid hst; clear hst Hst; have eb : (r == t) = false := by simpa using e
              clear e; go_wp2; exact ⟨⟨i + 1, by omega, by go_num, by rw [Hst2.out]; simpa using Hown.out, Hb.out, Hbx.out⟩, by simp [intOf]; omega⟩
          · have hi' : i = x.ins.length := by omega
            subst hi'; have hown2 := Hown.out; rw [List.take_length, ← Hstep.out] at hown2; have Hown2 := Lib.hid hown2; clear hown2; go_wp2; exact ⟨⟨k + 1, by omega, by go_num, Hown2.out, Hb.out⟩, by simp [intOf]; omega⟩
      · have hk' : k = p.length := by omega
        subst hk'; have Hown2 : Hid (OwnI 3 w1.heap.size wr _ (outsOf t p 0)) := Lib.hid (by have := Hown.out; rwa [List.take_length] at this); go_wp2; go_ret; exact ⟨_, rfl, ownsRow_base Hown2.out hs1, HB1.out.trans (Hb.out.mono hs1)⟩
  · have hcb : (ndCheck p != 0) = true := by simpa using hc
    rw [ndOut_bad hc]; generalize ndCheck p = c at *
    go_enter Tryz.func12, Tryz.ntmps12; (try simp only [List.append_eq, List.cons_append, List.nil_append])
    go_wp2_with fail
    refine HC.out.mono ?_; rintro e' w1 ⟨rfl, hb1⟩; have HB1 := Lib.hid hb1; clear hb1; go_wp2; go_ret; exact ⟨_, rfl, OwnI.nil, HB1.out⟩
end Go.Proofs.YtdjdikiimhhjpaaGreatDoor
namespace Go.Proofs.YtdjdikiimhhjpaaGreatDoor
open Go.RowKit
set_option linter.unusedSimpArgs false
set_option linter.unusedVariables false
def leafNums : List Nd → Int → List Int
  | [], _ => []
  | x :: r, i => if x.ex.kind = 1 then (i + 1) :: leafNums r (i + 1) else leafNums r (i + 1)
noncomputable def ndLeaves (p : List Nd) : List Int := open Classical in if ndCheck p = 0 then leafNums p 0 else []
theorem leafNums_snoc (x : Nd) : ∀ (l : List Nd) (i : Int), leafNums (l ++ [x]) i = leafNums l i ++ (if x.ex.kind = 1 then [i + l.length + 1] else [])
  | [], i => by simp [leafNums]
  | a :: l, i => by
    rw [List.cons_append, leafNums, leafNums, leafNums_snoc x l]; have : i + 1 + (l.length : Int) + 1 = i + ((a :: l).length : Int) + 1 := by simp; omega
    rw [this]
    split <;> simp
theorem leafNums_step {p : List Nd} {k : Nat} (h : k < p.length) : leafNums (p.take (k + 1)) 0 = leafNums (p.take k) 0 ++ (if p[k].ex.kind = 1 then [(k : Int) + 1] else []) := by
  rw [List.take_succ_eq_append_getElem h, leafNums_snoc, List.length_take]
  have : (0 : Int) + ((min k p.length : Nat) : Int) + 1 = (k : Int) + 1 := by rw [Nat.min_eq_left (Nat.le_of_lt h)]; omega
  rw [this]
theorem leafNums_len : ∀ (l : List Nd) (i : Int), (leafNums l i).length ≤ l.length
  | [], i => by simp [leafNums]
  | a :: l, i => by rw [leafNums]; have := leafNums_len l (i + 1); split <;> simp <;> omega
theorem ndLeaves_bad {p : List Nd} (h : ndCheck p ≠ 0) : ndLeaves p = [] := by unfold ndLeaves; rw [if_neg h]
theorem ndLeaves_ok {p : List Nd} (h : ndCheck p = 0) : ndLeaves p = leafNums p 0 := by unfold ndLeaves; rw [if_pos h]
end Go.Proofs.YtdjdikiimhhjpaaGreatDoor
namespace Go.Proofs.YtdjdikiimhhjpaaGreatDoor
open Go.RowKit
set_option linter.unusedSimpArgs false
set_option linter.unusedVariables false
theorem pUsedN (p : List Nd) (roots : List Int) (v vr : Value) (n : Nat) (w : World) (hn : n ≤ w.heap.size) (hp : IsNds n w v p) (hr : IsInts n w vr roots) (hrl : roots.length ≤ 1000000) :
    Calls Tryz.prog 11 #[v, vr] w fun e' w' => ∃ v', e' = .returned v' ∧ OwnI 3 w.heap.size w' v' (ndUsed p roots) ∧ Below w.heap.size w w' := by
  obtain ⟨pp, cp, rfl, _, hcm, hpm⟩ := hp.open
  unfold maxLen at hcm hpm
  have HP := Lib.hid hp; have HR := Lib.hid hr
  clear hp hr
  have HC := Lib.hid (pCheck p _ n w hn HP.out)
  by_cases hc : ndCheck p = 0
  · have HU := Lib.hid (fun w1 (h : Below w.heap.size w w1) => pUsed p roots _ _ n w1 (Nat.le_trans hn h.size) (HP.out.mono (h.mono hn) (Nat.le_refl _)) (HR.out.mono (h.mono hn) (Nat.le_refl _)) hc hrl)
    have hl := (ndCheck_0 hc).1; rw [ndUsed_ok hc]; rw [hc] at HC; clear hc
    go_enter Tryz.func11, Tryz.ntmps11; (try simp only [List.append_eq, List.cons_append, List.nil_append])
    go_wp2_with fail
    refine HC.out.mono ?_; rintro e' w1 ⟨rfl, hb1⟩; have HB1 := Lib.hid hb1; clear hb1
    go_wp2_with fail
    refine (HU.out w1 HB1.out).mono ?_; rintro e' w2 ⟨ws, rfl, hbk, hmk, hb2⟩; have HB := Lib.hid (HB1.out.trans (hb2.mono HB1.out.size)); have hg : w1.heap.size < w2.heap.size := hbk.lt; have hg2 := HB1.out.size; have Hbk := Lib.hid hbk; have Hmk := Lib.hid hmk; have Hml := Lib.hid (usedL_len p roots); clear hbk hmk hb2; obtain ⟨m, hmq⟩ : ∃ m, usedL p roots = m := ⟨_, rfl⟩; rw [hmq] at Hml Hmk; have Hmq := Lib.hid hmq; clear hmq
    go_wp2_with fail
    go_loopw [6, 7] (fun v j wr => ∃ k : Nat, k ≤ p.length ∧ j = .int .i64 (k + 1 : Nat) ∧ OwnI 3 w2.heap.size wr v (numsOf (m.take k) 0) ∧ Below w2.heap.size w2 wr) (fun _ j _ => p.length + 1 - (intOf j).toNat)
    case atStart => exact ⟨0, Nat.zero_le _, rfl, by simpa [numsOf] using OwnI.nil, Below.refl _ _⟩
    case round =>
      obtain ⟨k, hk, rfl, hown, hb⟩ := hrel; have Hown := Lib.hid hown; have Hb := Lib.hid hb; clear hown hb
      by_cases hlt : k < p.length
      · have hki : ((k + 1 : Nat) : Int) ≤ (p.length : Int) := by omega
        have hh := pHas ws w1.heap.size ws.length (k + 1) wr (Hbk.out.keep Hb.out) Hmk.out.lt (Hmk.out.at (by rw [Hml.out]; omega)) (by omega); rw [Hmk.out.get (by rw [Hml.out]; exact hlt)] at hh; have Hstep := Lib.hid (numsOf_step (m := m) (k := k) (by rw [Hml.out]; exact hlt)); have hnl := numsOf_len (m.take k) 0; rw [List.length_take] at hnl; obtain ⟨l, hl2⟩ : ∃ l, numsOf (m.take k) 0 = l := ⟨_, rfl⟩; rw [hl2] at Hstep Hown hnl; have hll : l.length ≤ 1000000 := by omega
        clear hl2 hnl; have Hh := Lib.hid hh; clear hh; generalize m.getD k false = bk at Hh Hstep
        go_wp2_with fail
        refine Hh.out.mono ?_; rintro e' w3 ⟨rfl, rfl⟩; cases bk with
        | false =>
          go_wp2; exact ⟨⟨k + 1, by omega, by go_num, by rw [Hstep.out]; simpa using Hown.out, Hb.out⟩, by simp [intOf]; omega⟩
        | true =>
          go_wp2_with (at_builtin; refine app_int rfl _ _ rfl w2.heap.size _ l ((k + 1 : Nat) : Int) wr.heap.size rfl rfl (Hown.out.keep ((Below.refl _ _).alloc (Nat.le_refl _) _)) (by go_simp) hll (by have := Hb.out.size; simp; omega) ?_)
          intro v' w4 hown4 hg4 _; have hb4 := OwnI.app Hb.out Hown.out hg4 (Nat.le_refl _) Hb.out.size; have Hown4 := Lib.hid hown4; have Hb4 := Lib.hid hb4; clear hown4 hg4 hb4; go_wp2; exact ⟨⟨k + 1, by omega, by go_num, by rw [Hstep.out]; simpa using Hown4.out, Hb4.out⟩, by simp [intOf]; omega⟩
      · have hk' : k = p.length := by omega
        subst hk'; have hki : ¬ ((p.length + 1 : Nat) : Int) ≤ (p.length : Int) := by omega
        have hm : m.take p.length = m := by rw [← Hml.out]; exact List.take_length
        rw [hm] at Hown; go_wp2; go_ret; rw [← Hmq.out] at Hown; exact ⟨_, rfl, ownsRow_base Hown.out (by have := HB.out.size; omega), HB.out.trans (Hb.out.mono HB.out.size)⟩
  · have hcb : (ndCheck p != 0) = true := by simpa using hc
    rw [ndUsed_bad hc]; generalize ndCheck p = c at *
    go_enter Tryz.func11, Tryz.ntmps11; (try simp only [List.append_eq, List.cons_append, List.nil_append])
    go_wp2_with fail
    refine HC.out.mono ?_; rintro e' w1 ⟨rfl, hb1⟩; have HB1 := Lib.hid hb1; clear hb1; go_wp2; go_ret; exact ⟨_, rfl, OwnI.nil, HB1.out⟩
end Go.Proofs.YtdjdikiimhhjpaaGreatDoor
namespace Go.Proofs.YtdjdikiimhhjpaaGreatDoor
open Go.RowKit
set_option linter.unusedSimpArgs false
set_option linter.unusedVariables false
def QRow (n : Nat) (w : World) (q : Int × Ex) (r : List Value) : Prop := ∃ cs, r = .int .i64 q.1 :: cs ∧ IsEx n w q.2 cs
theorem QRow.len {n : Nat} {w : World} {q : Int × Ex} {r : List Value} (h : QRow n w q r) : r.length = 10 := by
  obtain ⟨cs, rfl, he⟩ := h
  rw [List.length_cons, he.length]
theorem QRow.ones {n : Nat} {w : World} {q : Int × Ex} {r : List Value} (h : QRow n w q r) : ∀ u ∈ r, u.oneCell' = true := by
  obtain ⟨cs, rfl, he⟩ := h
  intro u hu
  rcases List.mem_cons.1 hu with rfl | hu
  · rfl
  · exact he.oneCells u hu
theorem QRow.mono {n : Nat} {w w' : World} {q : Int × Ex} {r : List Value} (h : QRow n w q r) (hb : Below n w w') : QRow n w' q r := by
  obtain ⟨cs, e, he⟩ := h; exact ⟨cs, e, he.mono hb (Nat.le_refl _)⟩
def OwnQ (n base : Nat) (w : World) (v : Value) (l : List (Int × Ex)) : Prop :=
  ∃ rows : List (List Value), w.ownsRow base 44 10 v l.length rows.flatten ∧ rows.length = l.length ∧ ∀ (k : Nat) (r : List Value) (q : Int × Ex), rows[k]? = some r → l[k]? = some q → QRow n w q r
theorem own_emptyT (t sz : Nat) (W : World) : (W.alloc (.cells #[] t)).ownsRow W.heap.size t sz (.slice (some ⟨W.heap.size, 0, none⟩) 0 0) 0 [] :=
  ⟨by simp, .inr ⟨W.heap.size, 0, #[], rfl, Nat.le_refl _, World.alloc_heap_new W _, Nat.le_refl _, Nat.zero_le _, by simp, by simp⟩⟩
theorem OwnQ.empty (n : Nat) (W : World) : OwnQ n W.heap.size (W.alloc (.cells #[] 44)) (.slice (some ⟨W.heap.size, 0, none⟩) 0 0) [] :=
  ⟨[], own_emptyT 44 10 W, rfl, fun k r q hr _ => by simp at hr⟩
theorem OwnQ.keep {n base : Nat} {w w' : World} {v : Value} {l : List (Int × Ex)} (h : OwnQ n base w v l) (hn : n ≤ w.heap.size) (hb : Below w.heap.size w w') : OwnQ n base w' v l := by
  obtain ⟨rows, h1, h2, h3⟩ := h
  exact ⟨rows, ownsRow_keep h1 hb, h2, fun k r q hr hq => (h3 k r q hr hq).mono (hb.mono hn)⟩
theorem qrows_app {n : Nat} {w w' : World} {l l2 : List (Int × Ex)} {rows rows2 : List (List Value)} (h1 : rows.length = l.length)
    (g1 : ∀ (k : Nat) (r : List Value) (q : Int × Ex), rows[k]? = some r → l[k]? = some q → QRow n w q r) (g2 : ∀ (k : Nat) (r : List Value) (q : Int × Ex), rows2[k]? = some r → l2[k]? = some q → QRow n w q r) (hb : Below n w w') :
    ∀ (k : Nat) (r : List Value) (q : Int × Ex), (rows ++ rows2)[k]? = some r → (l ++ l2)[k]? = some q → QRow n w' q r := by
  intro k r e hr he
  by_cases hk : k < rows.length
  · rw [List.getElem?_append_left hk] at hr
    rw [List.getElem?_append_left (by omega)] at he; exact (g1 k r e hr he).mono hb
  · rw [List.getElem?_append_right (by omega)] at hr
    rw [List.getElem?_append_right (by omega)] at he; rw [← h1] at he; exact (g2 _ r e hr he).mono hb
theorem OwnQ.qs {n base m : Nat} {w : World} {v : Value} {l : List (Int × Ex)} (h : OwnQ n base w v l) (hm : w.heap.size ≤ m) (hn : n ≤ m) : IsQs m w v l := by
  obtain ⟨rows, h1, h2, h3⟩ := h
  have hlen : ∀ r ∈ rows, r.length = 10 := by
    intro r hr; obtain ⟨k, hk, rfl⟩ := List.getElem_of_mem hr; exact (h3 k _ (l[k]'(by omega)) (by simp) (by simp)).len
  refine ⟨rows, ?_, h2, fun k r q hr hq => ?_⟩
  · exact arr_of_own (lo := base) (e := 44) (by rw [h2]; exact h1) hlen (fun g hg => by have := (ownsRow_block h1 g hg).2; omega)
  · obtain ⟨cs, e, he⟩ := h3 k r q hr hq
    exact ⟨cs, e, he.mono (Below.refl _ _) hn⟩
theorem qrows_len {n : Nat} {w : World} {l : List (Int × Ex)} {rows : List (List Value)} (h2 : rows.length = l.length) (h3 : ∀ (k : Nat) (r : List Value) (q : Int × Ex), rows[k]? = some r → l[k]? = some q → QRow n w q r) :
    (∀ r ∈ rows, r.length = 10) ∧ ∀ u ∈ rows.flatten, u.oneCell' = true := by
  refine ⟨fun r hr => ?_, fun u hu => ?_⟩
  · obtain ⟨k, hk, rfl⟩ := List.getElem_of_mem hr
    exact (h3 k _ (l[k]'(by omega)) (by simp) (by simp)).len
  · obtain ⟨r, hr, hur⟩ := List.mem_flatten.1 hu
    obtain ⟨k, hk, rfl⟩ := List.getElem_of_mem hr; exact (h3 k _ (l[k]'(by omega)) (by simp) (by simp)).ones u hur
theorem infoQ : (Tryz.prog.info? 44).map (fun i => (i.zero, i.size, i.bytes)) = some (some (.agg #[.int .i64 0, .int .i64 0, .int .i64 0, .int .i64 0, .int .i64 0, .string ⟨#[]⟩, .slice none 0 0, .int .i64 0, .slice none 0 0, .slice none 0 0]), 10, 136) := by kernel_rfl
theorem app_qs {ops : Array Oper} {rest : List Oper} {o : Oper} {a : Act} {w : World} {Q : Exit → Act → World → Prop} (hgd : o.guard = none) (s x : Operand)
    (ho : o.op = .call { callee := .builtin .append, args := #[s, x], argTypes := #[22, 22] }) (n base : Nat) (v vs : Value) (l l2 : List (Int × Ex)) (rows : List (List Value))
    (hs : a.eval s = v) (hx : a.eval x = vs) (hown : OwnQ n base w v l) (hsrc : Src w vs 10 l2.length rows.flatten) (hrl : rows.length = l2.length) (hr : ∀ (k : Nat) (r : List Value) (q : Int × Ex), rows[k]? = some r → l2[k]? = some q → QRow n w q r)
    (hl : l.length + l2.length ≤ 1000000) (hbase : base ≤ w.heap.size) (hnb : n ≤ base)
    (h : ∀ v' w', OwnQ n base w' v' (l ++ l2) → w.grownBy w' v.ownBlock → (v'.ownBlock = v.ownBlock ∨ v'.ownBlock = some w.heap.size) → Below base w w' → wpList Tryz.prog ops Q rest (a.put o.dst v') w') :
    wpList Tryz.prog ops Q (o :: rest) a w := by
  obtain ⟨i0, hi, hz0, hz1, hz2⟩ := info_parts infoQ
  obtain ⟨rows0, h1, h2, h3⟩ := hown
  obtain ⟨q1, q2⟩ := qrows_len hrl hr
  refine wpList_append_src _ hgd s x 22 ho base 44 i0 _ 10 136 Tryz.underlying22 hi hz0 hz1 hz2 rfl (by decide) v l.length _ hs h1 _ l2.length rows.flatten hx hsrc q2 (by unfold maxLen; omega) (by omega) hbase ?_
  intro v' w' g1 g2 g3
  have hb : Below base w w' := below_app (Below.refl _ _) h1 g2 (Nat.le_refl _) hbase
  refine h v' w' ⟨rows0 ++ rows, by rw [List.length_append, List.flatten_append]; exact g1, by rw [List.length_append, List.length_append, h2, hrl], qrows_app h2 h3 hr (hb.mono hnb)⟩ g2 g3 hb
theorem IsQs.src {n : Nat} {w : World} {p : Option Addr} {c : Nat} {l : List (Int × Ex)} (h : IsQs n w (.slice p l.length c) l) (hnil : p = none → c = 0) : ∃ rows : List (List Value), Src w (.slice p l.length c) 10 l.length rows.flatten ∧ rows.length = l.length ∧ ∀ (k : Nat) (r : List Value) (q : Int × Ex), rows[k]? = some r → l[k]? = some q → QRow n w q r := by
  obtain ⟨rows, h1, h2, h3⟩ := h
  obtain ⟨q1, -⟩ := qrows_len (n := n) (w := w) h2 h3
  refine ⟨rows, ?_, h2, h3⟩
  have := Src.of_arr (c := c) (rows := rows) (p := p) (by rw [h2]; exact h1) q1 (by decide) hnil
  rwa [h2] at this
end Go.Proofs.YtdjdikiimhhjpaaGreatDoor
