/- The reference's Between. -/
import Derived.Test.YtdmojmadklckbaaGr7
namespace Go.Proofs.Ytdmojmadklckbaa
open Go.RowKit
set_option linter.unusedSimpArgs false
set_option linter.unusedVariables false

theorem next_tk {ev mark : Int} {j : Nat} (h : j < cntT ev mark) : nextT ev (tk ev mark j) = if j + 1 < cntT ev mark then some (tk ev mark (j + 1)) else none := by
  have hok : evOk ev = true ∧ mark < MT := by
    unfold cntT at h
    split at h
    · rename_i hc; simpa using hc
    · omega
  obtain ⟨h1, h2⟩ := evOk_iff.1 hok.1
  have hlt := fun k => tk_lt h1 hok.2 h2 (k := k)
  have hj := (hlt j).1 h
  have hb := t0_bd (ev := ev) (mark := mark) h1
  have htk : 0 ≤ tk ev mark j := by unfold tk; have : 0 ≤ (j : Int) * ev := Int.mul_nonneg (by omega) (by omega); omega
  have et : t0 ev (tk ev mark j) = tk ev mark (j + 1) := by
    rw [tk_succ]
    unfold t0
    rw [show max 0 (tk ev mark j) = tk ev mark j by omega]
    have e : tk ev mark j = (max 0 mark / ev + 1 + j) * ev := by unfold tk t0; rw [← Int.add_mul]
    rw [e, Int.mul_ediv_cancel _ (by omega), Int.add_mul (max 0 mark / ev + 1 + j) 1 ev, Int.one_mul]
  unfold nextT
  rw [et, hok.1]
  by_cases hj1 : j + 1 < cntT ev mark
  · have h3 := (hlt (j + 1)).1 hj1
    have h4 : tk ev mark j < MT := by rw [tk_succ] at h3; omega
    rw [if_pos hj1, if_pos (by simp [h3, h4])]
  · have h3 : ¬ tk ev mark (j + 1) ≤ MT := fun h => hj1 ((hlt (j + 1)).2 h)
    rw [if_neg hj1, if_neg (by simp [h3])]
def mB : Value → Value → Nat
  | .bool true, t => 1099511627778 - (intOf t).toNat
  | _, _ => 0
theorem mB_lt {b : Bool} {t t' : Int} (ht : t ≤ 1099511627776) (h0 : 0 < t) (h : b = true → t < t' ∧ t' ≤ 1099511627776) : mB (.bool b) (.int .i64 t') < mB (.bool true) (.int .i64 t) := by
  cases b with
  | true =>
    have := h rfl
    show 1099511627778 - t'.toNat < 1099511627778 - t.toNat
    omega
  | false =>
    show 0 < 1099511627778 - t.toNat
    omega
/-- The j-th time, or none. -/
def tV (ev mark : Int) (j : Nat) : Int := if j < cntT ev mark then tk ev mark j else 0
def tB (ev mark : Int) (j : Nat) : Bool := decide (j < cntT ev mark)
theorem nextV_eq (ev mark : Int) : nextV ev mark = .tuple #[.int .i64 (tV ev mark 0), .bool (tB ev mark 0)] := by
  unfold nextV
  rw [nextT_eq]
  unfold tV tB
  by_cases h : 0 < cntT ev mark
  · rw [if_pos h, if_pos h, decide_eq_true h]; simp [tk]
  · rw [if_neg h, if_neg h, decide_eq_false h]
theorem nextV_tk {ev mark : Int} {j : Nat} (h : j < cntT ev mark) : nextV ev (tk ev mark j) = .tuple #[.int .i64 (tV ev mark (j + 1)), .bool (tB ev mark (j + 1))] := by
  unfold nextV
  rw [next_tk h]
  unfold tV tB
  by_cases h : j + 1 < cntT ev mark
  · rw [if_pos h, if_pos h, decide_eq_true h]
  · rw [if_neg h, if_neg h, decide_eq_false h]
theorem tk_bd {ev mark : Int} {j : Nat} (h : j < cntT ev mark) : 0 < tk ev mark j ∧ tk ev mark j ≤ MT := by
  have hok : evOk ev = true ∧ mark < MT := by
    unfold cntT at h
    split at h
    · rename_i hc; simpa using hc
    · omega
  obtain ⟨h1, h2⟩ := evOk_iff.1 hok.1
  have hb := t0_bd (ev := ev) (mark := mark) h1
  refine ⟨?_, (tk_lt h1 hok.2 h2).1 h⟩
  unfold tk; have : 0 ≤ (j : Int) * ev := Int.mul_nonneg (by omega) (by omega); omega

set_option maxRecDepth 100000 in
set_option maxHeartbeats 4000000 in
theorem rBetw (ev frm til : Int) (e : Ex) (cs : List Value) (w : World) (he : QCells e cs) (hmk : -9223372036854775808 ≤ frm ∧ frm ≤ 9223372036854775807) :
    Calls Try.prog 25 #[.agg (.int .i64 ev :: cs).toArray, .int .i64 frm, .int .i64 til] w fun e' w' => ∃ v, e' = .returned v ∧ OwnI 2 w.heap.size w' v (betL ev frm til) ∧ Below w.heap.size w w' := by
  have HN := Lib.hid (fun wx => by have := rNext ev frm e cs wx he hmk; rw [nextV_eq] at this; exact this)
  have HN2 := Lib.hid (fun (j : Nat) (h : j < cntT ev frm) wx => by have := rNext ev (tk ev frm j) e cs wx he (by have := tk_bd h; unfold MT at this; omega); rw [nextV_tk h] at this; exact this)
  obtain ⟨pm, cm, pn, cn, pk, ck, rfl⟩ := he
  obtain ⟨i0, hi, hz0, hz1, hz2⟩ := info_parts infoL
  go_enter Try.func25, Try.ntmps25; (try simp only [List.append_eq, List.cons_append, List.nil_append])
  go_wp2_with (go_at_call 21; refine (HN.out _).mono ?_; rintro e' w1 ⟨rfl, hb⟩; have hbx := (Blk.new w ([.int .i64 ev, .int .i64 e.kind, .int .i64 e.fn, .int .i64 e.op, .int .i64 e.num, .string e.metric, .slice pm e.mats.length cm, .int .i64 e.span, .slice pn e.names.length cn, .slice pk e.kids.length ck]) 28).keep hb; have HB := Lib.hid (((Below.refl w.heap.size w).alloc (Nat.le_refl _) _).trans (hb.mono (by simp))); clear hb; have HX := Lib.hid hbx; clear hbx)
  have hs1 := HB.out.size
  go_loopw [7, 8, 9] (fun v t b wr => ∃ j : Nat, j ≤ cntT ev frm ∧ j ≤ 4096 ∧ (∀ y ∈ ticks ev frm j, y ≤ til) ∧ t = .int .i64 (tV ev frm j) ∧ b = .bool (tB ev frm j) ∧ OwnI 2 w1.heap.size wr v (ticks ev frm j) ∧ Below w1.heap.size w1 wr) (fun _ t b _ => mB b t)
  case atStart => exact ⟨0, Nat.zero_le _, Nat.zero_le _, by simp [ticks], rfl, rfl, World.ownsRow_nil _ _ _ _, Below.refl _ _⟩
  case round =>
    obtain ⟨j, hj, hj4, hle, rfl, rfl, hown, hbl⟩ := hrel
    have Hle := Lib.hid hle; clear hle
    have Hown := Lib.hid hown; clear hown
    have Hbl := Lib.hid hbl; clear hbl
    have hszr := Hbl.out.size
    have Hown2 : Hid (wr.ownsRow w1.heap.size 2 1 u7 j ((ticks ev frm j).map fun i => .int .i64 i)) := by
      have h := Hown.out
      unfold OwnI at h
      rw [ticks_length] at h
      exact h
    clear Hown
    obtain ⟨A, cap, rfl⟩ := ownsRow_slice Hown2.out
    have hbf : Below w.heap.size w wr := HB.out.trans (Hbl.out.mono hs1)
    have HBF := Lib.hid hbf; clear hbf
    have hfin : betL ev frm til = ticks ev frm j → OwnI 2 w.heap.size wr (.slice A j cap) (betL ev frm til) := fun h => by
      rw [h]; unfold OwnI; rw [ticks_length]; exact ownsRow_base Hown2.out hs1
    have HF := Lib.hid hfin; clear hfin
    have HT : Hid (j < cntT ev frm → TPre ev frm (ticks ev frm j ++ [tk ev frm j])) := fun h => ⟨j + 1, by omega, by omega, (ticks_succ ev frm j).symm⟩
    by_cases hlt : j < cntT ev frm
    · have hv : tV ev frm j = tk ev frm j := if_pos hlt
      have hb : tB ev frm j = true := decide_eq_true hlt
      have HNx := Lib.hid (fun wx => HN2.out j hlt wx)
      have hbd := tk_bd hlt
      obtain ⟨hbd1, hbd2⟩ := hbd
      unfold MT at hbd2
      have Hsucc := Lib.hid (ticks_succ ev frm j)
      have Hnx : Hid (tB ev frm (j + 1) = true → tk ev frm j < tV ev frm (j + 1) ∧ tV ev frm (j + 1) ≤ 1099511627776) := fun h => by
        have h' : j + 1 < cntT ev frm := by unfold tB at h; simpa using h
        have h2 := tk_bd h'
        unfold MT at h2
        have h3 := (nextT_bd (next_tk hlt ▸ (if_pos h') : nextT ev (tk ev frm j) = some (tk ev frm (j + 1)))).2.2.2.2.1
        unfold tV; rw [if_pos h']; exact ⟨h3, h2.2⟩
      rw [hv, hb]
      clear hv hb
      obtain ⟨t1, ht1⟩ : ∃ t, tV ev frm (j + 1) = t := ⟨_, rfl⟩
      obtain ⟨b1, hb1⟩ : ∃ t, tB ev frm (j + 1) = t := ⟨_, rfl⟩
      rw [ht1, hb1] at HNx Hnx
      have Ht1 := Lib.hid ht1; clear ht1
      have Hb1 := Lib.hid hb1; clear hb1
      have HT1 := Lib.hid (HT.out hlt)
      clear HT
      generalize tk ev frm j = t0' at *
      by_cases hle : t0' ≤ til
      · by_cases h4 : j < 4096
        · have hbq := (HX.out.mono Hbl.out (HX.out.lt))
          have c0 := hbq.cell 0 _ rfl
          have c1 := hbq.cell 1 _ rfl
          have c2 := hbq.cell 2 _ rfl
          have c3 := hbq.cell 3 _ rfl
          have c4 := hbq.cell 4 _ rfl
          have c5 := hbq.cell 5 _ rfl
          have c6 := hbq.cell 6 _ rfl
          have c7 := hbq.cell 7 _ rfl
          have c8 := hbq.cell 8 _ rfl
          have c9 := hbq.cell 9 _ rfl
          have hql := HX.out.lt
          have Hbq := Lib.hid hbq; clear hbq
          go_wp2_with (first
            | (at_builtin; refine wpList_append_src _ rfl _ _ _ rfl w1.heap.size 2 i0 _ 1 8 Try.underlying46 hi hz0 hz1 hz2 rfl (by decide) _ _ ((ticks ev frm j).map fun i => .int .i64 i) rfl (ownsRow_keep Hown2.out ((Below.refl _ _).alloc (Nat.le_refl _) _)) _ 1 [.int .i64 t0'] rfl (.inr ⟨_, 1, rfl, rfl, one_new wr _ _⟩) (by intro u hu; simp at hu; subst hu; rfl) (by unfold maxLen; omega) (by omega) (by simp; omega) ?_; intro v3 w3 hown3 hgr3 hat3; have hb3 := Lib.hid (below_app (Hbl.out.alloc hszr _) (ownsRow_keep Hown2.out ((Below.refl _ _).alloc (Nat.le_refl _) _)) hgr3 (Nat.le_refl _) (by simp; omega)); have hs3 := hb3.out.size; have hbq3 := HX.out.mono hb3.out HX.out.lt; have d0 := hbq3.cell 0 _ rfl; have d1 := hbq3.cell 1 _ rfl; have d2 := hbq3.cell 2 _ rfl; have d3 := hbq3.cell 3 _ rfl; have d4 := hbq3.cell 4 _ rfl; have d5 := hbq3.cell 5 _ rfl; have d6 := hbq3.cell 6 _ rfl; have d7 := hbq3.cell 7 _ rfl; have d8 := hbq3.cell 8 _ rfl; have d9 := hbq3.cell 9 _ rfl; clear hbq3; have Hown3 := Lib.hid hown3; clear hown3 hgr3 hat3)
            | (go_at_call 21; refine (HNx.out _).mono ?_; rintro e' w4 ⟨rfl, hb4⟩; have HB4 := Lib.hid hb4; clear hb4))
          refine ⟨⟨j + 1, by omega, by omega, ?_, by rw [Ht1.out], by rw [Hb1.out], ?_, hb3.out.trans (HB4.out.mono hs3)⟩, ?_⟩
          · rw [Hsucc.out]
            intro y hy
            rcases List.mem_append.1 hy with h | h
            · exact Hle.out y h
            · simp at h; subst h; exact hle
          · unfold OwnI
            rw [ticks_length, Hsucc.out, List.map_append]
            exact ownsRow_keep Hown3.out HB4.out
          · exact mB_lt hbd2 hbd1 Hnx.out
        · have h4' : ¬ (j : Int) < 4096 := by omega
          have hres := HF.out (betL_stop HT1.out Hle.out (by rw [ticks_length]; omega) (.inr (by rw [ticks_length]; omega)))
          have HR := Lib.hid hres; clear hres
          go_wp2
          go_ret
          exact ⟨_, rfl, HR.out, HBF.out⟩
      · have hres := HF.out (betL_stop HT1.out Hle.out (by rw [ticks_length]; omega) (.inl (by omega)))
        have HR := Lib.hid hres; clear hres
        go_wp2
        go_ret
        exact ⟨_, rfl, HR.out, HBF.out⟩
    · have hb : tB ev frm j = false := decide_eq_false hlt
      have hjc : j = cntT ev frm := by omega
      have hres := HF.out (betL_all (by unfold TAll; rw [← hjc]) Hle.out (by rw [ticks_length]; omega))
      have HR := Lib.hid hres; clear hres
      rw [hb]
      clear hb hjc
      go_wp2
      go_ret
      exact ⟨_, rfl, HR.out, HBF.out⟩

end Go.Proofs.Ytdmojmadklckbaa
