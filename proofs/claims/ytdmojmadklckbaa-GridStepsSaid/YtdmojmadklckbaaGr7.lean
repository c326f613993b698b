/- Between, of grid and of the reference. -/
import Derived.Test.YtdmojmadklckbaaGr6
import Derived.Test.YtdmojmadklckbaaTwo
import Derived.Test.YtdmojmadklckbaaBase2
import Derived.OwnWalkIn
namespace Go.Proofs.Ytdmojmadklckbaa
open Go.Shelf
open Go.RowKit
set_option linter.unusedSimpArgs false
set_option linter.unusedVariables false
attribute [local go_sem] Oper.semAt_some

/-- The times between two, the first 4,096 of them. -/
def betL (ev frm til : Int) : List Int := ((ticks ev frm (cntT ev frm)).takeWhile fun t => decide (t ≤ til)).take 4096
theorem ticks_take (ev mark : Int) {j n : Nat} (h : j ≤ n) : (ticks ev mark n).take j = ticks ev mark j := by
  unfold ticks
  rw [← List.map_take, List.take_range, Nat.min_eq_left h]
theorem takeWhile_stop {p : Int → Bool} : ∀ (a b : List Int), (∀ y ∈ a, p y = true) → (a ++ b).takeWhile p = a ++ b.takeWhile p
  | [], b, _ => rfl
  | x :: a, b, h => by
    rw [List.cons_append, List.takeWhile_cons_of_pos (h x (by simp)), takeWhile_stop a b (fun y hy => h y (by simp [hy]))]
    rfl
theorem betL_stop {ev frm til : Int} {pre : List Int} {x : Int} (h : TPre ev frm (pre ++ [x])) (hle : ∀ y ∈ pre, y ≤ til) (hl : pre.length ≤ 4096) (hs : til < x ∨ pre.length = 4096) : betL ev frm til = pre := by
  obtain ⟨j, hj0, hj1, hj⟩ := h
  have e : ticks ev frm (cntT ev frm) = pre ++ (x :: (ticks ev frm (cntT ev frm)).drop j) := by
    have := List.take_append_drop j (ticks ev frm (cntT ev frm))
    rw [ticks_take ev frm hj1, ← hj] at this
    simpa using this.symm
  unfold betL
  rw [e, takeWhile_stop _ _ (fun y hy => by simpa using hle y hy)]
  rcases hs with hs | hs
  · rw [List.takeWhile_cons_of_neg (by simpa using hs), List.append_nil, List.take_of_length_le hl]
  · rw [← hs, List.take_left]
theorem betL_all {ev frm til : Int} {xs : List Int} (h : TAll ev frm xs) (hle : ∀ y ∈ xs, y ≤ til) (hl : xs.length ≤ 4096) : betL ev frm til = xs := by
  have h : xs = ticks ev frm (cntT ev frm) := h
  unfold betL
  rw [← h]
  have := takeWhile_stop (p := fun t => decide (t ≤ til)) xs [] (fun y hy => by simpa using hle y hy)
  rw [List.append_nil] at this
  rw [this]; simp only [List.takeWhile_nil, List.append_nil]; exact List.take_of_length_le hl

theorem one_new (w : World) (x : Value) (t : Nat) : ∀ j u, [x][j]? = some u → (w.alloc (.cells #[x] t)).cell? ((⟨w.heap.size, 0, none⟩ : Addr).add j) = some u := by
  intro j u hu
  match j, hu with
  | 0, hu =>
    simp at hu; subst hu
    show (w.alloc (.cells #[x] t)).cell? ⟨w.heap.size, 0, none⟩ = _
    rw [World.cell?_alloc_new]; rfl
  | j + 1, hu => simp at hu
theorem infoL : (Try.prog.info? 2).map (fun i => (i.zero, i.size, i.bytes)) = some (some (.int .i64 0), 1, 8) := by kernel_rfl

theorem row_far {W : World} {g base e size k : Nat} {v : Value} {xs : List Value} (hg : g < base) (hr : W.ownsRow base e size v k xs) : some g ≠ v.ownBlock := fun h => by
  have := (ownsRow_block hr g h.symm).1
  omega
theorem Blk.not_row {W : World} {g t e : Nat} {cs : List Value} (h : Blk W g t cs) (hte : t ≠ e) {base size k : Nat} {v : Value} {xs : List Value} (hr : W.ownsRow base e size v k xs) : some g ≠ v.ownBlock := by
  rcases hr.2 with ⟨rfl, _⟩ | ⟨b, cap, cur, rfl, _, hgb, _⟩
  · simp [Value.ownBlock]
  · intro e'
    obtain rfl : g = b := by simpa [Value.ownBlock] using e'
    have := (show W.heap[g]? = _ from h).symm.trans hgb
    simp at this
    exact hte this.2
/-- What holds between two rounds. -/
def BtI (n₀ c qB tB : Nat) (til : Int) (Q : List Value) (xs : List Int) (W : World) : Prop :=
  (∃ v, Boxed W c 46 v ∧ W.ownsRow n₀ 2 1 v xs.length (xs.map fun i => .int .i64 i) ∧ ((∀ y ∈ xs, y ≤ til) ∧ xs.length ≤ 4096)) ∧ (Blk W qB 28 Q ∧ Boxed W tB 2 (.int .i64 til))

set_option maxRecDepth 100000 in
set_option maxHeartbeats 4000000 in
theorem gBetween (ev frm til : Int) (e : Ex) (cs : List Value) (w : World) (he : QCells e cs) (hmk : -9223372036854775808 ≤ frm ∧ frm ≤ 9223372036854775807) :
    Calls Try.prog 19 #[.agg (.int .i64 ev :: cs).toArray, .int .i64 frm, .int .i64 til] w fun e' w' => ∃ v, e' = .returned v ∧ OwnI 2 w.heap.size w' v (betL ev frm til) ∧ Below w.heap.size w w' := by
  refine (callsIn_wide (n := 9)).1 ?_
  have HT := Lib.hid (fun wx => gTimes ev frm e cs wx he)
  have He := Lib.hid he
  obtain ⟨pm, cm, pn, cn, pk, ck, rfl⟩ := he
  obtain ⟨i0, hi, hz0, hz1, hz2⟩ := info_parts infoL
  refine callsIn_of_wp_marks Try.func19 rfl trivial ?_ rfl; simp only [Try.ntmps19, List.size_toArray, List.length_cons, List.length_nil, Nat.reduceAdd, Nat.reduceSub, Array.replicate_succ, Array.replicate_zero, List.push_toArray, List.append_toArray, List.nil_append, List.cons_append]; (try simp only [List.append_eq, List.cons_append, List.nil_append])
  gi_wp2_with ((try refine ⟨trivial, ?_⟩); gi_at_call 39; refine (callsIn_wide.2 (HT.out _)).mono ?_; rintro e' w' ⟨rfl, rfl⟩)
  obtain ⟨W3, hW3⟩ : ∃ W3, ((((w.alloc (.cells #[.int .i64 ev, .int .i64 e.kind, .int .i64 e.fn, .int .i64 e.op, .int .i64 e.num, .string e.metric, .slice pm e.mats.length cm, .int .i64 e.span, .slice pn e.names.length cn, .slice pk e.kids.length ck] 28)).alloc (.cells #[.int .i64 til] 2)).alloc (.cells #[.slice none 0 0] 46)).alloc (.cells #[.int .i64 ev, .int .i64 e.kind, .int .i64 e.fn, .int .i64 e.op, .int .i64 e.num, .string e.metric, .slice pm e.mats.length cm, .int .i64 e.span, .slice pn e.names.length cn, .slice pk e.kids.length ck] 28)).alloc (.cells #[.int .i64 frm] 2) = W3 := ⟨_, rfl⟩
  have hbw : Below w.heap.size w W3 := by rw [← hW3]; exact (((((Below.refl _ _).alloc (Nat.le_refl _) _).alloc (by simp) _).alloc (by simp; omega) _).alloc (by simp; omega) _).alloc (by simp; omega) _
  have hsz3 : W3.heap.size = w.heap.size + 5 := by rw [← hW3]; simp
  have hc1 : Boxed W3 (w.heap.size + 1) 2 (.int .i64 til) := by
    have := (((Boxed.new (w.alloc (.cells #[.int .i64 ev, .int .i64 e.kind, .int .i64 e.fn, .int .i64 e.op, .int .i64 e.num, .string e.metric, .slice pm e.mats.length cm, .int .i64 e.span, .slice pn e.names.length cn, .slice pk e.kids.length ck] 28)) 2 (.int .i64 til)).alloc (.cells #[.slice none 0 0] 46)).alloc (.cells #[.int .i64 ev, .int .i64 e.kind, .int .i64 e.fn, .int .i64 e.op, .int .i64 e.num, .string e.metric, .slice pm e.mats.length cm, .int .i64 e.span, .slice pn e.names.length cn, .slice pk e.kids.length ck] 28)).alloc (.cells #[.int .i64 frm] 2)
    rw [hW3] at this
    simpa using this
  have hc2 : Boxed W3 (w.heap.size + 2) 46 (.slice none 0 0) := by
    have := ((Boxed.new ((w.alloc (.cells #[.int .i64 ev, .int .i64 e.kind, .int .i64 e.fn, .int .i64 e.op, .int .i64 e.num, .string e.metric, .slice pm e.mats.length cm, .int .i64 e.span, .slice pn e.names.length cn, .slice pk e.kids.length ck] 28)).alloc (.cells #[.int .i64 til] 2)) 46 (.slice none 0 0)).alloc (.cells #[.int .i64 ev, .int .i64 e.kind, .int .i64 e.fn, .int .i64 e.op, .int .i64 e.num, .string e.metric, .slice pm e.mats.length cm, .int .i64 e.span, .slice pn e.names.length cn, .slice pk e.kids.length ck] 28)).alloc (.cells #[.int .i64 frm] 2)
    rw [hW3] at this
    simpa using this
  have hBq : Blk W3 (w.heap.size + 3) 28 [.int .i64 ev, .int .i64 e.kind, .int .i64 e.fn, .int .i64 e.op, .int .i64 e.num, .string e.metric, .slice pm e.mats.length cm, .int .i64 e.span, .slice pn e.names.length cn, .slice pk e.kids.length ck] := by
    have h : Blk ((((w.alloc (.cells #[.int .i64 ev, .int .i64 e.kind, .int .i64 e.fn, .int .i64 e.op, .int .i64 e.num, .string e.metric, .slice pm e.mats.length cm, .int .i64 e.span, .slice pn e.names.length cn, .slice pk e.kids.length ck] 28)).alloc (.cells #[.int .i64 til] 2)).alloc (.cells #[.slice none 0 0] 46)).alloc (.cells #[.int .i64 ev, .int .i64 e.kind, .int .i64 e.fn, .int .i64 e.op, .int .i64 e.num, .string e.metric, .slice pm e.mats.length cm, .int .i64 e.span, .slice pn e.names.length cn, .slice pk e.kids.length ck] 28)) (w.heap.size + 3) 28 [.int .i64 ev, .int .i64 e.kind, .int .i64 e.fn, .int .i64 e.op, .int .i64 e.num, .string e.metric, .slice pm e.mats.length cm, .int .i64 e.span, .slice pn e.names.length cn, .slice pk e.kids.length ck] := by
      have := Blk.new (((w.alloc (.cells #[.int .i64 ev, .int .i64 e.kind, .int .i64 e.fn, .int .i64 e.op, .int .i64 e.num, .string e.metric, .slice pm e.mats.length cm, .int .i64 e.span, .slice pn e.names.length cn, .slice pk e.kids.length ck] 28)).alloc (.cells #[.int .i64 til] 2)).alloc (.cells #[.slice none 0 0] 46)) [.int .i64 ev, .int .i64 e.kind, .int .i64 e.fn, .int .i64 e.op, .int .i64 e.num, .string e.metric, .slice pm e.mats.length cm, .int .i64 e.span, .slice pn e.names.length cn, .slice pk e.kids.length ck] 28
      simpa using this
    rw [← hW3]
    exact h.keep ((Below.refl _ _).alloc (Nat.le_refl _) _)
  have hBm : Box W3 (w.heap.size + 4) [.int .i64 frm] := by
    rw [← hW3]
    have := Box.new ((((w.alloc (.cells #[.int .i64 ev, .int .i64 e.kind, .int .i64 e.fn, .int .i64 e.op, .int .i64 e.num, .string e.metric, .slice pm e.mats.length cm, .int .i64 e.span, .slice pn e.names.length cn, .slice pk e.kids.length ck] 28)).alloc (.cells #[.int .i64 til] 2)).alloc (.cells #[.slice none 0 0] 46)).alloc (.cells #[.int .i64 ev, .int .i64 e.kind, .int .i64 e.fn, .int .i64 e.op, .int .i64 e.num, .string e.metric, .slice pm e.mats.length cm, .int .i64 e.span, .slice pn e.names.length cn, .slice pk e.kids.length ck] 28)) [.int .i64 frm] 2
    simpa using this
  rw [hW3]
  have HW3 := Lib.hid hW3; clear hW3
  have Hsz3 := Lib.hid hsz3; clear hsz3
  have HBq := Lib.hid hBq; clear hBq
  have HBm := Lib.hid hBm; clear hBm
  have Hc1 := Lib.hid hc1; clear hc1
  have Hc2 := Lib.hid hc2; clear hc2
  have hq1 : w.heap.size + 3 < W3.heap.size := by have := Hsz3.out; omega
  have hown : OwnFrom W3.heap.size (fun xs W => BtI (w.heap.size + 2) (w.heap.size + 2) (w.heap.size + 3) (w.heap.size + 1) til [.int .i64 ev, .int .i64 e.kind, .int .i64 e.fn, .int .i64 e.op, .int .i64 e.num, .string e.metric, .slice pm e.mats.length cm, .int .i64 e.span, .slice pn e.names.length cn, .slice pk e.kids.length ck] xs W ∧ Below w.heap.size w W) :=
    OwnFrom.and (OwnFrom.and (Own.from (holdsRow_own (w.heap.size + 2) (w.heap.size + 2) 46 2 1 (fun xs : List Int => xs.length) (fun xs => xs.map fun i => .int .i64 i) (fun xs _ => (∀ y ∈ xs, y ≤ til) ∧ xs.length ≤ 4096)) _)
      (OwnFrom.and (fun s W W' row hs hg hr => Blk.own () W W' row hs hg hr) (fun s W W' row hs hg hr => Blk.own (cs := [.int .i64 til]) () W W' row hs hg hr))) (ownFrom_below (Nat.le_refl _) (by have := Hsz3.out; omega))
  refine wpIn_rangeFunc_ownF rfl (by omega) (gf := 54) (lb := #[.pointer (some ⟨w.heap.size + 3, 0, none⟩), .pointer (some ⟨w.heap.size + 4, 0, none⟩)]) rfl trivial (enters_of Try.func54 (by kernel_rfl) rfl)
    (timesStops ev frm e _ W3 8 (w.heap.size + 3) (w.heap.size + 4) He.out hmk HBq.out.box HBm.out hq1) (fun h k => ⟨h.1.trans k.1, Nat.le_trans h.2 k.2⟩)
    (fun W l o o' _ ho hcl _ => ⟨KpB.put W l o o' ho hcl, by simp⟩) (Below.refl _ _) (fun _ => rfl)
    (fun xs W => BtI (w.heap.size + 2) (w.heap.size + 2) (w.heap.size + 3) (w.heap.size + 1) til [.int .i64 ev, .int .i64 e.kind, .int .i64 e.fn, .int .i64 e.op, .int .i64 e.num, .string e.metric, .slice pm e.mats.length cm, .int .i64 e.span, .slice pn e.names.length cn, .slice pk e.kids.length ck] xs W ∧ Below w.heap.size w W)
    (fun c xs W => c = .exit 0 ∧ ∃ pre x, xs = pre ++ [x] ∧ (til < x ∨ pre.length = 4096) ∧ BtI (w.heap.size + 2) (w.heap.size + 2) (w.heap.size + 3) (w.heap.size + 1) til [.int .i64 ev, .int .i64 e.kind, .int .i64 e.fn, .int .i64 e.op, .int .i64 e.num, .string e.metric, .slice pm e.mats.length cm, .int .i64 e.span, .slice pn e.names.length cn, .slice pk e.kids.length ck] pre W ∧ Below w.heap.size w W)
    hown
    (fun c s W W' row hs hg hr => by obtain ⟨h1, pre, x, h2, h3, h4⟩ := hs; exact ⟨h1, pre, x, h2, h3, hown pre W W' row h4 hg hr⟩)
    ⟨⟨⟨_, Hc2.out, World.ownsRow_nil _ _ _ _, by simp⟩, HBq.out, Hc1.out⟩, hbw⟩
    (fun x => { tmps := #[.agg ([.int .i64 ev, .int .i64 e.kind, .int .i64 e.fn, .int .i64 e.op, .int .i64 e.num, .string e.metric, .slice pm e.mats.length cm, .int .i64 e.span, .slice pn e.names.length cn, .slice pk e.kids.length ck]).toArray, .int .i64 frm, .int .i64 til, .pointer (some ⟨w.heap.size, 0, none⟩), undef, .pointer (some ⟨w.heap.size + 1, 0, none⟩), .slice none 0 0, .pointer (some ⟨w.heap.size + 2, 0, none⟩), .int .i64 x, .agg ([.int .i64 ev, .int .i64 e.kind, .int .i64 e.fn, .int .i64 e.op, .int .i64 e.num, .string e.metric, .slice pm e.mats.length cm, .int .i64 e.span, .slice pn e.names.length cn, .slice pk e.kids.length ck]).toArray, .int .i64 frm, .func (.func 54) #[] #[.pointer (some ⟨w.heap.size + 3, 0, none⟩), .pointer (some ⟨w.heap.size + 4, 0, none⟩)], .int .i64 x, undef, undef, undef, undef, undef, undef, undef, undef, undef, undef, undef, undef, undef], defers := [] })
    ?assign ?body ?done ?stop
  case assign =>
    intro l x W K hK
    gi_wp2
    simpa using hK
  case body =>
    rintro l pre x W ⟨⟨⟨v, hbx, hrow, hle, hl4⟩, hq, ht⟩, hb⟩ hlen
    have hszW := hb.size
    obtain ⟨A, cap, rfl⟩ := ownsRow_slice hrow
    have cc := hbx.cell
    have ct := ht.cell
    have cf := hbx.frozen
    have hbl := hbx.lt
    have htl := ht.lt
    have Hbx := Lib.hid hbx; clear hbx
    have Hrow := Lib.hid hrow; clear hrow
    have Hle := Lib.hid hle; clear hle
    have Hq := Lib.hid hq; clear hq
    have Ht := Lib.hid ht; clear ht
    have Hb := Lib.hid hb; clear hb
    by_cases hx : til < x
    · gi_wp2
      exact ⟨KeepsOthers.refl _, rfl, pre, x, rfl, .inl hx, ⟨⟨_, Hbx.out, Hrow.out, Hle.out, hl4⟩, Hq.out, Ht.out⟩, Hb.out⟩
    · by_cases hn : pre.length = 4096
      · have hn' : ((pre.length : Int) == 4096) = true := by simp [hn]
        have Hn := Lib.hid hn; clear hn
        gi_wp2
        exact ⟨KeepsOthers.refl _, rfl, pre, x, rfl, .inr Hn.out, ⟨⟨_, Hbx.out, Hrow.out, Hle.out, hl4⟩, Hq.out, Ht.out⟩, Hb.out⟩
      · have hn' : ((pre.length : Int) == 4096) = false := beq_eq_false_iff_ne.2 (by omega)
        gi_wp2_with (gi_at_builtin; refine wpListIn_append_own _ rfl _ _ _ rfl (w.heap.size + 2) 2 i0 _ 1 8 Try.underlying46 hi hz0 hz1 hz2 rfl (by decide) _ _ (pre.map fun i => .int .i64 i) rfl (Hrow.out.alloc _) ⟨W.heap.size, 0, none⟩ 1 1 [.int .i64 x] rfl rfl (one_new W _ _) (by intro u hu; simp at hu; subst hu; rfl) (by unfold maxLen; omega) (by omega) (by simp; omega) ?_; intro v1 w1 hown1 hgr1 hnil1; obtain ⟨g1, cap1, rfl⟩ := ownsRow_succ hown1; have happ := Boxed.appended Hbx.out (by decide) Hrow.out (by omega) (Nat.le_refl _) hown1 hgr1; have bc1 := happ.1.cell; have bf1 := happ.1.frozen; have Happ := Lib.hid happ; clear happ; have Hgr1 := Lib.hid hgr1; clear hgr1; have Hown1 := Lib.hid hown1; clear hown1)
        have hq1' : Blk w1 (w.heap.size + 3) 28 [.int .i64 ev, .int .i64 e.kind, .int .i64 e.fn, .int .i64 e.op, .int .i64 e.num, .string e.metric, .slice pm e.mats.length cm, .int .i64 e.span, .slice pn e.names.length cn, .slice pk e.kids.length ck] := (Hgr1.out.block _ (Hq.out.alloc _).lt (Hq.out.not_row (by decide) Hrow.out)).trans (Hq.out.alloc _)
        have ht1' : Blk w1 (w.heap.size + 1) 2 [.int .i64 til] := (Hgr1.out.block _ (Ht.out.alloc _).lt (row_far (show w.heap.size + 1 < w.heap.size + 2 by omega) Hrow.out)).trans (Ht.out.alloc _)
        have hq2 := hq1'.far (p := ⟨w.heap.size + 2, 0, none⟩) (by simp) (.slice (some ⟨g1, 0, none⟩) (pre.length + 1) cap1)
        have ht2 := ht1'.far (p := ⟨w.heap.size + 2, 0, none⟩) (by simp) (.slice (some ⟨g1, 0, none⟩) (pre.length + 1) cap1)
        refine ⟨Happ.out.2.2.2.1, ⟨fun off y hy => ?_, Happ.out.2.2.2.2.size⟩, ⟨⟨_, Happ.out.2.1, ?_, ?_, ?_⟩, hq2, ht2⟩, Hb.out.trans (Happ.out.2.2.2.2.mono (by omega))⟩
        · rw [World.cell?_of_block (w := W) (a := ⟨w.heap.size + 3, off, none⟩) (hq2.trans Hq.out.symm)]; exact hy
        · have := Happ.out.2.2.1
          simpa using this
        · intro y hy
          rcases List.mem_append.1 hy with h | h
          · exact Hle.out y h
          · simp at h; subst h; omega
        · simp; omega
  case done =>
    rintro D ys W hD hys ⟨⟨⟨v, hbx, hrow, hle, hl4⟩, hq, ht⟩, hb⟩ hK
    obtain ⟨A, cap, rfl⟩ := ownsRow_slice hrow
    have cc := hbx.cell
    have hbet := betL_all hys hle hl4
    gi_wp2
    refine ⟨by simp, .inl ⟨_, _, rfl, run_takeDeferred hK, ?_⟩⟩
    refine ⟨_, results_tmp rfl _ _ _, ?_⟩
    have hb2 : Below w.heap.size W (W.putObj D (.deferred none)) := belowK_b (w := w) (Nat.le_refl _) W D _ _ (by have := Hsz3.out; omega) hK rfl rfl
    refine ⟨_, rfl, ?_, hb.trans hb2⟩
    rw [hbet]
    exact ownsRow_base (ownsRow_putObj hrow _ hK rfl) (by omega)
  case stop =>
    rintro D c pre W hD hpre ⟨rfl, ys, x, rfl, hs, ⟨⟨v, hbx, hrow, hle, hl4⟩, hq, ht⟩, hb⟩ hK
    obtain ⟨A, cap, rfl⟩ := ownsRow_slice hrow
    have cc := hbx.cell
    have hbet := betL_stop hpre hle hl4 hs
    gi_wp2
    refine ⟨by simp, .inl ⟨_, _, rfl, run_takeDeferred hK, ?_⟩⟩
    refine ⟨_, results_tmp rfl _ _ _, ?_⟩
    have hb2 : Below w.heap.size W (W.putObj D (.deferred none)) := belowK_b (w := w) (Nat.le_refl _) W D _ _ (by have := Hsz3.out; omega) hK rfl rfl
    refine ⟨_, rfl, ?_, hb.trans hb2⟩
    rw [hbet]
    exact ownsRow_base (ownsRow_putObj hrow _ hK rfl) (by omega)

end Go.Proofs.Ytdmojmadklckbaa
