/- The reference's parser: term, sum, expr. -/
import Derived.Test.YtpmbamfpmmdhcaaGreatK15
import Derived.Test.YtpmbamfpmmdhcaaGreatK10
import Derived.Test.YtpmbamfpmmdhcaaGreatK1
set_option maxRecDepth 100000
set_option maxHeartbeats 16000000
namespace Go.Proofs.YtpmbamfpmmdhcaaGreat
open Go.RowKit
set_option linter.unusedSimpArgs false
set_option linter.unusedVariables false
def Gath (g : Nat) (pt : Option Addr) (cap : Nat) (L : List Tok) (w : World) (b : Nat) (x : Ex) (p : PS) (wr : World) : Prop :=
  ∃ cs, Blk wr b 28 cs ∧ ExS (fun k => w.heap.size < k ∧ k ≠ b) wr x cs ∧ PA g pt cap L p wr ∧ PW L p ∧ Off g w wr ∧ w.heap.size + 1 ≤ b ∧ Blk wr w.heap.size 28 ZX
theorem pTermC (g : Nat) (pt : Option Addr) (cap : Nat) (L : List Tok) (f : Nat) (hA : AtomC g pt cap L f) (hS : ∀ f', f' < f → StepC g pt cap L f') (hwA : ∀ p e p', pAtom L f p = some (e, p') → PW L p → PW L p') (hwS : ∀ f' op x d p e p', f' < f → pStep L f' op x d p = some (e, p') → PW L p → PW L p' ∧ p.i ≤ p'.i) :
    TermC g pt cap L (f + 1) := by
  intro p e p' hr hw w h
  rw [pTerm] at hr
  cases ha : pAtom L f p with
  | none => rw [ha] at hr; cases hr
  | some a =>
  obtain ⟨x0, q0⟩ := a
  rw [ha] at hr
  have HA := Lib.hid (fun (X : World) (hX : PA g pt cap L p X) => hA _ _ _ ha hw X hX)
  have hw0 := hwA _ _ _ ha hw
  have HR := Lib.hid (show pTerms L f x0 q0 = some (e, p') from hr)
  have hg := h.1.lt
  clear hr ha hA hwA
  go_enter Tryz.func98, Tryz.ntmps98; (try simp only [List.append_eq, List.cons_append, List.nil_append])
  go_wp2_with fail
  have hZ := Blk.new w ZX 28
  refine (HA.out _ (h.keep ((Below.refl _ _).alloc (Nat.le_refl _) _))).mono ?_
  rintro e' w1 ⟨cs, rfl, hx1, hP1, ho1⟩
  have hZ1 := ho1.blkX hZ (Nat.ne_of_gt hg)
  have ho1 := (Off.of (g := g) ((Below.refl w.heap.size w).alloc (Nat.le_refl _) (.cells ZX.toArray 28))).trans ho1
  obtain ⟨pm, cm, pn, cn, pk, ck, rfl, -⟩ := IsEx.cellsE hx1
  go_wp2_with fail
  have hlt1 := hZ1.lt
  have hg1 := hP1.1.lt
  have hbl : Below w1.heap.size w1 (w1.alloc (.cells ([.int .i64 x0.kind, .int .i64 x0.fn, .int .i64 x0.op, .int .i64 x0.num, .string x0.metric, .slice pm x0.mats.length cm, .int .i64 x0.span, .slice pn x0.names.length cn, .slice pk x0.kids.length ck] : List Value).toArray 28)) := (Below.refl _ _).alloc (Nat.le_refl _) _
  have hB := Blk.new w1 [.int .i64 x0.kind, .int .i64 x0.fn, .int .i64 x0.op, .int .i64 x0.num, .string x0.metric, .slice pm x0.mats.length cm, .int .i64 x0.span, .slice pn x0.names.length cn, .slice pk x0.kids.length ck] 28
  have hG : Gath g pt cap L w w1.heap.size x0 q0 (w1.alloc (.cells ([.int .i64 x0.kind, .int .i64 x0.fn, .int .i64 x0.op, .int .i64 x0.num, .string x0.metric, .slice pm x0.mats.length cm, .int .i64 x0.span, .slice pn x0.names.length cn, .slice pk x0.kids.length ck] : List Value).toArray 28)) :=
    ⟨_, hB, (hx1.go (S' := fun k => w.heap.size < k ∧ k ≠ w1.heap.size) (Nat.le_refl _) (fun k hk h => by have h : (w.alloc (.cells ZX.toArray 28)).heap.size ≤ k := h; rw [World.size_alloc] at h; show w.heap.size < k ∧ k ≠ w1.heap.size; omega) (fun _ _ _ => rfl)).below hbl, hP1.keep hbl, hw0, ho1.trans (Off.of (g := g) hbl), by omega, hZ1.keep hbl⟩
  generalize w1.alloc (.cells ([.int .i64 x0.kind, .int .i64 x0.fn, .int .i64 x0.op, .int .i64 x0.num, .string x0.metric, .slice pm x0.mats.length cm, .int .i64 x0.span, .slice pn x0.names.length cn, .slice pk x0.kids.length ck] : List Value).toArray 28) = X at hG hB hbl
  obtain ⟨b, hb⟩ : ∃ b, w1.heap.size = b := ⟨_, rfl⟩
  rw [hb] at hG ⊢
  clear hB hbl hb hx1 hP1 ho1 hZ1 hZ
  have HG := Lib.hid hG; clear hG
  have HS := Lib.hid hS; have HwS := Lib.hid hwS; clear hS hwS
  go_loopw [] (fun wr => ∃ (x : Ex) (p1 : PS) (f' : Nat), Gath g pt cap L w b x p1 wr ∧ f' ≤ f ∧ pTerms L f' x p1 = some (e, p')) (fun wr => L.length - muP g wr)
  case atStart => exact ⟨x0, q0, f, HG.out, Nat.le_refl _, HR.out⟩
  case round =>
    obtain ⟨x, p1, f', ⟨cs, hB, hx, hP, hW, ho, hwb, hZ⟩, hf', hr⟩ := hrel; obtain ⟨f2, rfl⟩ : ∃ f2, f' = f2 + 1 := by
      cases f' with
      | zero => simp [pTerms] at hr
      | succ f2 => exact ⟨f2, rfl⟩
    rw [pTerms] at hr; have hgw : g < w.heap.size := hg; have hgr := hP.1.lt; have Hmu := Lib.hid (muP_eq hP); have hti := PS.take_i L p1 [42]; have HT := Lib.hid (pTake g pt cap L p1 wr hP hW [42]); have hW2 := hW.take [42]; obtain ⟨c, hc⟩ : ∃ c, (p1.take L [42]).1 = c := ⟨_, rfl⟩; obtain ⟨q, hq⟩ : ∃ q, (p1.take L [42]).2 = q := ⟨_, rfl⟩; rw [hc, hq] at hr hti HT; rw [hq] at hW2; clear hc hq; obtain ⟨pm, cm, pn, cn, pk, ck, rfl, -⟩ := IsEx.cellsE hx; cases c with
    | true =>
      rw [if_pos rfl] at hr; cases hs : pStep L f2 3 x false q with
      | none => rw [hs] at hr; cases hr
      | some a =>
      obtain ⟨y, q2⟩ := a; rw [hs] at hr; have hr : pTerms L f2 y q2 = some (e, p') := hr; obtain ⟨hW3, hi3⟩ := HwS.out f2 3 x false q y q2 (by omega) hs hW2; have hlt := hti.2 rfl; have hW3i := hW3.at'; have HR2 := Lib.hid hr; have Hs := Lib.hid hs; clear hr hs; clear HR
      go_wp2_with fail
      refine HT.out.mono ?_; rintro e' w3 ⟨rfl, hP3, ho3⟩; have hB3 := ho3.blkX hB (show b ≠ g by omega); have hZ3 := ho3.blkX hZ (show w.heap.size ≠ g by omega); have hx3 := hx.off ho3 (show ¬ (w.heap.size < g ∧ g ≠ b) by omega); have ho3 := ho.trans ho3; have hb3 := hB3.lt; have d0 := hB3.cell 0 _ rfl; have d1 := hB3.cell 1 _ rfl; have d2 := hB3.cell 2 _ rfl; have d3 := hB3.cell 3 _ rfl; have d4 := hB3.cell 4 _ rfl; have d5 := hB3.cell 5 _ rfl; have d6 := hB3.cell 6 _ rfl; have d7 := hB3.cell 7 _ rfl; have d8 := hB3.cell 8 _ rfl; clear hB hZ hx ho hP
      go_wp2_with fail
      refine (HS.out f2 (by omega) 3 x false q y q2 Hs.out hW2 _ _ w3 (show ¬ (w.heap.size < g ∧ g ≠ b) by omega) hP3 hx3).mono ?_; rintro e' w4 ⟨cs', rfl, hy4, hP4, ho4⟩; obtain ⟨qm, dm, qn, dn, qk, dk, rfl, -⟩ := IsEx.cellsE hy4; have HB4 := Lib.hid (ho4.blkX hB3 (show b ≠ g by omega)); have HZ4 := Lib.hid (ho4.blkX hZ3 (show w.heap.size ≠ g by omega)); have HO4 := Lib.hid (ho3.trans ho4); have HY4 := Lib.hid hy4; have HP4 := Lib.hid hP4; clear hB3 hZ3 hx3 ho3 hP3 hy4 hP4 ho4 d0 d1 d2 d3 d4 d5 d6 d7 d8
      go_wp2_with (refine wpList_store_row rfl 28 _ _ rfl b ([.int .i64 y.kind, .int .i64 y.fn, .int .i64 y.op, .int .i64 y.num, .string y.metric, .slice qm y.mats.length dm, .int .i64 y.span, .slice qn y.names.length dn, .slice qk y.kids.length dk] : List Value).toArray rfl rfl 28 _ HB4.out (by kernel_rfl) rfl (by kernel_rfl) ?_)
      have hs5 : (w4.setRow b ([.int .i64 y.kind, .int .i64 y.fn, .int .i64 y.op, .int .i64 y.num, .string y.metric, .slice qm y.mats.length dm, .int .i64 y.span, .slice qn y.names.length dn, .slice qk y.kids.length dk] : List Value).toArray).heap.size = w4.heap.size := setRow_size _ _ _; have hP5 := HP4.out.row (show g < b by omega) ([.int .i64 y.kind, .int .i64 y.fn, .int .i64 y.op, .int .i64 y.num, .string y.metric, .slice qm y.mats.length dm, .int .i64 y.span, .slice qn y.names.length dn, .slice qk y.kids.length dk] : List Value).toArray; refine ⟨⟨_, _, _, _, _, ⟨y, q2, f2, ⟨_, HB4.out.row [.int .i64 y.kind, .int .i64 y.fn, .int .i64 y.op, .int .i64 y.num, .string y.metric, .slice qm y.mats.length dm, .int .i64 y.span, .slice qn y.names.length dn, .slice qk y.kids.length dk], HY4.out.go (by rw [hs5]; exact Nat.le_refl _) (fun k hk h => by
        rcases h with h | h
        · exact h
        · have h : w3.heap.size ≤ k := h; show w.heap.size < k ∧ k ≠ b; omega) (fun k hk h => setRow_far _ _ _ (by
        rcases h with h | h
        · exact h.2
        · have h : w3.heap.size ≤ k := h; omega)), hP5, hW3, HO4.out.rowNew (by omega) _, hwb, (setRow_far _ _ _ (show w.heap.size ≠ b by omega)).trans HZ4.out⟩, by omega, HR2.out⟩, rfl⟩, ?_⟩
      rw [muP_eq hP5, Hmu.out]; omega
    | false =>
      rw [if_neg (by simp)] at hr; simp only [Option.some.injEq, Prod.mk.injEq] at hr; obtain ⟨rfl, rfl⟩ := hr; clear HR
      go_wp2_with fail
      refine HT.out.mono ?_; rintro e' w3 ⟨rfl, hP3, ho3⟩; have hB3 := ho3.blkX hB (show b ≠ g by omega); have HZ3 := Lib.hid (ho3.blkX hZ (show w.heap.size ≠ g by omega)); have HX3 := Lib.hid (hx.off ho3 (show ¬ (w.heap.size < g ∧ g ≠ b) by omega)); have HO3 := Lib.hid (ho.trans ho3); have HP3 := Lib.hid hP3; have d0 := hB3.cell 0 _ rfl; have d1 := hB3.cell 1 _ rfl; have d2 := hB3.cell 2 _ rfl; have d3 := hB3.cell 3 _ rfl; have d4 := hB3.cell 4 _ rfl; have d5 := hB3.cell 5 _ rfl; have d6 := hB3.cell 6 _ rfl; have d7 := hB3.cell 7 _ rfl; have d8 := hB3.cell 8 _ rfl; clear hB hZ hx ho hP hP3 ho3 hB3
      go_wp2_with (refine wpList_store_row rfl 28 _ _ rfl w.heap.size ([.int .i64 x.kind, .int .i64 x.fn, .int .i64 x.op, .int .i64 x.num, .string x.metric, .slice pm x.mats.length cm, .int .i64 x.span, .slice pn x.names.length cn, .slice pk x.kids.length ck] : List Value).toArray rfl rfl 28 _ HZ3.out (by kernel_rfl) rfl (by kernel_rfl) ?_)
      exact bodyPost_agg (d := _) rfl rfl (setRow_at HZ3.out _) Tryz.underlying28 rfl (by kernel_rfl) rfl (exR_close HX3.out HP3.out HO3.out (Nat.le_refl _) hgw (show ¬ (w.heap.size < w.heap.size ∧ _) by omega) (fun k _ h => by have h : w.heap.size < k ∧ k ≠ b := h; show w.heap.size ≤ k; omega))
end Go.Proofs.YtpmbamfpmmdhcaaGreat
namespace Go.Proofs.YtpmbamfpmmdhcaaGreat
open Go.RowKit
set_option linter.unusedSimpArgs false
set_option linter.unusedVariables false
theorem pSumC (g : Nat) (pt : Option Addr) (cap : Nat) (L : List Tok) (f : Nat) (hA : TermC g pt cap L f) (hS : ∀ f', f' < f → StepC g pt cap L f') (hwA : ∀ p e p', pTerm L f p = some (e, p') → PW L p → PW L p') (hwS : ∀ f' op x d p e p', f' < f → pStep L f' op x d p = some (e, p') → PW L p → PW L p' ∧ p.i ≤ p'.i) :
    SumC g pt cap L (f + 1) := by
  intro p e p' hr hw w h
  rw [pSum] at hr
  cases ha : pTerm L f p with
  | none => rw [ha] at hr; cases hr
  | some a =>
  obtain ⟨x0, q0⟩ := a
  rw [ha] at hr
  have HA := Lib.hid (fun (X : World) (hX : PA g pt cap L p X) => hA _ _ _ ha hw X hX)
  have hw0 := hwA _ _ _ ha hw
  have HR := Lib.hid (show pSums L f x0 q0 = some (e, p') from hr)
  have hg := h.1.lt
  clear hr ha hA hwA
  go_enter Tryz.func80, Tryz.ntmps80; (try simp only [List.append_eq, List.cons_append, List.nil_append])
  go_wp2_with fail
  have hZ := Blk.new w ZX 28
  refine (HA.out _ (h.keep ((Below.refl _ _).alloc (Nat.le_refl _) _))).mono ?_
  rintro e' w1 ⟨cs, rfl, hx1, hP1, ho1⟩
  have hZ1 := ho1.blkX hZ (Nat.ne_of_gt hg)
  have ho1 := (Off.of (g := g) ((Below.refl w.heap.size w).alloc (Nat.le_refl _) (.cells ZX.toArray 28))).trans ho1
  obtain ⟨pm, cm, pn, cn, pk, ck, rfl, -⟩ := IsEx.cellsE hx1
  go_wp2_with fail
  have hlt1 := hZ1.lt
  have hg1 := hP1.1.lt
  have hbl : Below w1.heap.size w1 (w1.alloc (.cells ([.int .i64 x0.kind, .int .i64 x0.fn, .int .i64 x0.op, .int .i64 x0.num, .string x0.metric, .slice pm x0.mats.length cm, .int .i64 x0.span, .slice pn x0.names.length cn, .slice pk x0.kids.length ck] : List Value).toArray 28)) := (Below.refl _ _).alloc (Nat.le_refl _) _
  have hB := Blk.new w1 [.int .i64 x0.kind, .int .i64 x0.fn, .int .i64 x0.op, .int .i64 x0.num, .string x0.metric, .slice pm x0.mats.length cm, .int .i64 x0.span, .slice pn x0.names.length cn, .slice pk x0.kids.length ck] 28
  have hG : Gath g pt cap L w w1.heap.size x0 q0 (w1.alloc (.cells ([.int .i64 x0.kind, .int .i64 x0.fn, .int .i64 x0.op, .int .i64 x0.num, .string x0.metric, .slice pm x0.mats.length cm, .int .i64 x0.span, .slice pn x0.names.length cn, .slice pk x0.kids.length ck] : List Value).toArray 28)) :=
    ⟨_, hB, (hx1.go (S' := fun k => w.heap.size < k ∧ k ≠ w1.heap.size) (Nat.le_refl _) (fun k hk h => by have h : (w.alloc (.cells ZX.toArray 28)).heap.size ≤ k := h; rw [World.size_alloc] at h; show w.heap.size < k ∧ k ≠ w1.heap.size; omega) (fun _ _ _ => rfl)).below hbl, hP1.keep hbl, hw0, ho1.trans (Off.of (g := g) hbl), by omega, hZ1.keep hbl⟩
  generalize w1.alloc (.cells ([.int .i64 x0.kind, .int .i64 x0.fn, .int .i64 x0.op, .int .i64 x0.num, .string x0.metric, .slice pm x0.mats.length cm, .int .i64 x0.span, .slice pn x0.names.length cn, .slice pk x0.kids.length ck] : List Value).toArray 28) = X at hG hB hbl
  obtain ⟨b, hb⟩ : ∃ b, w1.heap.size = b := ⟨_, rfl⟩
  rw [hb] at hG ⊢
  clear hB hbl hb hx1 hP1 ho1 hZ1 hZ
  have HG := Lib.hid hG; clear hG
  have HS := Lib.hid hS; have HwS := Lib.hid hwS; clear hS hwS
  go_loopw [] (fun wr => ∃ (x : Ex) (p1 : PS) (f' : Nat), Gath g pt cap L w b x p1 wr ∧ f' ≤ f ∧ pSums L f' x p1 = some (e, p')) (fun wr => L.length - muP g wr)
  case atStart => exact ⟨x0, q0, f, HG.out, Nat.le_refl _, HR.out⟩
  case round =>
    obtain ⟨x, p1, f', ⟨cs, hB, hx, hP, hW, ho, hwb, hZ⟩, hf', hr⟩ := hrel; obtain ⟨f2, rfl⟩ : ∃ f2, f' = f2 + 1 := by
      cases f' with
      | zero => simp [pSums] at hr
      | succ f2 => exact ⟨f2, rfl⟩
    rw [pSums] at hr; have hgw : g < w.heap.size := hg; have hgr := hP.1.lt; have Hmu := Lib.hid (muP_eq hP); have hti := PS.take_i L p1 [43]; have HT := Lib.hid (pTake g pt cap L p1 wr hP hW [43]); have hW2 := hW.take [43]; obtain ⟨c, hc⟩ : ∃ c, (p1.take L [43]).1 = c := ⟨_, rfl⟩; obtain ⟨q, hq⟩ : ∃ q, (p1.take L [43]).2 = q := ⟨_, rfl⟩; rw [hc, hq] at hr hti HT; rw [hq] at hW2; clear hc hq; obtain ⟨pm, cm, pn, cn, pk, ck, rfl, -⟩ := IsEx.cellsE hx; cases c with
    | true =>
      rw [if_pos rfl] at hr; cases hs : pStep L f2 1 x true q with
      | none => rw [hs] at hr; cases hr
      | some a =>
      obtain ⟨y, q2⟩ := a; rw [hs] at hr; have hr : pSums L f2 y q2 = some (e, p') := hr; obtain ⟨hW3, hi3⟩ := HwS.out f2 1 x true q y q2 (by omega) hs hW2; have hlt := hti.2 rfl; have hW3i := hW3.at'; have HR2 := Lib.hid hr; have Hs := Lib.hid hs; clear hr hs; clear HR
      go_wp2_with fail
      refine HT.out.mono ?_; rintro e' w3 ⟨rfl, hP3, ho3⟩; have hB3 := ho3.blkX hB (show b ≠ g by omega); have hZ3 := ho3.blkX hZ (show w.heap.size ≠ g by omega); have hx3 := hx.off ho3 (show ¬ (w.heap.size < g ∧ g ≠ b) by omega); have ho3 := ho.trans ho3; have hb3 := hB3.lt; have d0 := hB3.cell 0 _ rfl; have d1 := hB3.cell 1 _ rfl; have d2 := hB3.cell 2 _ rfl; have d3 := hB3.cell 3 _ rfl; have d4 := hB3.cell 4 _ rfl; have d5 := hB3.cell 5 _ rfl; have d6 := hB3.cell 6 _ rfl; have d7 := hB3.cell 7 _ rfl; have d8 := hB3.cell 8 _ rfl; clear hB hZ hx ho hP
      go_wp2_with fail
      refine (HS.out f2 (by omega) 1 x true q y q2 Hs.out hW2 _ _ w3 (show ¬ (w.heap.size < g ∧ g ≠ b) by omega) hP3 hx3).mono ?_; rintro e' w4 ⟨cs', rfl, hy4, hP4, ho4⟩; obtain ⟨qm, dm, qn, dn, qk, dk, rfl, -⟩ := IsEx.cellsE hy4; have HB4 := Lib.hid (ho4.blkX hB3 (show b ≠ g by omega)); have HZ4 := Lib.hid (ho4.blkX hZ3 (show w.heap.size ≠ g by omega)); have HO4 := Lib.hid (ho3.trans ho4); have HY4 := Lib.hid hy4; have HP4 := Lib.hid hP4; clear hB3 hZ3 hx3 ho3 hP3 hy4 hP4 ho4 d0 d1 d2 d3 d4 d5 d6 d7 d8
      go_wp2_with (refine wpList_store_row rfl 28 _ _ rfl b ([.int .i64 y.kind, .int .i64 y.fn, .int .i64 y.op, .int .i64 y.num, .string y.metric, .slice qm y.mats.length dm, .int .i64 y.span, .slice qn y.names.length dn, .slice qk y.kids.length dk] : List Value).toArray rfl rfl 28 _ HB4.out (by kernel_rfl) rfl (by kernel_rfl) ?_)
      have hs5 : (w4.setRow b ([.int .i64 y.kind, .int .i64 y.fn, .int .i64 y.op, .int .i64 y.num, .string y.metric, .slice qm y.mats.length dm, .int .i64 y.span, .slice qn y.names.length dn, .slice qk y.kids.length dk] : List Value).toArray).heap.size = w4.heap.size := setRow_size _ _ _; have hP5 := HP4.out.row (show g < b by omega) ([.int .i64 y.kind, .int .i64 y.fn, .int .i64 y.op, .int .i64 y.num, .string y.metric, .slice qm y.mats.length dm, .int .i64 y.span, .slice qn y.names.length dn, .slice qk y.kids.length dk] : List Value).toArray; refine ⟨⟨_, _, _, _, _, _, _, _, _, _, _, _, _, ⟨y, q2, f2, ⟨_, HB4.out.row [.int .i64 y.kind, .int .i64 y.fn, .int .i64 y.op, .int .i64 y.num, .string y.metric, .slice qm y.mats.length dm, .int .i64 y.span, .slice qn y.names.length dn, .slice qk y.kids.length dk], HY4.out.go (by rw [hs5]; exact Nat.le_refl _) (fun k hk h => by
        rcases h with h | h
        · exact h
        · have h : w3.heap.size ≤ k := h; show w.heap.size < k ∧ k ≠ b; omega) (fun k hk h => setRow_far _ _ _ (by
        rcases h with h | h
        · exact h.2
        · have h : w3.heap.size ≤ k := h; omega)), hP5, hW3, HO4.out.rowNew (by omega) _, hwb, (setRow_far _ _ _ (show w.heap.size ≠ b by omega)).trans HZ4.out⟩, by omega, HR2.out⟩, rfl⟩, ?_⟩
      rw [muP_eq hP5, Hmu.out]; omega
    | false =>
      rw [if_neg (by simp)] at hr; simp only at hr; have htd := PS.take_i L q [45]; have HTd := Lib.hid (fun (X : World) (hX : PA g pt cap L q X) => pTake g pt cap L q X hX hW2 [45]); have hWd := hW2.take [45]; obtain ⟨c, hc⟩ : ∃ c, (q.take L [45]).1 = c := ⟨_, rfl⟩; obtain ⟨qd, hq⟩ : ∃ q', (q.take L [45]).2 = q' := ⟨_, rfl⟩; rw [hc, hq] at hr htd HTd; rw [hq] at hWd; clear hc hq; cases c with
      | true =>
        rw [if_pos rfl] at hr; cases hs : pStep L f2 2 x true qd with
        | none => rw [hs] at hr; cases hr
        | some a =>
        obtain ⟨y, q2⟩ := a; rw [hs] at hr; have hr : pSums L f2 y q2 = some (e, p') := hr; obtain ⟨hW3, hi3⟩ := HwS.out f2 2 x true qd y q2 (by omega) hs hWd; have hlt := htd.2 rfl; have hW3i := hW3.at'; have HR2 := Lib.hid hr; have Hs := Lib.hid hs; clear hr hs; clear HR
        go_wp2_with fail
        refine HT.out.mono ?_; rintro e' w3 ⟨rfl, hP3, ho3⟩; have ho30 := ho3
        go_wp2_with fail
        refine (HTd.out _ hP3).mono ?_; clear hP3 ho3; rintro e' w3 ⟨rfl, hP3, ho3⟩; have ho3 := ho30.trans ho3; have hB3 := ho3.blkX hB (show b ≠ g by omega); have hZ3 := ho3.blkX hZ (show w.heap.size ≠ g by omega); have hx3 := hx.off ho3 (show ¬ (w.heap.size < g ∧ g ≠ b) by omega); have ho3 := ho.trans ho3; have hb3 := hB3.lt; have d0 := hB3.cell 0 _ rfl; have d1 := hB3.cell 1 _ rfl; have d2 := hB3.cell 2 _ rfl; have d3 := hB3.cell 3 _ rfl; have d4 := hB3.cell 4 _ rfl; have d5 := hB3.cell 5 _ rfl; have d6 := hB3.cell 6 _ rfl; have d7 := hB3.cell 7 _ rfl; have d8 := hB3.cell 8 _ rfl; clear hB hZ hx ho hP
        go_wp2_with fail
        refine (HS.out f2 (by omega) 2 x true qd y q2 Hs.out hWd _ _ w3 (show ¬ (w.heap.size < g ∧ g ≠ b) by omega) hP3 hx3).mono ?_; rintro e' w4 ⟨cs', rfl, hy4, hP4, ho4⟩; obtain ⟨qm, dm, qn, dn, qk, dk, rfl, -⟩ := IsEx.cellsE hy4; have HB4 := Lib.hid (ho4.blkX hB3 (show b ≠ g by omega)); have HZ4 := Lib.hid (ho4.blkX hZ3 (show w.heap.size ≠ g by omega)); have HO4 := Lib.hid (ho3.trans ho4); have HY4 := Lib.hid hy4; have HP4 := Lib.hid hP4; clear hB3 hZ3 hx3 ho3 hP3 hy4 hP4 ho4 d0 d1 d2 d3 d4 d5 d6 d7 d8
        go_wp2_with (refine wpList_store_row rfl 28 _ _ rfl b ([.int .i64 y.kind, .int .i64 y.fn, .int .i64 y.op, .int .i64 y.num, .string y.metric, .slice qm y.mats.length dm, .int .i64 y.span, .slice qn y.names.length dn, .slice qk y.kids.length dk] : List Value).toArray rfl rfl 28 _ HB4.out (by kernel_rfl) rfl (by kernel_rfl) ?_)
        have hs5 : (w4.setRow b ([.int .i64 y.kind, .int .i64 y.fn, .int .i64 y.op, .int .i64 y.num, .string y.metric, .slice qm y.mats.length dm, .int .i64 y.span, .slice qn y.names.length dn, .slice qk y.kids.length dk] : List Value).toArray).heap.size = w4.heap.size := setRow_size _ _ _; have hP5 := HP4.out.row (show g < b by omega) ([.int .i64 y.kind, .int .i64 y.fn, .int .i64 y.op, .int .i64 y.num, .string y.metric, .slice qm y.mats.length dm, .int .i64 y.span, .slice qn y.names.length dn, .slice qk y.kids.length dk] : List Value).toArray; refine ⟨⟨_, _, _, _, _, _, _, _, _, _, _, _, _, ⟨y, q2, f2, ⟨_, HB4.out.row [.int .i64 y.kind, .int .i64 y.fn, .int .i64 y.op, .int .i64 y.num, .string y.metric, .slice qm y.mats.length dm, .int .i64 y.span, .slice qn y.names.length dn, .slice qk y.kids.length dk], HY4.out.go (by rw [hs5]; exact Nat.le_refl _) (fun k hk h => by
          rcases h with h | h
          · exact h
          · have h : w3.heap.size ≤ k := h; show w.heap.size < k ∧ k ≠ b; omega) (fun k hk h => setRow_far _ _ _ (by
          rcases h with h | h
          · exact h.2
          · have h : w3.heap.size ≤ k := h; omega)), hP5, hW3, HO4.out.rowNew (by omega) _, hwb, (setRow_far _ _ _ (show w.heap.size ≠ b by omega)).trans HZ4.out⟩, by omega, HR2.out⟩, rfl⟩, ?_⟩
        rw [muP_eq hP5, Hmu.out]; omega
      | false =>
        rw [if_neg (by simp)] at hr; simp only [Option.some.injEq, Prod.mk.injEq] at hr; obtain ⟨rfl, rfl⟩ := hr; clear HR
        go_wp2_with fail
        refine HT.out.mono ?_; rintro e' w2 ⟨rfl, hP2, ho2⟩
        go_wp2_with fail
        refine (HTd.out _ hP2).mono ?_; rintro e' w3 ⟨rfl, hP3, ho3⟩; have ho3 := ho2.trans ho3; have hB3 := ho3.blkX hB (show b ≠ g by omega); have HZ3 := Lib.hid (ho3.blkX hZ (show w.heap.size ≠ g by omega)); have HX3 := Lib.hid (hx.off ho3 (show ¬ (w.heap.size < g ∧ g ≠ b) by omega)); have HO3 := Lib.hid (ho.trans ho3); have HP3 := Lib.hid hP3; have d0 := hB3.cell 0 _ rfl; have d1 := hB3.cell 1 _ rfl; have d2 := hB3.cell 2 _ rfl; have d3 := hB3.cell 3 _ rfl; have d4 := hB3.cell 4 _ rfl; have d5 := hB3.cell 5 _ rfl; have d6 := hB3.cell 6 _ rfl; have d7 := hB3.cell 7 _ rfl; have d8 := hB3.cell 8 _ rfl; clear hB hZ hx ho hP hP3 ho3 hB3
        go_wp2_with (refine wpList_store_row rfl 28 _ _ rfl w.heap.size ([.int .i64 x.kind, .int .i64 x.fn, .int .i64 x.op, .int .i64 x.num, .string x.metric, .slice pm x.mats.length cm, .int .i64 x.span, .slice pn x.names.length cn, .slice pk x.kids.length ck] : List Value).toArray rfl rfl 28 _ HZ3.out (by kernel_rfl) rfl (by kernel_rfl) ?_)
        exact bodyPost_agg (d := _) rfl rfl (setRow_at HZ3.out _) Tryz.underlying28 rfl (by kernel_rfl) rfl (exR_close HX3.out HP3.out HO3.out (Nat.le_refl _) hgw (show ¬ (w.heap.size < w.heap.size ∧ _) by omega) (fun k _ h => by have h : w.heap.size < k ∧ k ≠ b := h; show w.heap.size ≤ k; omega))
end Go.Proofs.YtpmbamfpmmdhcaaGreat
namespace Go.Proofs.YtpmbamfpmmdhcaaGreat
open Go.RowKit
set_option linter.unusedSimpArgs false
set_option linter.unusedVariables false
def signs6 : List ByteArray := [⟨#[60]⟩, ⟨#[60, 61]⟩, ⟨#[62]⟩, ⟨#[62, 61]⟩, ⟨#[61, 61]⟩, ⟨#[33, 61]⟩]
theorem cmp_drop {k : Nat} (h : k < 6) : cmpSigns.drop k = (signs6[k]'h).data.toList :: cmpSigns.drop (k + 1) := by
  have : k = 0 ∨ k = 1 ∨ k = 2 ∨ k = 3 ∨ k = 4 ∨ k = 5 := by omega
  rcases this with rfl | rfl | rfl | rfl | rfl | rfl <;> rfl
theorem pTakeB (g : Nat) (pt : Option Addr) (cap : Nat) (L : List Tok) (p : PS) (w : World) (h : PA g pt cap L p w) (hw : PW L p) (s : ByteArray) :
    Calls Tryz.prog 79 #[.pointer (some ⟨g, 0, none⟩), .string s] w (StepR g pt cap L w (.bool (p.take L s.data.toList).1) (p.take L s.data.toList).2) := by
  have := pTake g pt cap L p w h hw s.data.toList
  rwa [ba_same] at this
theorem pExprC (g : Nat) (pt : Option Addr) (cap : Nat) (L : List Tok) (f : Nat) (hA : SumC g pt cap L f) (hwA : ∀ p e p', pSum L f p = some (e, p') → PW L p → PW L p') :
    ExprC g pt cap L (f + 1) := by
  intro p e p' hr hw w h
  rw [pExpr] at hr
  cases ha : pSum L f p with
  | none => rw [ha] at hr; cases hr
  | some a =>
  obtain ⟨x, q0⟩ := a
  rw [ha] at hr
  have HA := Lib.hid (fun (X : World) (hX : PA g pt cap L p X) => hA _ _ _ ha hw X hX)
  have hw0 := hwA _ _ _ ha hw
  obtain ⟨o, ho'⟩ : ∃ o, pCmp L cmpSigns 4 q0 = o := ⟨_, rfl⟩
  simp only [ho'] at hr
  have HR := Lib.hid hr
  have HC := Lib.hid ho'
  have hg := h.1.lt
  clear hr ha hA hwA ho'
  have HS1 := Lib.hid (fun (X : World) (g : Nat) (h : Blk X g 9 [.string ⟨#[60]⟩, .string ⟨#[60, 61]⟩, .string ⟨#[62]⟩, .string ⟨#[62, 61]⟩, .string ⟨#[61, 61]⟩, .string ⟨#[33, 61]⟩]) => strsBlkP (n := g + 1) signs6 h (Nat.lt_succ_self g) (by intro x hx; simp only [signs6, List.mem_cons, List.not_mem_nil, or_false] at hx; rcases hx with rfl | rfl | rfl | rfl | rfl | rfl <;> decide) (by decide))
  go_enter Tryz.func42, Tryz.ntmps42; (try simp only [List.append_eq, List.cons_append, List.nil_append])
  go_wp2_with fail
  have hZ := Blk.new w ZX 28
  refine (HA.out _ (h.keep ((Below.refl _ _).alloc (Nat.le_refl _) _))).mono ?_
  rintro e' w1 ⟨cs, rfl, hx1, hP1, ho1⟩
  have hZ1 := ho1.blkX hZ (Nat.ne_of_gt hg)
  have ho1 := (Off.of (g := g) ((Below.refl w.heap.size w).alloc (Nat.le_refl _) (.cells ZX.toArray 28))).trans ho1
  obtain ⟨pm, cm, pn, cn, pk, ck, rfl, -⟩ := IsEx.cellsE hx1
  go_wp2_with fail
  have hlt1 := hZ1.lt
  have hg1 := hP1.1.lt
  have hbl : Below w1.heap.size w1 ((w1.alloc (.cells ([.int .i64 x.kind, .int .i64 x.fn, .int .i64 x.op, .int .i64 x.num, .string x.metric, .slice pm x.mats.length cm, .int .i64 x.span, .slice pn x.names.length cn, .slice pk x.kids.length ck] : List Value).toArray 28)).alloc (.cells ([.string ⟨#[60]⟩, .string ⟨#[60, 61]⟩, .string ⟨#[62]⟩, .string ⟨#[62, 61]⟩, .string ⟨#[61, 61]⟩, .string ⟨#[33, 61]⟩] : List Value).toArray 9)) := two_below w1 _ _
  have hB := two_at w1 [.int .i64 x.kind, .int .i64 x.fn, .int .i64 x.op, .int .i64 x.num, .string x.metric, .slice pm x.mats.length cm, .int .i64 x.span, .slice pn x.names.length cn, .slice pk x.kids.length ck] [.string ⟨#[60]⟩, .string ⟨#[60, 61]⟩, .string ⟨#[62]⟩, .string ⟨#[62, 61]⟩, .string ⟨#[61, 61]⟩, .string ⟨#[33, 61]⟩] 28 9
  have hSg := two_at' w1 (.cells ([.int .i64 x.kind, .int .i64 x.fn, .int .i64 x.op, .int .i64 x.num, .string x.metric, .slice pm x.mats.length cm, .int .i64 x.span, .slice pn x.names.length cn, .slice pk x.kids.length ck] : List Value).toArray 28) [.string ⟨#[60]⟩, .string ⟨#[60, 61]⟩, .string ⟨#[62]⟩, .string ⟨#[62, 61]⟩, .string ⟨#[61, 61]⟩, .string ⟨#[33, 61]⟩] 9
  have hG : Gath g pt cap L w w1.heap.size x q0 ((w1.alloc (.cells ([.int .i64 x.kind, .int .i64 x.fn, .int .i64 x.op, .int .i64 x.num, .string x.metric, .slice pm x.mats.length cm, .int .i64 x.span, .slice pn x.names.length cn, .slice pk x.kids.length ck] : List Value).toArray 28)).alloc (.cells ([.string ⟨#[60]⟩, .string ⟨#[60, 61]⟩, .string ⟨#[62]⟩, .string ⟨#[62, 61]⟩, .string ⟨#[61, 61]⟩, .string ⟨#[33, 61]⟩] : List Value).toArray 9)) :=
    ⟨_, hB, (hx1.go (S' := fun k => w.heap.size < k ∧ k ≠ w1.heap.size) (Nat.le_refl _) (fun k hk h => by have h : (w.alloc (.cells ZX.toArray 28)).heap.size ≤ k := h; rw [World.size_alloc] at h; show w.heap.size < k ∧ k ≠ w1.heap.size; omega) (fun _ _ _ => rfl)).below hbl, hP1.keep hbl, hw0, ho1.trans (Off.of (g := g) hbl), by omega, hZ1.keep hbl⟩
  generalize ((w1.alloc (.cells ([.int .i64 x.kind, .int .i64 x.fn, .int .i64 x.op, .int .i64 x.num, .string x.metric, .slice pm x.mats.length cm, .int .i64 x.span, .slice pn x.names.length cn, .slice pk x.kids.length ck] : List Value).toArray 28)).alloc (.cells ([.string ⟨#[60]⟩, .string ⟨#[60, 61]⟩, .string ⟨#[62]⟩, .string ⟨#[62, 61]⟩, .string ⟨#[61, 61]⟩, .string ⟨#[33, 61]⟩] : List Value).toArray 9)) = X at hG hB hbl hSg
  obtain ⟨b, hb⟩ : ∃ b, w1.heap.size = b := ⟨_, rfl⟩
  rw [hb] at hG hSg hlt1 hg1 ⊢
  clear hB hbl hb hx1 hP1 ho1 hZ1 hZ
  have HG := Lib.hid hG; clear hG
  have HSg := Lib.hid hSg; clear hSg
  go_loopw [5] (fun i wr => ∃ (k : Nat) (p1 : PS), k ≤ 6 ∧ i = .int .i64 k ∧ Gath g pt cap L w b x p1 wr ∧ Blk wr (b + 1) 9 [.string ⟨#[60]⟩, .string ⟨#[60, 61]⟩, .string ⟨#[62]⟩, .string ⟨#[62, 61]⟩, .string ⟨#[61, 61]⟩, .string ⟨#[33, 61]⟩] ∧ pCmp L (cmpSigns.drop k) (4 + k) p1 = o) (fun i _ => 6 - (intOf i).toNat)
  case atStart => exact ⟨0, q0, Nat.zero_le _, rfl, HG.out, HSg.out, HC.out⟩
  case round =>
    obtain ⟨k, p1, hk, rfl, ⟨cs, hB, hx, hP, hW, ho, hwb, hZ⟩, hSg, hcmp⟩ := hrel; clear HG HSg HC; have hgw : g < w.heap.size := hg; obtain ⟨pm, cm, pn, cn, pk, ck, rfl, -⟩ := IsEx.cellsE hx
    by_cases hlt : k < 6
    · have hst := HS1.out _ _ hSg
      obtain ⟨b', off', hpp, hbn, hsk, hs1⟩ := hst.get (k := k) hlt; simp only [Option.some.injEq, Addr.mk.injEq] at hpp; obtain ⟨rfl, rfl, -⟩ := hpp; rw [Nat.zero_add] at hsk; rw [cmp_drop hlt] at hcmp; unfold pCmp at hcmp; have HT := Lib.hid (pTakeB g pt cap L p1 wr hP hW signs6[k]); have hW2 := hW.take (signs6[k]).data.toList; obtain ⟨c, hc⟩ : ∃ c, (p1.take L (signs6[k]).data.toList).1 = c := ⟨_, rfl⟩; obtain ⟨q, hq⟩ : ∃ q, (p1.take L (signs6[k]).data.toList).2 = q := ⟨_, rfl⟩; rw [hc, hq] at hcmp HT; rw [hq] at hW2; clear hc hq; have hblt := hB.lt; have hslt := hSg.lt; cases c with
      | true =>
        rw [if_pos rfl] at hcmp; subst hcmp; have hr := HR.out; simp only [Option.some.injEq, Prod.mk.injEq] at hr; obtain ⟨rfl, rfl⟩ := hr; clear HR; have HK := Lib.hid (fun (X : World) (hX : PA g pt cap L q X) => pToken g pt cap L q X hX hW2 2)
        go_wp2_with fail
        refine HT.out.mono ?_; rintro e' w3 ⟨rfl, hP3, ho3⟩; go_wp2; have hbd : Below w3.heap.size w3 w3.drew := (Below.refl _ _).drew; have hB3 := (ho3.blkX hB (show b ≠ g by omega)).keep hbd; have hZ3 := (ho3.blkX hZ (show w.heap.size ≠ g by omega)).keep hbd; have hx3 := (hx.off ho3 (show ¬ (w.heap.size < g ∧ g ≠ b) by omega)).below hbd; have hP3 := hP3.keep hbd; have ho3 := (ho.trans ho3).trans (Off.of (g := g) hbd); have hb3 := hB3.lt; have hz3 := hZ3.lt; obtain ⟨tk, htk⟩ : ∃ t, (q.token L 2).1 = t := ⟨_, rfl⟩; rw [htk] at HK; have Htk := Lib.hid htk; unfold Tok.val at HK; have hft2 := fun wx => fieldTok2 tk.kind tk.num tk.pos ⟨tk.text.toArray⟩ wx
        clear htk hB hZ hx ho hP hSg hst hs1 hsk; refine wp_region_held_drew (S := fun W => Blk W b 28 [.int .i64 x.kind, .int .i64 x.fn, .int .i64 x.op, .int .i64 x.num, .string x.metric, .slice pm x.mats.length cm, .int .i64 x.span, .slice pn x.names.length cn, .slice pk x.kids.length ck]) (by kernel_rfl) (by first | exact hB3 | exact hB3.drew) (fun hHeld => ?_); generalize w3.drew = wd at hB3 hZ3 hx3 hP3 ho3 hb3 hz3 hHeld hbd; clear hbd
        (refine htk 0 21 ?_ rfl ?_ ?_; rotate_left; (intro w hSw; clear hSw; go_simp); (try with_reducible rfl); simp only [lsz, lss])
        (refine htk 1 22 (.int .i64 (4 + (k : Int))) rfl ?_ ?_; (intro w hSw; clear hSw; go_simp; try first | exact IntWalk.i64_in _ (by omega) | omega); simp only [lsz, lss])
        (refine htk 2 23 ?_ rfl ?_ ?_; rotate_left; (intro w hSw; clear hSw; go_simp); (try with_reducible rfl); simp only [lsz, lss])
        (refine htk 5 26 (.agg ([.int .i64 x.kind, .int .i64 x.fn, .int .i64 x.op, .int .i64 x.num, .string x.metric, .slice pm x.mats.length cm, .int .i64 x.span, .slice pn x.names.length cn, .slice pk x.kids.length ck] : List Value).toArray) rfl ?_ ?_; (intro w hSw; have q0 := hSw.cell 0 _ rfl; have q1 := hSw.cell 1 _ rfl; have q2 := hSw.cell 2 _ rfl; have q3 := hSw.cell 3 _ rfl; have q4 := hSw.cell 4 _ rfl; have q5 := hSw.cell 5 _ rfl; have q6 := hSw.cell 6 _ rfl; have q7 := hSw.cell 7 _ rfl; have q8 := hSw.cell 8 _ rfl; go_simp); simp only [lsz, lss])
        refine wpAnyH_ready (rs := [3, 6]) (by kernel_rfl) (by simp) (.cons rfl (fun K hK => ?_) (.cons rfl (fun K hK => ?_) .nil))
        · rw [if_pos (by kernel_rfl)]
          go_simp
          refine (HK.out _ hP3).mono ?_; rintro e' w4 ⟨rfl, hP4, ho4⟩
          dsimp only
          have hB4 := ho4.blkX hB3 (show b ≠ g by omega); refine hK.out _ _ hB4 (fun hHeld => ?_); clear hK K
          (try simp only [Act.put, lsa, lsz, lss])
          (refine htk 4 25 ?_ rfl ?_ ?_; rotate_left; (intro w hSw; clear hSw; go_simp); (try with_reducible rfl); simp only [lsz, lss])
          refine hrd 6 rfl (fun K hK => ?_); rw [if_pos (by kernel_rfl)]
          go_simp
          have hZ4 := ho4.blkX hZ3 (show w.heap.size ≠ g by omega); have hx4 := hx3.off ho4 (show ¬ (w.heap.size < g ∧ g ≠ b) by omega); have hl4 := hB4.lt; have hbl4 : Below w4.heap.size w4 (w4.alloc (.cells ([.int .i64 x.kind, .int .i64 x.fn, .int .i64 x.op, .int .i64 x.num, .string x.metric, .slice pm x.mats.length cm, .int .i64 x.span, .slice pn x.names.length cn, .slice pk x.kids.length ck] : List Value).toArray 28)) := (Below.refl _ _).alloc (Nat.le_refl _) _; have hBf := hB4.keep hbl4; have hZf := hZ4.keep hbl4; have hxf := hx4.below hbl4; have hPf := hP4.keep hbl4; have hof := (ho3.trans ho4).trans (Off.of (g := g) hbl4); have hKf := Blk.new w4 [.int .i64 x.kind, .int .i64 x.fn, .int .i64 x.op, .int .i64 x.num, .string x.metric, .slice pm x.mats.length cm, .int .i64 x.span, .slice pn x.names.length cn, .slice pk x.kids.length ck] 28; refine hK.out _ _ hBf (fun hHeld => ?_); clear hK K
          (try simp only [Act.put, lsa, lsz, lss])
          (refine htk 7 28 ?_ rfl ?_ ?_; rotate_left; (intro w hSw; clear hSw; go_simp); (try with_reducible rfl); simp only [lsz, lss])
          refine held_store 8 rfl (by kernel_rfl) (by kernel_rfl) rfl 28 _ _ rfl w.heap.size [.int .i64 5, .int .i64 0, .int .i64 (4 + (k : Int)), .int .i64 tk.num, .string ⟨#[]⟩, .slice none 0 0, .int .i64 0, .slice none 0 0, .slice (some ⟨w4.heap.size, 0, none⟩) 1 1] ZX 28 rfl rfl hZf (by kernel_rfl) rfl (by kernel_rfl) ((setRow_far _ _ _ (show b ≠ w.heap.size by omega)).trans hBf) (fun hHeld => ?_); refine wpAnyH_done (by kernel_rfl) ?_ _; go_wp2; rw [Htk.out]; exact bodyPost_agg (d := _) rfl rfl (setRow_at hZf _) Tryz.underlying28 rfl (by kernel_rfl) rfl (exR_close (S := fun k => w.heap.size < k) (exS_node (by decide) (noMatsS _ _) (noStrsS _ _) (exsS1 hKf (show w.heap.size < w4.heap.size by omega) (hxf.go (Nat.le_refl _) (fun k _ h => h.1) (fun _ _ _ => rfl)))) hPf hof (Nat.le_refl _) hgw (show ¬ w.heap.size < w.heap.size by omega) (fun k _ h => by have h : w.heap.size < k := h; show w.heap.size ≤ k; omega))
        · rw [if_pos (by kernel_rfl)]
          go_simp
          have hbl4 : Below wd.heap.size wd (wd.alloc (.cells ([.int .i64 x.kind, .int .i64 x.fn, .int .i64 x.op, .int .i64 x.num, .string x.metric, .slice pm x.mats.length cm, .int .i64 x.span, .slice pn x.names.length cn, .slice pk x.kids.length ck] : List Value).toArray 28)) := (Below.refl _ _).alloc (Nat.le_refl _) _; have hBa := hB3.keep hbl4; have hZa := hZ3.keep hbl4; have hxa := hx3.below hbl4; have hPa := hP3.keep hbl4; have hoa := ho3.trans (Off.of (g := g) hbl4); have hKa := Blk.new wd [.int .i64 x.kind, .int .i64 x.fn, .int .i64 x.op, .int .i64 x.num, .string x.metric, .slice pm x.mats.length cm, .int .i64 x.span, .slice pn x.names.length cn, .slice pk x.kids.length ck] 28; refine hK.out _ _ hBa (fun hHeld => ?_); clear hK K
          (try simp only [Act.put, lsa, lsz, lss])
          refine hrd 3 rfl (fun K hK => ?_); rw [if_pos (by kernel_rfl)]
          go_simp
          refine (HK.out _ hPa).mono ?_; rintro e' w4 ⟨rfl, hPf, ho4⟩
          dsimp only
          have hBf := ho4.blkX hBa (show b ≠ g by omega); have hZf := ho4.blkX hZa (show w.heap.size ≠ g by omega); have hxf := hxa.off ho4 (show ¬ (w.heap.size < g ∧ g ≠ b) by omega); have hKf := ho4.blkX hKa (show wd.heap.size ≠ g by omega); have hof := hoa.trans ho4; refine hK.out _ _ hBf (fun hHeld => ?_); clear hK K
          (try simp only [Act.put, lsa, lsz, lss])
          (refine htk 4 25 ?_ rfl ?_ ?_; rotate_left; (intro w hSw; clear hSw; go_simp); (try with_reducible rfl); simp only [lsz, lss])
          (refine htk 7 28 ?_ rfl ?_ ?_; rotate_left; (intro w hSw; clear hSw; go_simp); (try with_reducible rfl); simp only [lsz, lss])
          refine held_store 8 rfl (by kernel_rfl) (by kernel_rfl) rfl 28 _ _ rfl w.heap.size [.int .i64 5, .int .i64 0, .int .i64 (4 + (k : Int)), .int .i64 tk.num, .string ⟨#[]⟩, .slice none 0 0, .int .i64 0, .slice none 0 0, .slice (some ⟨wd.heap.size, 0, none⟩) 1 1] ZX 28 rfl rfl hZf (by kernel_rfl) rfl (by kernel_rfl) ((setRow_far _ _ _ (show b ≠ w.heap.size by omega)).trans hBf) (fun hHeld => ?_); refine wpAnyH_done (by kernel_rfl) ?_ _; go_wp2; rw [Htk.out]; exact bodyPost_agg (d := _) rfl rfl (setRow_at hZf _) Tryz.underlying28 rfl (by kernel_rfl) rfl (exR_close (S := fun k => w.heap.size < k) (exS_node (by decide) (noMatsS _ _) (noStrsS _ _) (exsS1 hKf (show w.heap.size < wd.heap.size by omega) (hxf.go (Nat.le_refl _) (fun k _ h => h.1) (fun _ _ _ => rfl)))) hPf hof (Nat.le_refl _) hgw (show ¬ w.heap.size < w.heap.size by omega) (fun k _ h => by have h : w.heap.size < k := h; show w.heap.size ≤ k; omega))
      | false =>
        rw [if_neg (by simp)] at hcmp
        go_wp2_with fail
        refine HT.out.mono ?_; rintro e' w3 ⟨rfl, hP3, ho3⟩; go_wp2; exact ⟨⟨k + 1, q, by omega, by go_num, ⟨_, ho3.blkX hB (show b ≠ g by omega), hx.off ho3 (show ¬ (w.heap.size < g ∧ g ≠ b) by omega), hP3, hW2, ho.trans ho3, hwb, ho3.blkX hZ (show w.heap.size ≠ g by omega)⟩, ho3.blkX hSg (show b + 1 ≠ g by omega), by rw [← hcmp]; congr 1 <;> omega⟩, by simp [intOf]; omega⟩
    · obtain rfl : k = 6 := by omega
      clear hlt hk; have hcmp : (none, p1) = o := hcmp; subst hcmp; have hr := HR.out; simp only [Option.some.injEq, Prod.mk.injEq] at hr; obtain ⟨rfl, rfl⟩ := hr; clear HR; have HZ3 := Lib.hid hZ; have HX3 := Lib.hid hx; have HO3 := Lib.hid ho; have HP3 := Lib.hid hP; have d0 := hB.cell 0 _ rfl; have d1 := hB.cell 1 _ rfl; have d2 := hB.cell 2 _ rfl; have d3 := hB.cell 3 _ rfl; have d4 := hB.cell 4 _ rfl; have d5 := hB.cell 5 _ rfl; have d6 := hB.cell 6 _ rfl; have d7 := hB.cell 7 _ rfl; have d8 := hB.cell 8 _ rfl; clear hB hZ hx ho hP hSg
      go_wp2_with (refine wpList_store_row rfl 28 _ _ rfl w.heap.size ([.int .i64 x.kind, .int .i64 x.fn, .int .i64 x.op, .int .i64 x.num, .string x.metric, .slice pm x.mats.length cm, .int .i64 x.span, .slice pn x.names.length cn, .slice pk x.kids.length ck] : List Value).toArray rfl rfl 28 _ HZ3.out (by kernel_rfl) rfl (by kernel_rfl) ?_)
      exact bodyPost_agg (d := _) rfl rfl (setRow_at HZ3.out _) Tryz.underlying28 rfl (by kernel_rfl) rfl (exR_close HX3.out HP3.out HO3.out (Nat.le_refl _) hgw (show ¬ (w.heap.size < w.heap.size ∧ _) by omega) (fun k _ h => by have h : w.heap.size < k ∧ k ≠ b := h; show w.heap.size ≤ k; omega))
end Go.Proofs.YtpmbamfpmmdhcaaGreat
