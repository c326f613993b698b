/- What plan.expr builds, in memory. -/
import Derived.Test.YtdjdikiimhhjpaaDoorK16
import Derived.Test.YtdjdikiimhhjpaaDoorK17
import Derived.Test.YtdjdikiimhhjpaaDoorK15
import Derived.Test.YtdjdikiimhhjpaaDoorK1
import Derived.Test.YtdjdikiimhhjpaaDoorK9
import Derived.Test.YtdjdikiimhhjpaaDoorK13
import Derived.Test.YtdjdikiimhhjpaaDoorK12
set_option maxRecDepth 100000
set_option maxHeartbeats 16000000
namespace Go.Proofs.YtdjdikiimhhjpaaDoor
open Go.RowKit
set_option linter.unusedSimpArgs false
set_option linter.unusedVariables false
theorem Fresh.small {lo hi : Nat} {w : World} {e : Ex} {cs : List Value} (h : Fresh lo hi w e cs) : e.metric.size ≤ maxLen ∧ (∀ m ∈ e.mats, m.small) ∧ ∀ s ∈ e.names, s.size ≤ maxLen := by
  cases h with
  | mk hs hms hns h1 h2 h3 hl hr => exact ⟨hs, hms, hns⟩
theorem own_ne {lo lo' e e' sz sz' n n' : Nat} {w : World} {v v' : Value} {xs xs' : List Value} (h : w.ownsRow lo e sz v n xs) (h' : w.ownsRow lo' e' sz' v' n' xs') (hne : e ≠ e') {g : Nat} (hg : v.ownBlock = some g) : v'.ownBlock ≠ some g := by
  intro hg'
  rcases h.2 with ⟨rfl, _⟩ | ⟨g1, c1, u1, rfl, _, hh, _⟩
  · cases hg
  · rcases h'.2 with ⟨rfl, _⟩ | ⟨g2, c2, u2, rfl, _, hh', _⟩
    · cases hg'
    · simp [Value.ownBlock] at hg hg'
      subst hg hg'; rw [hh] at hh'
      simp at hh'
      exact hne hh'.2
structure XpW (a0 b0 R B5 : Nat) (e : Ex) (pm : Option Addr) (cm : Nat) (pn : Option Addr) (cn : Nat) (vs v : Value) (ks : List Ex) (rows : List (List Value)) (W : World) : Prop where
  mats : OwnIn a0 b0 W 95 3 (.slice pm e.mats.length cm) e.mats.length (e.mats.map Mat.cells).flatten
  names : OwnIn a0 b0 W 9 1 (.slice pn e.names.length cn) e.names.length (e.names.map fun s => [Value.string s]).flatten
  b5 : Blk W B5 38 [.int .i64 e.kind, .int .i64 e.fn, .int .i64 e.op, .int .i64 e.num, .string e.metric, .slice pm e.mats.length cm, .int .i64 e.span, .slice pn e.names.length cn, vs]
  br : Blk W R 38 [.int .i64 0, .int .i64 0, .int .i64 0, .int .i64 0, .string ⟨#[]⟩, .slice none 0 0, .int .i64 0, .slice none 0 0, .slice none 0 0]
  own : W.ownsRow a0 38 9 v ks.length rows.flatten
  len : rows.length = ks.length
  row : ∀ (k : Nat) (r : List Value) (x : Ex), rows[k]? = some r → ks[k]? = some x → ∃ a b, B5 < a ∧ b ≤ W.heap.size ∧ (∀ g, v.ownBlock = some g → ¬ (a ≤ g ∧ g < b)) ∧ Fresh a b W x r
  ne : ∀ g, v.ownBlock = some g → g ≠ B5
  ord : R < a0 ∧ a0 ≤ b0 ∧ b0 ≤ B5 ∧ B5 < W.heap.size
section
variable {a0 b0 R B5 : Nat} {e : Ex} {pm : Option Addr} {cm : Nat} {pn : Option Addr} {cn : Nat} {vs v : Value} {ks : List Ex} {rows : List (List Value)} {W W' : World}
theorem XpW.keep (h : XpW a0 b0 R B5 e pm cm pn cn vs v ks rows W) (hb : Below W.heap.size W W') : XpW a0 b0 R B5 e pm cm pn cn vs v ks rows W' := by
  obtain ⟨h1, h2, h3, h4⟩ := h.ord
  refine ⟨h.mats.keep (fun k _ hk => hb.block k (by omega)), h.names.keep (fun k _ hk => hb.block k (by omega)), h.b5.keep hb, h.br.keep hb, ownsRow_keep h.own hb, h.len, fun k r x hr hx => ?_, h.ne, ⟨h1, h2, h3, Nat.lt_of_lt_of_le h4 hb.size⟩⟩
  obtain ⟨a, b, k1, k2, k3, k4⟩ := h.row k r x hr hx
  exact ⟨a, b, k1, Nat.le_trans k2 hb.size, k3, k4.keep (fun k _ hk => hb.block k (by omega))⟩
theorem XpW.app (h : XpW a0 b0 R B5 e pm cm pn cn vs v ks rows W) {x : Ex} {cs : List Value} {a b : Nat} (hx : Fresh a b W x cs) (ha : B5 < a) (hb : b ≤ W.heap.size) (hv : ∀ g, v.ownBlock = some g → g < a) {v' : Value}
    (hown : W'.ownsRow a0 38 9 v' (ks.length + 1) (rows.flatten ++ cs)) (hg : W.grownBy W' v.ownBlock) (hat : v'.ownBlock = v.ownBlock ∨ v'.ownBlock = some W.heap.size) :
    XpW a0 b0 R B5 e pm cm pn cn vs v' (ks ++ [x]) (rows ++ [cs]) W' := by
  obtain ⟨h1, h2, h3, h4⟩ := h.ord
  have keepB : ∀ {k : Nat}, k < W.heap.size → v.ownBlock ≠ some k → W'.heap[k]? = W.heap[k]? := fun hk hne => hg.block _ hk (fun e => hne e.symm)
  have hm : OwnIn a0 b0 W' 95 3 (.slice pm e.mats.length cm) e.mats.length (e.mats.map Mat.cells).flatten := by
    refine ⟨ownsRow_offM h.mats.1 (OffM.grown hg) (fun g hgm hgr => ?_), h.mats.2⟩; exact own_ne h.own h.mats.1 (by decide) hgr hgm
  have hnm : OwnIn a0 b0 W' 9 1 (.slice pn e.names.length cn) e.names.length (e.names.map fun s => [Value.string s]).flatten := by
    refine ⟨ownsRow_offM h.names.1 (OffM.grown hg) (fun g hgm hgr => ?_), h.names.2⟩; exact own_ne h.own h.names.1 (by decide) hgr hgm
  have hnew : ∀ g, v'.ownBlock = some g → v.ownBlock = some g ∨ g = W.heap.size := fun g hg' => by
    rcases hat with e1 | e1
    · left; rw [← e1]; exact hg'
    · right; rw [e1] at hg'; exact (Option.some.inj hg').symm
  refine ⟨hm, hnm, (keepB h4 (fun e1 => h.ne _ e1 rfl)).trans h.b5, (keepB (by omega) (fun e1 => by have := (ownsRow_block h.own _ e1).1; omega)).trans h.br, ?_, by rw [List.length_append, List.length_append, h.len]; rfl, fun k r y hr hy => ?_, fun g hg' => ?_, ⟨h1, h2, h3, Nat.lt_of_lt_of_le h4 hg.size⟩⟩
  · rw [List.length_append, List.flatten_append]
    simpa using hown
  · have hlen := h.len
    by_cases hk : k < rows.length
    · rw [List.getElem?_append_left hk] at hr
      rw [List.getElem?_append_left (by omega)] at hy; obtain ⟨a', b', k1, k2, k3, k4⟩ := h.row k r y hr hy; refine ⟨a', b', k1, Nat.le_trans k2 hg.size, fun g hg' => ?_, k4.keep (fun i i1 i2 => keepB (by omega) (fun e1 => k3 i e1 ⟨i1, i2⟩))⟩; rcases hnew g hg' with e1 | e1
      · exact k3 g e1
      · omega
    · rw [List.getElem?_append_right (by omega)] at hr
      rw [List.getElem?_append_right (by omega)] at hy; have e0 : k - rows.length = 0 := by have := (List.getElem?_eq_some_iff.1 hr).1; simp at this; omega
      rw [e0] at hr; rw [show k - ks.length = 0 by omega] at hy
      simp at hr hy
      subst hr hy; refine ⟨a, b, ha, Nat.le_trans hb hg.size, fun g hg' => ?_, hx.keep (fun i i1 i2 => keepB (by omega) (fun e1 => by have := hv i e1; omega))⟩; rcases hnew g hg' with e1 | e1
      · have := hv g e1; omega
      · omega
  · rcases hnew g hg' with e1 | e1
    · exact h.ne g e1
    · omega
theorem XpW.store (h : XpW a0 b0 R B5 e pm cm pn cn vs v ks rows W) : XpW a0 b0 R B5 e pm cm pn cn v v ks rows (W.setCell ⟨B5, 8, none⟩ v) := by
  obtain ⟨h1, h2, h3, h4⟩ := h.ord
  have ho := OffM.cell1 W B5 8 v
  have hs : (W.setCell ⟨B5, 8, none⟩ v).heap.size = W.heap.size := by unfold World.setCell; simp
  have hk : ∀ k, k < W.heap.size → k ≠ B5 → (W.setCell ⟨B5, 8, none⟩ v).heap[k]? = W.heap[k]? := fun k hk hne => ho.block k hk hne
  refine ⟨h.mats.keep (fun k _ hk' => hk k (by omega) (by omega)), h.names.keep (fun k _ hk' => hk k (by omega) (by omega)), h.b5.set_ 8 v, h.br.far (by simp; omega) _, ownsRow_offM h.own ho (fun g hg => h.ne g hg), h.len, fun k r x hr hx => ?_, h.ne, ⟨h1, h2, h3, by rw [hs]; exact h4⟩⟩
  obtain ⟨a, b, k1, k2, k3, k4⟩ := h.row k r x hr hx
  exact ⟨a, b, k1, by rw [hs]; exact k2, k3, k4.keep (fun i i1 i2 => hk i (by omega) (by omega))⟩
theorem XpW.start (hx : Fresh a0 b0 W e [.int .i64 e.kind, .int .i64 e.fn, .int .i64 e.op, .int .i64 e.num, .string e.metric, .slice pm e.mats.length cm, .int .i64 e.span, .slice pn e.names.length cn, v]) (hkid : e.kids = [])
    (hb5 : Blk W B5 38 [.int .i64 e.kind, .int .i64 e.fn, .int .i64 e.op, .int .i64 e.num, .string e.metric, .slice pm e.mats.length cm, .int .i64 e.span, .slice pn e.names.length cn, v]) (hbr : Blk W R 38 [.int .i64 0, .int .i64 0, .int .i64 0, .int .i64 0, .string ⟨#[]⟩, .slice none 0 0, .int .i64 0, .slice none 0 0, .slice none 0 0]) (ho : R < a0 ∧ a0 ≤ b0 ∧ b0 ≤ B5) :
    XpW a0 b0 R B5 e pm cm pn cn v v [] [] W := by
  obtain ⟨vm, vn, vk, rows, hcs, h1, h2, h3, h4, -⟩ := hx.cells
  simp at hcs
  obtain ⟨rfl, rfl, rfl⟩ := hcs
  rw [hkid] at h3 h4
  have : rows = [] := List.eq_nil_of_length_eq_zero h4
  subst this
  refine ⟨h1, h2, hb5, hbr, h3.1, rfl, fun k r x hr => by simp at hr, fun g hg => ?_, ⟨ho.1, ho.2.1, ho.2.2, hb5.lt⟩⟩
  have := h3.2 g hg; omega
theorem XpW.done (h : XpW a0 b0 R B5 e pm cm pn cn vs v ks rows W) (hs : e.metric.size ≤ maxLen ∧ (∀ m ∈ e.mats, m.small) ∧ ∀ s ∈ e.names, s.size ≤ maxLen) :
    Fresh a0 W.heap.size W (e.withKids ks) [.int .i64 e.kind, .int .i64 e.fn, .int .i64 e.op, .int .i64 e.num, .string e.metric, .slice pm e.mats.length cm, .int .i64 e.span, .slice pn e.names.length cn, v] := by
  obtain ⟨h1, h2, h3, h4⟩ := h.ord
  refine .mk hs.1 hs.2.1 hs.2.2 (h.mats.more (Nat.le_refl _) (by omega)) (h.names.more (Nat.le_refl _) (by omega)) ⟨h.own, fun g hg => (ownsRow_block h.own g hg).2⟩ h.len fun k r x hr hx => ?_
  obtain ⟨a, b, k1, k2, k3, k4⟩ := h.row k r x hr hx
  exact k4.more (by omega) k2
end
end Go.Proofs.YtdjdikiimhhjpaaDoor
namespace Go.Proofs.YtdjdikiimhhjpaaDoor
open Go.RowKit
set_option linter.unusedSimpArgs false
set_option linter.unusedVariables false
def ThinP (p : List Nd) : Prop := ∀ x ∈ p, x.ex.thin
theorem planExpr (p : List Nd) (v : Value) (n : Nat) (hok : OkPlan p) (hpl : p.length ≤ 1000) (hth : ThinP p) : ∀ (k : Nat) (w : World), n ≤ w.heap.size → IsNds n w v p → k < p.length →
    Calls Tryd.prog 29 #[v, .int .i64 ((k : Int) + 1)] w fun e' w' => ∃ cs' : List Value, e' = .returned (.agg cs'.toArray) ∧ Fresh w.heap.size w'.heap.size w' (exprAt p ((k : Int) + 1)) cs' ∧ Below w.heap.size w w' := by
  intro k
  induction k using Nat.strongRecOn with
  | _ k ih =>
  intro w hn hp hk
  obtain ⟨i0, hi, hz0, hz1, hz2⟩ := info_parts infoE
  obtain ⟨pp, cp, rfl, _, hcm, hpm⟩ := hp.open
  unfold maxLen at hcm hpm
  have HP := Lib.hid hp
  have Hih := Lib.hid ih; clear ih
  obtain ⟨b, off, pm, cm, pn, cn, pk, ck, pi, ci, rfl, hbn, hex, hii, hc⟩ := hp.get hk
  have hnode := exprAt_node hok.ahead hk
  have hkid := (hok k _ (List.getElem?_eq_getElem hk)).bare
  have hth1 := hth _ (List.getElem_mem hk)
  have hx2 := hok.two p[k] (List.getElem_mem hk)
  have hax : ∀ m ∈ p[k].ins, 1 ≤ m ∧ m ≤ (k : Int) := fun m hm => hok.ahead k m (by unfold insAt; rw [List.getElem?_eq_getElem hk]; exact hm)
  obtain ⟨x, hx⟩ : ∃ x, p[k] = x := ⟨_, rfl⟩
  rw [hx] at hex hii hc hnode hkid hth1 hx2 hax
  have hsz1 : x.ex.size ≤ 1000000 := by rw [Ex.size_eq, hkid]; simp [sizes]
  have Hax := Lib.hid hax; have Hii := Lib.hid hii; have Hex := Lib.hid hex; have Hnode := Lib.hid hnode; have Hkid := Lib.hid hkid
  have HC := Lib.hid (fun w1 (h : Below w.heap.size w w1) => aCopy x.ex _ n w1 (Nat.le_trans hn h.size) (Hex.out.mono (h.mono hn) (Nat.le_refl _)) hth1 hsz1)
  have hki : (k : Int) < (p.length : Int) := by omega
  have Hc := Lib.hid hc
  clear hx hc hii hex hnode hkid hax hp hth1 hth hsz1
  have HOK := Lib.hid hok; clear hok
  go_enter Tryd.func29, Tryd.ntmps29; (try simp only [List.append_eq, List.cons_append, List.nil_append])
  go_upto_region 1 with fail
  obtain ⟨X, hW⟩ : ∃ z, w.alloc (.cells #[.int .i64 0, .int .i64 0, .int .i64 0, .int .i64 0, .string ⟨#[]⟩, .slice none 0 0, .int .i64 0, .slice none 0 0, .slice none 0 0] 38) = z := ⟨_, rfl⟩
  have B1 : Blk X w.heap.size 38 [.int .i64 0, .int .i64 0, .int .i64 0, .int .i64 0, .string ⟨#[]⟩, .slice none 0 0, .int .i64 0, .slice none 0 0, .slice none 0 0] := by rw [← hW]; exact Blk.new w _ _
  have bX : Below w.heap.size w X := by rw [← hW]; exact (Below.refl _ _).alloc (Nat.le_refl _) _
  have hzX : X.heap.size = w.heap.size + 1 := by rw [← hW]; simp
  rw [hW]; clear hW
  have hcX : ∀ j u, (ndCells x pm cm pn cn pk ck pi ci)[j]? = some u → X.cell? ⟨b, off + k * 11 + j, none⟩ = some u := fun j u h => by
    rw [← Hc.out j u h]; exact World.cell?_of_block (bX.block b (Nat.lt_of_lt_of_le hbn hn))
  have c1 := hcX 1 _ rfl
  have d2 : X.cell? ⟨b, off + k * 11 + 1 + 1, none⟩ = _ := hcX 2 _ rfl; have d3 : X.cell? ⟨b, off + k * 11 + 1 + 2, none⟩ = _ := hcX 3 _ rfl; have d4 : X.cell? ⟨b, off + k * 11 + 1 + 3, none⟩ = _ := hcX 4 _ rfl; have d5 : X.cell? ⟨b, off + k * 11 + 1 + 4, none⟩ = _ := hcX 5 _ rfl; have d6 : X.cell? ⟨b, off + k * 11 + 1 + 5, none⟩ = _ := hcX 6 _ rfl; have d7 : X.cell? ⟨b, off + k * 11 + 1 + 6, none⟩ = _ := hcX 7 _ rfl; have d8 : X.cell? ⟨b, off + k * 11 + 1 + 7, none⟩ = _ := hcX 8 _ rfl; have d9 : X.cell? ⟨b, off + k * 11 + 1 + 8, none⟩ = _ := hcX 9 _ rfl
  have HB1 := Lib.hid B1; have HBX := Lib.hid bX; have HZX := Lib.hid hzX
  clear hcX B1 bX hzX
  go_wp2_with fail
  refine (HC.out X HBX.out).mono ?_
  rintro e' w1 ⟨cs1, rfl, hfr, hb1⟩
  obtain ⟨vm, vn, vk, rows0, rfl, m1, m2, m3, -, -⟩ := hfr.cells
  obtain ⟨qm, dm, rfl⟩ := ownsRow_slice m1.1; obtain ⟨qn, dn, rfl⟩ := ownsRow_slice m2.1; obtain ⟨qk, dk, rfl⟩ := ownsRow_slice m3.1
  clear m1 m2 m3
  have HS := Lib.hid hfr.small
  have HB1 := Lib.hid (HB1.out.keep hb1); have HBw := Lib.hid (HBX.out.trans (hb1.mono HBX.out.size)); have hsz1 := hb1.size
  have HFr := Lib.hid hfr
  clear hb1 hfr c1 d2 d3 d4 d5 d6 d7 d8 d9 HC
  go_upto_region 2 with fail
  obtain ⟨Y, hW⟩ : ∃ z, w1.alloc (.cells #[.int .i64 x.ex.kind, .int .i64 x.ex.fn, .int .i64 x.ex.op, .int .i64 x.ex.num, .string x.ex.metric, .slice qm x.ex.mats.length dm, .int .i64 x.ex.span, .slice qn x.ex.names.length dn, .slice qk x.ex.kids.length dk] 38) = z := ⟨_, rfl⟩
  have B5 : Blk Y w1.heap.size 38 [.int .i64 x.ex.kind, .int .i64 x.ex.fn, .int .i64 x.ex.op, .int .i64 x.ex.num, .string x.ex.metric, .slice qm x.ex.mats.length dm, .int .i64 x.ex.span, .slice qn x.ex.names.length dn, .slice qk x.ex.kids.length dk] := by rw [← hW]; exact Blk.new w1 _ _
  have bY : Below w1.heap.size w1 Y := by rw [← hW]; exact (Below.refl _ _).alloc (Nat.le_refl _) _
  rw [hW]; clear hW
  have hx0 : XpW X.heap.size w1.heap.size w.heap.size w1.heap.size x.ex qm dm qn dn (.slice qk x.ex.kids.length dk) (.slice qk x.ex.kids.length dk) [] [] Y := XpW.start (HFr.out.keep (fun i _ hi => bY.block i hi)) Hkid.out B5 (HB1.out.keep bY) ⟨by have := HZX.out; omega, hsz1, Nat.le_refl _⟩
  have HX0 := Lib.hid hx0; have HBY := Lib.hid (HBw.out.trans (bY.mono HBw.out.size))
  clear hx0 B5 bY HB1 HBw HFr
  have c10 : Y.cell? ⟨b, off + k * 11 + 10, none⟩ = some (.slice pi x.ins.length ci) := by
    rw [← Hc.out 10 _ rfl]; exact World.cell?_of_block (HBY.out.block b (Nat.lt_of_lt_of_le hbn hn))
  obtain ⟨B, hB⟩ : ∃ z, w1.heap.size = z := ⟨_, rfl⟩
  rw [hB] at HX0 ⊢
  rw [hB] at hsz1
  clear hB Hc
  go_upto_region 3 with fail
  clear c10
  go_loopw [22] (fun j wr => ∃ (i : Nat) (v : Value) (rows : List (List Value)), i ≤ x.ins.length ∧ j = .int .i64 i ∧ XpW X.heap.size B w.heap.size B x.ex qm dm qn dn v v ((x.ins.take i).map (exprAt p)) rows wr ∧ Below w.heap.size w wr) (fun j _ => x.ins.length - (intOf j).toNat)
  case atStart => exact ⟨0, _, [], Nat.zero_le _, rfl, by simpa using HX0.out, HBY.out⟩
  case round =>
    clear HX0 HBY; obtain ⟨i, v, rows, hi', rfl, hX, hb⟩ := hrel; have HX := Lib.hid hX; have Hb := Lib.hid hb; clear hX hb; have hkl : ((x.ins.take i).map (exprAt p)).length = i := by rw [List.length_map, List.length_take]; omega
    have HKL := Lib.hid hkl; clear hkl; obtain ⟨ad, cpv, hv⟩ := ownsRow_slice HX.out.own; rw [HKL.out] at hv; subst hv
    by_cases hlt : i < x.ins.length
    · have hii2 : (i : Int) < (x.ins.length : Int) := by omega
      obtain ⟨b2, off2, rfl, hbn2, e0⟩ := (Hii.out.mono (Hb.out.mono hn) (Nat.le_refl _)).get hlt; have HSt := Lib.hid (show (x.ins.take (i + 1)).map (exprAt p) = (x.ins.take i).map (exprAt p) ++ [exprAt p x.ins[i]] from by rw [List.take_succ_eq_append_getElem hlt, List.map_append]; rfl); have hax := Hax.out x.ins[i] (List.getElem_mem hlt); generalize x.ins[i] = r at *; obtain ⟨j, rfl⟩ : ∃ j : Nat, r = (j : Int) + 1 := ⟨(r - 1).toNat, by omega⟩; have hjk : j < k := by omega
      go_upto_region 5 with fail
      clear e0 hax; refine wp_region_held_drew (S := fun _ => True) (by kernel_rfl) trivial (fun hHeld => ?_)
      (refine htk 0 26 ?_ rfl ?_ ?_; rotate_left; (intro w hSw; clear hSw; go_simp); (try with_reducible rfl); simp only [lsz, lss])
      (refine htk 2 28 ?_ rfl ?_ ?_; rotate_left; (intro w hSw; clear hSw; go_simp); (try with_reducible rfl); simp only [lsz, lss])
      (refine htk 3 29 ?_ rfl ?_ ?_; rotate_left; (intro w hSw; clear hSw; go_simp); (try with_reducible rfl); simp only [lsz, lss])
      have hbd : Below wr.heap.size wr wr.drew := Below.drew (Below.refl _ _); have h1 := HX.out.keep hbd; have hbb := Hb.out.trans (hbd.mono Hb.out.size); obtain ⟨y0, hy0⟩ : ∃ z, wr.drew = z := ⟨_, rfl⟩; rw [hy0] at h1 hbb ⊢; clear hbd hy0 HX Hb; have HCall := Lib.hid (Hih.out j hjk y0 (Nat.le_trans hn hbb.size) (HP.out.mono (hbb.mono hn) (Nat.le_refl _)) (by omega)); have HV := Lib.hid (fun g hg => (ownsRow_block h1.own g hg).2); have hBy := h1.ord.2.2.2; have HX := Lib.hid h1; have Hb := Lib.hid hbb; clear h1 hbb; generalize exprAt p ((j : Int) + 1) = E at *; refine wpAnyH_ready (rs := [1, 4]) (by kernel_rfl) (by simp) (.cons rfl (fun K' hK' => ?_) (.cons rfl (fun K' hK' => ?_) .nil))
      · skip
        rw [if_pos (by kernel_rfl)]; have q8 := HX.out.b5.cell 8 _ rfl
        go_simp
        refine hK'.out _ _ trivial (fun hHeld => ?_); clear hK' K' q8
        (try simp only [Act.put, lsa, lsz, lss])
        refine wpAnyH_ready (rs := [4]) (by kernel_rfl) (by simp) (.cons rfl (fun K' hK' => ?_) .nil); rw [if_pos (by kernel_rfl)]
        go_simp
        refine HCall.out.mono ?_; rintro e' x2 ⟨cs2, rfl, hfr, hb2⟩; obtain ⟨vm, vn, vk, rows0, rfl, m1, m2, m3, -, -⟩ := hfr.cells; obtain ⟨em, fm, rfl⟩ := ownsRow_slice m1.1; obtain ⟨en, fn, rfl⟩ := ownsRow_slice m2.1; obtain ⟨ek, fk, rfl⟩ := ownsRow_slice m3.1; clear m1 m2 m3; have hsy := hb2.size; have HX := Lib.hid (HX.out.keep hb2); have Hb := Lib.hid (Hb.out.trans (hb2.mono Hb.out.size)); have HFr := Lib.hid hfr; clear hfr hb2
        dsimp only
        refine hK'.out _ _ trivial (fun hHeld => ?_); clear hK' K'
        (try simp only [Act.put, lsa, lsz, lss])
        refine wpAnyH_ready (rs := [5]) (by kernel_rfl) (by simp) (.cons rfl (fun K' hK' => ?_) .nil); rw [if_pos (by kernel_rfl)]
        go_simp
        refine hK'.out _ _ trivial (fun hHeld => ?_); clear hK' K'
        (try simp only [Act.put, lsa, lsz, lss])
        have hb3 : Below x2.heap.size x2 (x2.alloc (.cells #[.int .i64 E.kind, .int .i64 E.fn, .int .i64 E.op, .int .i64 E.num, .string E.metric, .slice em E.mats.length fm, .int .i64 E.span, .slice en E.names.length fn, .slice ek E.kids.length fk] 38)) := (Below.refl _ _).alloc (Nat.le_refl _) _; have hs : Src (x2.alloc (.cells #[.int .i64 E.kind, .int .i64 E.fn, .int .i64 E.op, .int .i64 E.num, .string E.metric, .slice em E.mats.length fm, .int .i64 E.span, .slice en E.names.length fn, .slice ek E.kids.length fk] 38)) (.slice (some ⟨x2.heap.size, 0, none⟩) 1 1) 9 1 [.int .i64 E.kind, .int .i64 E.fn, .int .i64 E.op, .int .i64 E.num, .string E.metric, .slice em E.mats.length fm, .int .i64 E.span, .slice en E.names.length fn, .slice ek E.kids.length fk] := src_new rfl rfl; have hsz3 : (x2.alloc (.cells #[.int .i64 E.kind, .int .i64 E.fn, .int .i64 E.op, .int .i64 E.num, .string E.metric, .slice em E.mats.length fm, .int .i64 E.span, .slice en E.names.length fn, .slice ek E.kids.length fk] 38)).heap.size = x2.heap.size + 1 := World.size_alloc _ _; have HX := Lib.hid (HX.out.keep hb3); have Hb := Lib.hid (Hb.out.trans (hb3.mono Hb.out.size)); have HFr := Lib.hid (HFr.out.keep (fun i _ h2 => hb3.block i h2)); obtain ⟨x3, hx3⟩ : ∃ z, x2.alloc (.cells #[.int .i64 E.kind, .int .i64 E.fn, .int .i64 E.op, .int .i64 E.num, .string E.metric, .slice em E.mats.length fm, .int .i64 E.span, .slice en E.names.length fn, .slice ek E.kids.length fk] 38) = z := ⟨_, rfl⟩; rw [hx3] at hs hsz3 HX Hb HFr ⊢; have HSrc := Lib.hid hs; clear hx3 hs hb3; refine wpAnyH_ready (rs := [6]) (by kernel_rfl) (by simp) (.cons rfl (fun K' hK' => ?_) .nil); rw [if_pos (by kernel_rfl)]; have hown0 := HX.out.own; rw [HKL.out] at hown0; refine wp_append_src _ _ _ _ rfl X.heap.size 38 i0 _ 9 128 Tryd.underlying36 hi hz0 hz1 hz2 rfl (by decide) _ _ rows.flatten rfl hown0 _ 1 [.int .i64 E.kind, .int .i64 E.fn, .int .i64 E.op, .int .i64 E.num, .string E.metric, .slice em E.mats.length fm, .int .i64 E.span, .slice en E.names.length fn, .slice ek E.kids.length fk] rfl HSrc.out (by intro u hu; simp at hu; rcases hu with rfl | rfl | rfl | rfl | rfl | rfl | rfl | rfl | rfl <;> rfl) (by unfold maxLen; omega) (by omega) (by omega) ?_; clear hown0; intro v3 w3 hown3 hgr3 hat3; have hbw : Below w.heap.size x3 w3 := below_app (Below.refl _ _) HX.out.own hgr3 (by have := HX.out.ord; omega) Hb.out.size; have h3 := HX.out.app HFr.out hBy (by omega) HV.out (by rw [HKL.out]; exact hown3) hgr3 hat3; rw [← HSt.out] at h3; obtain ⟨ad3, cp3, rfl⟩ := ownsRow_slice hown3; have HX := Lib.hid h3; have Hb := Lib.hid (Hb.out.trans hbw); clear h3 hown3 hgr3 hat3 hbw HSrc HFr; refine hK'.out _ _ trivial (fun hHeld => ?_); clear hK' K'
        (try simp only [Act.put, lsa, lsz, lss])
        (refine htk 7 33 ?_ rfl ?_ ?_; rotate_left; (intro w hSw; clear hSw; go_simp); (try with_reducible rfl); simp only [lsz, lss])
        refine wpAnyH_ready (rs := [8]) (by kernel_rfl) (by simp) (.cons rfl (fun K' hK' => ?_) .nil); rw [if_pos (by kernel_rfl)]; have q8 := HX.out.b5.cell 8 _ rfl; have f8 := HX.out.b5.free 8
        go_simp
        refine hK'.out _ _ trivial (fun hHeld => ?_); clear hK' K' q8 f8
        (try simp only [Act.put, lsa, lsz, lss])
        refine wpAnyH_done (by kernel_rfl) ?_ _; go_wp2; exact ⟨⟨i + 1, _, _, by omega, by go_num, HX.out.store, Hb.out.setCell (by have := HX.out.ord; simp; omega) _⟩, by simp [intOf]; omega⟩
      · skip
        rw [if_pos (by kernel_rfl)]
        go_simp
        refine HCall.out.mono ?_; rintro e' x2 ⟨cs2, rfl, hfr, hb2⟩; obtain ⟨vm, vn, vk, rows0, rfl, m1, m2, m3, -, -⟩ := hfr.cells; obtain ⟨em, fm, rfl⟩ := ownsRow_slice m1.1; obtain ⟨en, fn, rfl⟩ := ownsRow_slice m2.1; obtain ⟨ek, fk, rfl⟩ := ownsRow_slice m3.1; clear m1 m2 m3; have hsy := hb2.size; have HX := Lib.hid (HX.out.keep hb2); have Hb := Lib.hid (Hb.out.trans (hb2.mono Hb.out.size)); have HFr := Lib.hid hfr; clear hfr hb2
        dsimp only
        refine hK'.out _ _ trivial (fun hHeld => ?_); clear hK' K'
        (try simp only [Act.put, lsa, lsz, lss])
        refine wpAnyH_ready (rs := [1, 5]) (by kernel_rfl) (by simp) (.cons rfl (fun K' hK' => ?_) (.cons rfl (fun K' hK' => ?_) .nil))
        · skip
          rw [if_pos (by kernel_rfl)]; have q8 := HX.out.b5.cell 8 _ rfl
          go_simp
          refine hK'.out _ _ trivial (fun hHeld => ?_); clear hK' K' q8
          (try simp only [Act.put, lsa, lsz, lss])
          refine wpAnyH_ready (rs := [5]) (by kernel_rfl) (by simp) (.cons rfl (fun K' hK' => ?_) .nil); rw [if_pos (by kernel_rfl)]
          go_simp
          refine hK'.out _ _ trivial (fun hHeld => ?_); clear hK' K'
          (try simp only [Act.put, lsa, lsz, lss])
          have hb3 : Below x2.heap.size x2 (x2.alloc (.cells #[.int .i64 E.kind, .int .i64 E.fn, .int .i64 E.op, .int .i64 E.num, .string E.metric, .slice em E.mats.length fm, .int .i64 E.span, .slice en E.names.length fn, .slice ek E.kids.length fk] 38)) := (Below.refl _ _).alloc (Nat.le_refl _) _; have hs : Src (x2.alloc (.cells #[.int .i64 E.kind, .int .i64 E.fn, .int .i64 E.op, .int .i64 E.num, .string E.metric, .slice em E.mats.length fm, .int .i64 E.span, .slice en E.names.length fn, .slice ek E.kids.length fk] 38)) (.slice (some ⟨x2.heap.size, 0, none⟩) 1 1) 9 1 [.int .i64 E.kind, .int .i64 E.fn, .int .i64 E.op, .int .i64 E.num, .string E.metric, .slice em E.mats.length fm, .int .i64 E.span, .slice en E.names.length fn, .slice ek E.kids.length fk] := src_new rfl rfl; have hsz3 : (x2.alloc (.cells #[.int .i64 E.kind, .int .i64 E.fn, .int .i64 E.op, .int .i64 E.num, .string E.metric, .slice em E.mats.length fm, .int .i64 E.span, .slice en E.names.length fn, .slice ek E.kids.length fk] 38)).heap.size = x2.heap.size + 1 := World.size_alloc _ _; have HX := Lib.hid (HX.out.keep hb3); have Hb := Lib.hid (Hb.out.trans (hb3.mono Hb.out.size)); have HFr := Lib.hid (HFr.out.keep (fun i _ h2 => hb3.block i h2)); obtain ⟨x3, hx3⟩ : ∃ z, x2.alloc (.cells #[.int .i64 E.kind, .int .i64 E.fn, .int .i64 E.op, .int .i64 E.num, .string E.metric, .slice em E.mats.length fm, .int .i64 E.span, .slice en E.names.length fn, .slice ek E.kids.length fk] 38) = z := ⟨_, rfl⟩; rw [hx3] at hs hsz3 HX Hb HFr ⊢; have HSrc := Lib.hid hs; clear hx3 hs hb3; refine wpAnyH_ready (rs := [6]) (by kernel_rfl) (by simp) (.cons rfl (fun K' hK' => ?_) .nil); rw [if_pos (by kernel_rfl)]; have hown0 := HX.out.own; rw [HKL.out] at hown0; refine wp_append_src _ _ _ _ rfl X.heap.size 38 i0 _ 9 128 Tryd.underlying36 hi hz0 hz1 hz2 rfl (by decide) _ _ rows.flatten rfl hown0 _ 1 [.int .i64 E.kind, .int .i64 E.fn, .int .i64 E.op, .int .i64 E.num, .string E.metric, .slice em E.mats.length fm, .int .i64 E.span, .slice en E.names.length fn, .slice ek E.kids.length fk] rfl HSrc.out (by intro u hu; simp at hu; rcases hu with rfl | rfl | rfl | rfl | rfl | rfl | rfl | rfl | rfl <;> rfl) (by unfold maxLen; omega) (by omega) (by omega) ?_; clear hown0; intro v3 w3 hown3 hgr3 hat3; have hbw : Below w.heap.size x3 w3 := below_app (Below.refl _ _) HX.out.own hgr3 (by have := HX.out.ord; omega) Hb.out.size; have h3 := HX.out.app HFr.out hBy (by omega) HV.out (by rw [HKL.out]; exact hown3) hgr3 hat3; rw [← HSt.out] at h3; obtain ⟨ad3, cp3, rfl⟩ := ownsRow_slice hown3; have HX := Lib.hid h3; have Hb := Lib.hid (Hb.out.trans hbw); clear h3 hown3 hgr3 hat3 hbw HSrc HFr; refine hK'.out _ _ trivial (fun hHeld => ?_); clear hK' K'
          (try simp only [Act.put, lsa, lsz, lss])
          (refine htk 7 33 ?_ rfl ?_ ?_; rotate_left; (intro w hSw; clear hSw; go_simp); (try with_reducible rfl); simp only [lsz, lss])
          refine wpAnyH_ready (rs := [8]) (by kernel_rfl) (by simp) (.cons rfl (fun K' hK' => ?_) .nil); rw [if_pos (by kernel_rfl)]; have q8 := HX.out.b5.cell 8 _ rfl; have f8 := HX.out.b5.free 8
          go_simp
          refine hK'.out _ _ trivial (fun hHeld => ?_); clear hK' K' q8 f8
          (try simp only [Act.put, lsa, lsz, lss])
          refine wpAnyH_done (by kernel_rfl) ?_ _; go_wp2; exact ⟨⟨i + 1, _, _, by omega, by go_num, HX.out.store, Hb.out.setCell (by have := HX.out.ord; simp; omega) _⟩, by simp [intOf]; omega⟩
        · skip
          rw [if_pos (by kernel_rfl)]
          go_simp
          refine hK'.out _ _ trivial (fun hHeld => ?_); clear hK' K'
          (try simp only [Act.put, lsa, lsz, lss])
          have hb3 : Below x2.heap.size x2 (x2.alloc (.cells #[.int .i64 E.kind, .int .i64 E.fn, .int .i64 E.op, .int .i64 E.num, .string E.metric, .slice em E.mats.length fm, .int .i64 E.span, .slice en E.names.length fn, .slice ek E.kids.length fk] 38)) := (Below.refl _ _).alloc (Nat.le_refl _) _; have hs : Src (x2.alloc (.cells #[.int .i64 E.kind, .int .i64 E.fn, .int .i64 E.op, .int .i64 E.num, .string E.metric, .slice em E.mats.length fm, .int .i64 E.span, .slice en E.names.length fn, .slice ek E.kids.length fk] 38)) (.slice (some ⟨x2.heap.size, 0, none⟩) 1 1) 9 1 [.int .i64 E.kind, .int .i64 E.fn, .int .i64 E.op, .int .i64 E.num, .string E.metric, .slice em E.mats.length fm, .int .i64 E.span, .slice en E.names.length fn, .slice ek E.kids.length fk] := src_new rfl rfl; have hsz3 : (x2.alloc (.cells #[.int .i64 E.kind, .int .i64 E.fn, .int .i64 E.op, .int .i64 E.num, .string E.metric, .slice em E.mats.length fm, .int .i64 E.span, .slice en E.names.length fn, .slice ek E.kids.length fk] 38)).heap.size = x2.heap.size + 1 := World.size_alloc _ _; have HX := Lib.hid (HX.out.keep hb3); have Hb := Lib.hid (Hb.out.trans (hb3.mono Hb.out.size)); have HFr := Lib.hid (HFr.out.keep (fun i _ h2 => hb3.block i h2)); obtain ⟨x3, hx3⟩ : ∃ z, x2.alloc (.cells #[.int .i64 E.kind, .int .i64 E.fn, .int .i64 E.op, .int .i64 E.num, .string E.metric, .slice em E.mats.length fm, .int .i64 E.span, .slice en E.names.length fn, .slice ek E.kids.length fk] 38) = z := ⟨_, rfl⟩; rw [hx3] at hs hsz3 HX Hb HFr ⊢; have HSrc := Lib.hid hs; clear hx3 hs hb3; refine wpAnyH_ready (rs := [1]) (by kernel_rfl) (by simp) (.cons rfl (fun K' hK' => ?_) .nil); rw [if_pos (by kernel_rfl)]; have q8 := HX.out.b5.cell 8 _ rfl
          go_simp
          refine hK'.out _ _ trivial (fun hHeld => ?_); clear hK' K' q8
          (try simp only [Act.put, lsa, lsz, lss])
          refine wpAnyH_ready (rs := [6]) (by kernel_rfl) (by simp) (.cons rfl (fun K' hK' => ?_) .nil); rw [if_pos (by kernel_rfl)]; have hown0 := HX.out.own; rw [HKL.out] at hown0; refine wp_append_src _ _ _ _ rfl X.heap.size 38 i0 _ 9 128 Tryd.underlying36 hi hz0 hz1 hz2 rfl (by decide) _ _ rows.flatten rfl hown0 _ 1 [.int .i64 E.kind, .int .i64 E.fn, .int .i64 E.op, .int .i64 E.num, .string E.metric, .slice em E.mats.length fm, .int .i64 E.span, .slice en E.names.length fn, .slice ek E.kids.length fk] rfl HSrc.out (by intro u hu; simp at hu; rcases hu with rfl | rfl | rfl | rfl | rfl | rfl | rfl | rfl | rfl <;> rfl) (by unfold maxLen; omega) (by omega) (by omega) ?_; clear hown0; intro v3 w3 hown3 hgr3 hat3; have hbw : Below w.heap.size x3 w3 := below_app (Below.refl _ _) HX.out.own hgr3 (by have := HX.out.ord; omega) Hb.out.size; have h3 := HX.out.app HFr.out hBy (by omega) HV.out (by rw [HKL.out]; exact hown3) hgr3 hat3; rw [← HSt.out] at h3; obtain ⟨ad3, cp3, rfl⟩ := ownsRow_slice hown3; have HX := Lib.hid h3; have Hb := Lib.hid (Hb.out.trans hbw); clear h3 hown3 hgr3 hat3 hbw HSrc HFr; refine hK'.out _ _ trivial (fun hHeld => ?_); clear hK' K'
          (try simp only [Act.put, lsa, lsz, lss])
          (refine htk 7 33 ?_ rfl ?_ ?_; rotate_left; (intro w hSw; clear hSw; go_simp); (try with_reducible rfl); simp only [lsz, lss])
          refine wpAnyH_ready (rs := [8]) (by kernel_rfl) (by simp) (.cons rfl (fun K' hK' => ?_) .nil); rw [if_pos (by kernel_rfl)]; have q8 := HX.out.b5.cell 8 _ rfl; have f8 := HX.out.b5.free 8
          go_simp
          refine hK'.out _ _ trivial (fun hHeld => ?_); clear hK' K' q8 f8
          (try simp only [Act.put, lsa, lsz, lss])
          refine wpAnyH_done (by kernel_rfl) ?_ _; go_wp2; exact ⟨⟨i + 1, _, _, by omega, by go_num, HX.out.store, Hb.out.setCell (by have := HX.out.ord; simp; omega) _⟩, by simp [intOf]; omega⟩
    · have hi2 : i = x.ins.length := by omega
      subst hi2; have hx := HX.out; rw [List.take_length] at hx; have HXX := Lib.hid hx; have h1 := hx.b5; have c0 := h1.cell 0 _ rfl; have c1 := h1.cell 1 _ rfl; have c2 := h1.cell 2 _ rfl; have c3 := h1.cell 3 _ rfl; have c4 := h1.cell 4 _ rfl; have c5 := h1.cell 5 _ rfl; have c6 := h1.cell 6 _ rfl; have c7 := h1.cell 7 _ rfl; have c8 := h1.cell 8 _ rfl; clear h1 hx HX
      go_wp2_with (refine wpList_store_row rfl 38 _ _ rfl w.heap.size #[.int .i64 x.ex.kind, .int .i64 x.ex.fn, .int .i64 x.ex.op, .int .i64 x.ex.num, .string x.ex.metric, .slice qm x.ex.mats.length dm, .int .i64 x.ex.span, .slice qn x.ex.names.length dn, .slice ad x.ins.length cpv] rfl rfl 38 _ HXX.out.br (by kernel_rfl) rfl (by kernel_rfl) ?_)
      refine bodyPost_agg (g := w.heap.size) (fr := (0, 0)) rfl rfl (setRow_at HXX.out.br _) Tryd.underlying38 rfl (by kernel_rfl) rfl ?_; have hbf := below_setRow (B := w.heap.size) (g := w.heap.size) Hb.out (Nat.le_refl _) #[.int .i64 x.ex.kind, .int .i64 x.ex.fn, .int .i64 x.ex.op, .int .i64 x.ex.num, .string x.ex.metric, .slice qm x.ex.mats.length dm, .int .i64 x.ex.span, .slice qn x.ex.names.length dn, .slice ad x.ins.length cpv]; refine ⟨[.int .i64 x.ex.kind, .int .i64 x.ex.fn, .int .i64 x.ex.op, .int .i64 x.ex.num, .string x.ex.metric, .slice qm x.ex.mats.length dm, .int .i64 x.ex.span, .slice qn x.ex.names.length dn, .slice ad x.ins.length cpv], rfl, ?_, hbf⟩; rw [Hnode.out, setRow_size]; have hd := HXX.out.done HS.out; have hr := OffM.row wr w.heap.size #[.int .i64 x.ex.kind, .int .i64 x.ex.fn, .int .i64 x.ex.op, .int .i64 x.ex.num, .string x.ex.metric, .slice qm x.ex.mats.length dm, .int .i64 x.ex.span, .slice qn x.ex.names.length dn, .slice ad x.ins.length cpv]; have hord := HXX.out.ord; exact (hd.keep (fun i i1 i2 => hr.block i i2 (by omega))).more (by omega) (Nat.le_refl _)
end Go.Proofs.YtdjdikiimhhjpaaDoor
namespace Go.Proofs.YtdjdikiimhhjpaaDoor
open Go.RowKit
set_option linter.unusedSimpArgs false
set_option linter.unusedVariables false
theorem ndQuery_bad {p : List Nd} {t : Int} (h : ndCheck p ≠ 0) : ndQuery p t = (0, noX, ndCheck p) := by unfold ndQuery; rw [if_neg h]
theorem ndQuery_arg {p : List Nd} {t : Int} (h : ndCheck p = 0) (h2 : ¬ (1 ≤ t ∧ t ≤ (p.length : Int))) : ndQuery p t = (0, noX, 2) := by unfold ndQuery; rw [if_pos h, if_neg h2]
theorem ndQuery_long {p : List Nd} {t : Int} (h : ndCheck p = 0) (h2 : 1 ≤ t ∧ t ≤ (p.length : Int)) (h3 : 200 < (exprAt p t).size ∨ 16 < (exprAt p t).deep) : ndQuery p t = (0, noX, 3) := by unfold ndQuery; rw [if_pos h, if_pos h2, if_pos h3]
theorem ndQuery_ok {p : List Nd} {t : Int} (h : ndCheck p = 0) (h2 : 1 ≤ t ∧ t ≤ (p.length : Int)) (h3 : ¬ (200 < (exprAt p t).size ∨ 16 < (exprAt p t).deep)) : ndQuery p t = (everyAt p t, exprAt p t, 0) := by unfold ndQuery; rw [if_pos h, if_pos h2, if_neg h3]
theorem everyAt_of {p : List Nd} {k : Nat} (h : k < p.length) : everyAt p ((k : Int) + 1) = p[k].every := by
  unfold everyAt
  rw [show ((k : Int) + 1).toNat - 1 = k by omega, List.getElem?_eq_getElem h]
theorem noX_is (n : Nat) (w : World) : IsEx n w noX [.int .i64 0, .int .i64 0, .int .i64 0, .int .i64 0, .string ⟨#[]⟩, .slice none 0 0, .int .i64 0, .slice none 0 0, .slice none 0 0] := .mk (by show 0 ≤ maxLen; simp [maxLen]) ⟨Arr.nil _ _ _, by simp⟩ ⟨Arr.nil _ _ _, by simp⟩ (Arr.nil _ _ _) rfl (fun k r e h => by simp at h)
theorem pQuery (p : List Nd) (t : Int) (v : Value) (n : Nat) (w : World) (hn : n ≤ w.heap.size) (hp : IsNds n w v p) (hth : ThinP p) :
    Calls Tryd.prog 15 #[v, .int .i64 t] w fun e' w' => ∃ cs' : List Value, e' = .returned (.tuple #[.agg (.int .i64 (ndQuery p t).1 :: cs').toArray, .int .i64 (ndQuery p t).2.2]) ∧ IsEx w'.heap.size w' (ndQuery p t).2.1 cs' ∧ Below w.heap.size w w' := by
  obtain ⟨pp, cp, rfl, _, hcm, hpm⟩ := hp.open
  unfold maxLen at hcm hpm
  have HP := Lib.hid hp
  clear hp
  have HC := Lib.hid (fun W (h : Below w.heap.size w W) => pCheck p _ n W (Nat.le_trans hn h.size) (HP.out.mono (h.mono hn) (Nat.le_refl _)))
  by_cases hc : ndCheck p = 0
  · have HSz := Lib.hid (fun W (h : Below w.heap.size w W) => pSizes p _ n W (Nat.le_trans hn h.size) (HP.out.mono (h.mono hn) (Nat.le_refl _)) hc)
    obtain ⟨hl, hok⟩ := ndCheck_0 hc; have HOK := Lib.hid hok; clear hok
    by_cases h1 : 1 ≤ t
    · by_cases h2 : t ≤ (p.length : Int)
      · obtain ⟨k, rfl⟩ : ∃ k : Nat, t = (k : Int) + 1 := ⟨(t - 1).toNat, by omega⟩
        have hk : k < p.length := by omega
        have HEx := Lib.hid (fun W (h : Below w.heap.size w W) => planExpr p _ n HOK.out hl hth k W (Nat.le_trans hn h.size) (HP.out.mono (h.mono hn) (Nat.le_refl _)) hk); have HQL := Lib.hid (fun h3 => ndQuery_long hc ⟨h1, h2⟩ h3); have HQO := Lib.hid (fun h3 => ndQuery_ok hc ⟨h1, h2⟩ h3); have HCk := Lib.hid (fun h3 h4 => expr_check HOK.out ⟨h1, h2⟩ h3 h4); have hs1 : szA p k = min 201 (exprAt p ((k : Int) + 1)).size := rfl; have hs2 : dpA p k = (exprAt p ((k : Int) + 1)).deep := rfl; have hs3 := exprAt_deep HOK.out.ahead ((k : Int) + 1); rw [← hs2] at hs3; have HS1 := Lib.hid hs1; have HS2 := Lib.hid hs2; rw [hc] at HC; clear hc hs1 hs2 hth; obtain ⟨sz, hsz⟩ : ∃ z, szA p k = z := ⟨_, rfl⟩; obtain ⟨dp, hdp⟩ : ∃ z, dpA p k = z := ⟨_, rfl⟩; rw [hsz] at HS1; rw [hdp] at HS2 hs3; have hs4 : sz ≤ 201 := by have := HS1.out; omega
        have HSzk := Lib.hid hsz; have HDpk := Lib.hid hdp; clear hsz hdp
        go_enter Tryd.func15, Tryd.ntmps15; (try simp only [List.append_eq, List.cons_append, List.nil_append])
        go_upto_region 1 with fail
        obtain ⟨X, hW⟩ : ∃ z, w.alloc (.cells #[.int .i64 0, .int .i64 0, .int .i64 0, .int .i64 0, .int .i64 0, .string ⟨#[]⟩, .slice none 0 0, .int .i64 0, .slice none 0 0, .slice none 0 0] 42) = z := ⟨_, rfl⟩; have hR : Blk X w.heap.size 42 [.int .i64 0, .int .i64 0, .int .i64 0, .int .i64 0, .int .i64 0, .string ⟨#[]⟩, .slice none 0 0, .int .i64 0, .slice none 0 0, .slice none 0 0] := by rw [← hW]; exact Blk.new w _ _
        have kb : Below w.heap.size w X := by rw [← hW]; exact (Below.refl _ _).alloc (Nat.le_refl _) _
        rw [hW]; clear hW; have HR := Lib.hid hR; have HB := Lib.hid kb; clear hR kb
        go_wp2_with fail
        refine (HC.out X HB.out).mono ?_; rintro e' w1 ⟨rfl, hb1⟩; have HB1 := Lib.hid (HB.out.trans (hb1.mono HB.out.size)); have HR := Lib.hid (HR.out.keep hb1); clear hb1
        go_wp2_with fail
        refine (HSz.out w1 HB1.out).mono ?_; rintro e' w2 ⟨gs, gd, l1, l2, rfl, hb1, hb2, hk1, hk2, hbb⟩; have HBB := Lib.hid (HB1.out.trans (hbb.mono HB1.out.size)); have HR := Lib.hid (HR.out.keep hbb); have HL1 := Lib.hid hb1; have HL2 := Lib.hid hb2; have z1 := hk1.done k hk; have z2 := hk2.done k hk; rw [HSzk.out] at z1; rw [HDpk.out] at z2; have HZ1 := Lib.hid z1; have HZ2 := Lib.hid z2; clear hb1 hb2 hk1 hk2 hbb z1 z2
        go_upto_region 7 with fail
        obtain ⟨Y, hW⟩ : ∃ z, w2.alloc (.cells #[.slice (some ⟨gs, 0, none⟩) p.length p.length, .slice (some ⟨gd, 0, none⟩) p.length p.length] 69) = z := ⟨_, rfl⟩; have B7 : Blk Y w2.heap.size 69 [.slice (some ⟨gs, 0, none⟩) p.length p.length, .slice (some ⟨gd, 0, none⟩) p.length p.length] := by rw [← hW]; exact Blk.new w2 _ _
        have bY : Below w2.heap.size w2 Y := by rw [← hW]; exact (Below.refl _ _).alloc (Nat.le_refl _) _
        rw [hW]; clear hW; have HBY := Lib.hid (HBB.out.trans (bY.mono HBB.out.size)); have HR := Lib.hid (HR.out.keep bY); have q0 := B7.cell 0 _ rfl; have q1 := B7.cell 1 _ rfl; have y1 := (HL1.out.keep bY).cell k _ (intCs_at HZ1.out); have y2 := (HL2.out.keep bY).cell k _ (intCs_at HZ2.out); have hki : (k : Int) < (p.length : Int) := by omega
        clear B7 bY
        by_cases g1 : 200 < sz
        · have g1i : (200 : Int) < (sz : Int) := by omega
          have HQE := Lib.hid (HQL.out (Or.inl (by have := HS1.out; omega)))
          go_wp2_with (refine wpList_store_row rfl 42 _ _ rfl w.heap.size #[.int .i64 0, .int .i64 0, .int .i64 0, .int .i64 0, .int .i64 0, .string ⟨#[]⟩, .slice none 0 0, .int .i64 0, .slice none 0 0, .slice none 0 0] rfl rfl 42 _ HR.out (by kernel_rfl) rfl (by kernel_rfl) ?_)
          refine bodyPost_agg_tmp (d := _) rfl rfl (setRow_at HR.out _) Tryd.underlying42 rfl (by kernel_rfl) rfl ?_; rw [HQE.out]; exact ⟨[.int .i64 0, .int .i64 0, .int .i64 0, .int .i64 0, .string ⟨#[]⟩, .slice none 0 0, .int .i64 0, .slice none 0 0, .slice none 0 0], rfl, noX_is _ _, below_setRow HBY.out (Nat.le_refl _) _⟩
        · by_cases g2 : 16 < dp
          · have g1i : ¬ (200 : Int) < (sz : Int) := by omega
            have g2i : (16 : Int) < (dp : Int) := by omega
            have HQE := Lib.hid (HQL.out (Or.inr (by have := HS2.out; omega)))
            go_wp2_with (refine wpList_store_row rfl 42 _ _ rfl w.heap.size #[.int .i64 0, .int .i64 0, .int .i64 0, .int .i64 0, .int .i64 0, .string ⟨#[]⟩, .slice none 0 0, .int .i64 0, .slice none 0 0, .slice none 0 0] rfl rfl 42 _ HR.out (by kernel_rfl) rfl (by kernel_rfl) ?_)
            refine bodyPost_agg_tmp (d := _) rfl rfl (setRow_at HR.out _) Tryd.underlying42 rfl (by kernel_rfl) rfl ?_; rw [HQE.out]; exact ⟨[.int .i64 0, .int .i64 0, .int .i64 0, .int .i64 0, .string ⟨#[]⟩, .slice none 0 0, .int .i64 0, .slice none 0 0, .slice none 0 0], rfl, noX_is _ _, below_setRow HBY.out (Nat.le_refl _) _⟩
          · have g1i : ¬ (200 : Int) < (sz : Int) := by omega
            have g2i : ¬ (16 : Int) < (dp : Int) := by omega
            have e1 : (exprAt p ((k : Int) + 1)).size ≤ 200 := by have := HS1.out; omega
            have e2 : (exprAt p ((k : Int) + 1)).deep ≤ 16 := by have := HS2.out; omega
            have HQE := Lib.hid (HQO.out (by omega)); have HCk2 := Lib.hid (HCk.out e1 e2); have HE1 := Lib.hid e1; clear e1 e2; obtain ⟨b, off, pm, cm, pn, cn, pk, ck, pi, ci, rfl, hbn, -, -, hc⟩ := HP.out.get hk; have hcw := hc 0 _ rfl; simp only [Nat.add_zero] at hcw; have hev := everyAt_of hk; obtain ⟨ev, hevq⟩ : ∃ ev, p[k].every = ev := ⟨_, rfl⟩; rw [hevq] at hcw hev; rw [hev] at HCk2 HQE; have hsmall : (exprAt p ((k : Int) + 1)).size ≤ 1000000 := by have := HE1.out; omega
            obtain ⟨E, hE⟩ : ∃ E, exprAt p ((k : Int) + 1) = E := ⟨_, rfl⟩; rw [hE] at HCk2 HQE HEx hsmall; have hcS : ∀ W, Below w.heap.size w W → W.cell? ⟨b, off + k * 11, none⟩ = some (.int .i64 ev) := fun W h => (World.cell?_of_block (h.block b (Nat.lt_of_lt_of_le hbn hn))).trans hcw
            have HcS := Lib.hid hcS; have Hsm := Lib.hid hsmall; clear hc hcw hev hevq hE hcS hsmall HS1 HS2 HE1 HQL HQO HCk
            go_upto_region 9 with fail
            clear y1 y2 q0 q1; refine wp_region_held_drew (S := fun W => W.cell? ⟨b, off + k * 11, none⟩ = some (.int .i64 ev)) (by kernel_rfl) (HcS.out _ HBY.out.drew) (fun hHeld => ?_)
            (refine htk 0 44 ?_ rfl ?_ ?_; rotate_left; (intro w hSw; clear hSw; go_simp); (try with_reducible rfl); simp only [lsz, lss])
            (refine htk 1 45 ?_ rfl ?_ ?_; rotate_left; (intro w hSw; clear hSw; go_simp); (try with_reducible rfl); simp only [lsz, lss])
            have hwr : IntKind.i64.wrap (k : Int) = (k : Int) := by simp [IntKind.wrap, IntKind.bits, IntKind.signed]; omega
            (refine htk 2 46 (.int .i64 (k : Int)) rfl (by intro w hSw; clear hSw; go_simp) ?_); (try simp only [lsz, lss])
            (refine htk 3 47 (.pointer (some ⟨b, off + k * 11, none⟩)) rfl (by intro w hSw; clear hSw; go_simp) ?_); (try simp only [lsz, lss])
            (refine htk 4 48 (.pointer (some ⟨b, off + k * 11, none⟩)) rfl (by intro w hSw; clear hSw; go_simp) ?_); (try simp only [lsz, lss])
            (refine htk 5 49 (.int .i64 ev) rfl (by intro w hSw; go_simp) ?_); (try simp only [lsz, lss])
            (refine htk 6 50 ?_ rfl ?_ ?_; rotate_left; (intro w hSw; clear hSw; go_simp); (try with_reducible rfl); simp only [lsz, lss])
            (refine htk 7 51 ?_ rfl ?_ ?_; rotate_left; (intro w hSw; clear hSw; go_simp); (try with_reducible rfl); simp only [lsz, lss])
            have hbd : Below Y.heap.size Y Y.drew := Below.drew (Below.refl _ _); have HR := Lib.hid (HR.out.keep hbd); have HBY := Lib.hid (HBY.out.trans (hbd.mono HBY.out.size)); obtain ⟨y0, hy0⟩ : ∃ z, Y.drew = z := ⟨_, rfl⟩; rw [hy0] at HR HBY ⊢; clear hy0 hbd; refine wpAnyH_ready (rs := [8, 10]) (by kernel_rfl) (by simp) (.cons rfl (fun K' hK' => ?_) (.cons rfl (fun K' hK' => ?_) .nil))
            · skip
              rw [if_pos (by kernel_rfl)]
              go_simp
              refine (HEx.out y0 HBY.out).mono ?_; rintro e' x2 ⟨cs2, rfl, hfr, hb2⟩; obtain ⟨vm, vn, vk, rows0, rfl, m1, m2, m3, -, -⟩ := hfr.cells; obtain ⟨em, fm, rfl⟩ := ownsRow_slice m1.1; obtain ⟨en, fn, rfl⟩ := ownsRow_slice m2.1; obtain ⟨ek, fk, rfl⟩ := ownsRow_slice m3.1; clear m1 m2 m3; have hy0s := HR.out.lt; have HBY := Lib.hid (HBY.out.trans (hb2.mono HBY.out.size)); have HR := Lib.hid (HR.out.keep hb2); have HFr := Lib.hid hfr; clear hfr
              dsimp only
              refine hK'.out _ _ (HcS.out _ HBY.out) (fun hHeld => ?_); clear hK' K'
              (try simp only [Act.put, lsa, lsz, lss])
              (refine htk 9 53 (.agg #[.int .i64 ev, .int .i64 E.kind, .int .i64 E.fn, .int .i64 E.op, .int .i64 E.num, .string E.metric, .slice em E.mats.length fm, .int .i64 E.span, .slice en E.names.length fn, .slice ek E.kids.length fk]) rfl (by intro w hSw; clear hSw; go_simp) ?_); (try simp only [lsz, lss])
              refine wpAnyH_ready (rs := [10]) (by kernel_rfl) (by simp) (.cons rfl (fun K' hK' => ?_) .nil); rw [if_pos (by kernel_rfl)]
              go_simp
              have bA : Below x2.heap.size x2 (x2.alloc (.cells #[.int .i64 0, .int .i64 0, .int .i64 0, .int .i64 0, .int .i64 0, .string ⟨#[]⟩, .slice none 0 0, .int .i64 0, .slice none 0 0, .slice none 0 0] 42)) := (Below.refl _ _).alloc (Nat.le_refl _) _; have HBY := Lib.hid (HBY.out.trans (bA.mono HBY.out.size)); have B8 : Blk (x2.alloc (.cells #[.int .i64 0, .int .i64 0, .int .i64 0, .int .i64 0, .int .i64 0, .string ⟨#[]⟩, .slice none 0 0, .int .i64 0, .slice none 0 0, .slice none 0 0] 42)) x2.heap.size 42 [.int .i64 0, .int .i64 0, .int .i64 0, .int .i64 0, .int .i64 0, .string ⟨#[]⟩, .slice none 0 0, .int .i64 0, .slice none 0 0, .slice none 0 0] := Blk.new x2 _ _; refine hK'.out _ _ (HcS.out _ HBY.out) (fun hHeld => ?_); clear hK' K'
              (try simp only [Act.put, lsa, lsz, lss])
              obtain ⟨x3, hnw⟩ : ∃ z, x2.alloc (.cells #[.int .i64 0, .int .i64 0, .int .i64 0, .int .i64 0, .int .i64 0, .string ⟨#[]⟩, .slice none 0 0, .int .i64 0, .slice none 0 0, .slice none 0 0] 42) = z := ⟨_, rfl⟩; rw [hnw] at bA HBY B8 ⊢; clear hnw; have hF := HFr.out.keep (fun i _ h2 => bA.block i h2); have hg8 : w.heap.size < x2.heap.size := HR.out.lt; have HR := Lib.hid (HR.out.keep bA); obtain ⟨lo, hi, hlo, hF3⟩ : ∃ lo hi, (w.heap.size < lo ∧ hi ≤ x3.heap.size) ∧ Fresh lo hi (x3.setRow x2.heap.size #[.int .i64 ev, .int .i64 E.kind, .int .i64 E.fn, .int .i64 E.op, .int .i64 E.num, .string E.metric, .slice em E.mats.length fm, .int .i64 E.span, .slice en E.names.length fn, .slice ek E.kids.length fk]) E [.int .i64 E.kind, .int .i64 E.fn, .int .i64 E.op, .int .i64 E.num, .string E.metric, .slice em E.mats.length fm, .int .i64 E.span, .slice en E.names.length fn, .slice ek E.kids.length fk] := ⟨_, _, ⟨hy0s, bA.size⟩, hF.keep (fun i _ h2 => (OffM.row x3 x2.heap.size _).block i (Nat.lt_of_lt_of_le h2 bA.size) (by omega))⟩; obtain ⟨g8, hg8q⟩ : ∃ z, x2.heap.size = z := ⟨_, rfl⟩; rw [hg8q] at B8 hF3 hg8 ⊢; clear hg8q hF HFr bA; refine wpAnyH_ready (rs := [11]) (by kernel_rfl) (by simp) (.cons rfl (fun K' hK' => ?_) .nil); rw [if_pos (by kernel_rfl)]; refine wp_store_row 42 _ _ rfl g8 #[.int .i64 ev, .int .i64 E.kind, .int .i64 E.fn, .int .i64 E.op, .int .i64 E.num, .string E.metric, .slice em E.mats.length fm, .int .i64 E.span, .slice en E.names.length fn, .slice ek E.kids.length fk] rfl rfl 42 _ B8 (by kernel_rfl) rfl (by kernel_rfl) ?_; have hbz := below_setRow (B := w.heap.size) HBY.out (Nat.le_of_lt hg8) #[.int .i64 ev, .int .i64 E.kind, .int .i64 E.fn, .int .i64 E.op, .int .i64 E.num, .string E.metric, .slice em E.mats.length fm, .int .i64 E.span, .slice en E.names.length fn, .slice ek E.kids.length fk]; have hz8 : Blk (x3.setRow g8 #[.int .i64 ev, .int .i64 E.kind, .int .i64 E.fn, .int .i64 E.op, .int .i64 E.num, .string E.metric, .slice em E.mats.length fm, .int .i64 E.span, .slice en E.names.length fn, .slice ek E.kids.length fk]) g8 42 [.int .i64 ev, .int .i64 E.kind, .int .i64 E.fn, .int .i64 E.op, .int .i64 E.num, .string E.metric, .slice em E.mats.length fm, .int .i64 E.span, .slice en E.names.length fn, .slice ek E.kids.length fk] := setRow_at B8 _; have hrz : Blk (x3.setRow g8 #[.int .i64 ev, .int .i64 E.kind, .int .i64 E.fn, .int .i64 E.op, .int .i64 E.num, .string E.metric, .slice em E.mats.length fm, .int .i64 E.span, .slice en E.names.length fn, .slice ek E.kids.length fk]) w.heap.size 42 [.int .i64 0, .int .i64 0, .int .i64 0, .int .i64 0, .int .i64 0, .string ⟨#[]⟩, .slice none 0 0, .int .i64 0, .slice none 0 0, .slice none 0 0] := ((OffM.row x3 g8 _).block _ HR.out.lt (by omega)).trans HR.out; have hszz : (x3.setRow g8 #[.int .i64 ev, .int .i64 E.kind, .int .i64 E.fn, .int .i64 E.op, .int .i64 E.num, .string E.metric, .slice em E.mats.length fm, .int .i64 E.span, .slice en E.names.length fn, .slice ek E.kids.length fk]).heap.size = x3.heap.size := setRow_size _ _ _; refine hK'.out _ _ (HcS.out _ hbz) (fun hHeld => ?_); clear hK' K'
              (try simp only [Act.put, lsa, lsz, lss])
              refine wpAnyH_done (by kernel_rfl) ?_ _; obtain ⟨Z, hZ⟩ : ∃ z, x3.setRow g8 #[.int .i64 ev, .int .i64 E.kind, .int .i64 E.fn, .int .i64 E.op, .int .i64 E.num, .string E.metric, .slice em E.mats.length fm, .int .i64 E.span, .slice en E.names.length fn, .slice ek E.kids.length fk] = z := ⟨_, rfl⟩; rw [hZ] at hbz hz8 hrz hF3 hszz ⊢; have HBZ := Lib.hid hbz; have HZ8 := Lib.hid hz8; have HRZ := Lib.hid hrz; have HF3 := Lib.hid hF3; clear hZ hbz hz8 hrz hF3 B8 HBY HR; have c := HZ8.out; have c0 := c.cell 0 _ rfl; have c1 := c.cell 1 _ rfl; have c2 := c.cell 2 _ rfl; have c3 := c.cell 3 _ rfl; have c4 := c.cell 4 _ rfl; have c5 := c.cell 5 _ rfl; have c6 := c.cell 6 _ rfl; have c7 := c.cell 7 _ rfl; have c8 := c.cell 8 _ rfl; have c9 := c.cell 9 _ rfl; clear c
              go_wp2_with fail
              refine (aCheck ev E _ Z.heap.size Z (Nat.le_refl _) (HF3.out.isEx (by omega)) Hsm.out).mono ?_; rintro e' Z1 ⟨rfl, hb⟩; rw [HCk2.out]; have HBZ := Lib.hid (HBZ.out.trans (hb.mono HBZ.out.size)); have HRZ := Lib.hid (HRZ.out.keep hb); have hsz1 := hb.size; have HF3 := Lib.hid (HF3.out.keep (fun i _ h2 => hb.block i (by omega))); clear c0 c1 c2 c3 c4 c5 c6 c7 c8 c9; have c := HZ8.out.keep hb; have c0 := c.cell 0 _ rfl; have c1 := c.cell 1 _ rfl; have c2 := c.cell 2 _ rfl; have c3 := c.cell 3 _ rfl; have c4 := c.cell 4 _ rfl; have c5 := c.cell 5 _ rfl; have c6 := c.cell 6 _ rfl; have c7 := c.cell 7 _ rfl; have c8 := c.cell 8 _ rfl; have c9 := c.cell 9 _ rfl; clear c hb HZ8
              go_wp2_with (refine wpList_store_row rfl 42 _ _ rfl w.heap.size #[.int .i64 ev, .int .i64 E.kind, .int .i64 E.fn, .int .i64 E.op, .int .i64 E.num, .string E.metric, .slice em E.mats.length fm, .int .i64 E.span, .slice en E.names.length fn, .slice ek E.kids.length fk] rfl rfl 42 _ HRZ.out (by kernel_rfl) rfl (by kernel_rfl) ?_)
              refine bodyPost_agg_tmp (d := _) rfl rfl (setRow_at HRZ.out _) Tryd.underlying42 rfl (by kernel_rfl) rfl ?_; rw [HQE.out]; refine ⟨[.int .i64 E.kind, .int .i64 E.fn, .int .i64 E.op, .int .i64 E.num, .string E.metric, .slice em E.mats.length fm, .int .i64 E.span, .slice en E.names.length fn, .slice ek E.kids.length fk], rfl, ?_, below_setRow HBZ.out (Nat.le_refl _) _⟩; have hr := OffM.row Z1 w.heap.size #[.int .i64 ev, .int .i64 E.kind, .int .i64 E.fn, .int .i64 E.op, .int .i64 E.num, .string E.metric, .slice em E.mats.length fm, .int .i64 E.span, .slice en E.names.length fn, .slice ek E.kids.length fk]; rw [setRow_size]; exact (HF3.out.keep (fun i h1 h2 => hr.block i (by omega) (by omega))).isEx (by omega)
            · skip
              rw [if_pos (by kernel_rfl)]
              go_simp
              have bA : Below y0.heap.size y0 (y0.alloc (.cells #[.int .i64 0, .int .i64 0, .int .i64 0, .int .i64 0, .int .i64 0, .string ⟨#[]⟩, .slice none 0 0, .int .i64 0, .slice none 0 0, .slice none 0 0] 42)) := (Below.refl _ _).alloc (Nat.le_refl _) _; have HBY := Lib.hid (HBY.out.trans (bA.mono HBY.out.size)); have B8 : Blk (y0.alloc (.cells #[.int .i64 0, .int .i64 0, .int .i64 0, .int .i64 0, .int .i64 0, .string ⟨#[]⟩, .slice none 0 0, .int .i64 0, .slice none 0 0, .slice none 0 0] 42)) y0.heap.size 42 [.int .i64 0, .int .i64 0, .int .i64 0, .int .i64 0, .int .i64 0, .string ⟨#[]⟩, .slice none 0 0, .int .i64 0, .slice none 0 0, .slice none 0 0] := Blk.new y0 _ _; refine hK'.out _ _ (HcS.out _ HBY.out) (fun hHeld => ?_); clear hK' K'
              (try simp only [Act.put, lsa, lsz, lss])
              obtain ⟨x1, hnw⟩ : ∃ z, y0.alloc (.cells #[.int .i64 0, .int .i64 0, .int .i64 0, .int .i64 0, .int .i64 0, .string ⟨#[]⟩, .slice none 0 0, .int .i64 0, .slice none 0 0, .slice none 0 0] 42) = z := ⟨_, rfl⟩; rw [hnw] at bA HBY B8 ⊢; clear hnw; have hg8 : w.heap.size < y0.heap.size := HR.out.lt; have hsx1 : y0.heap.size < x1.heap.size := B8.lt; have HR := Lib.hid (HR.out.keep bA); refine wpAnyH_ready (rs := [8]) (by kernel_rfl) (by simp) (.cons rfl (fun K' hK' => ?_) .nil); rw [if_pos (by kernel_rfl)]
              go_simp
              refine (HEx.out x1 HBY.out).mono ?_; rintro e' x2 ⟨cs2, rfl, hfr, hb2⟩; obtain ⟨vm, vn, vk, rows0, rfl, m1, m2, m3, -, -⟩ := hfr.cells; obtain ⟨em, fm, rfl⟩ := ownsRow_slice m1.1; obtain ⟨en, fn, rfl⟩ := ownsRow_slice m2.1; obtain ⟨ek, fk, rfl⟩ := ownsRow_slice m3.1; clear m1 m2 m3; have hy0s := HR.out.lt; have HBY := Lib.hid (HBY.out.trans (hb2.mono HBY.out.size)); have HR := Lib.hid (HR.out.keep hb2); have HFr := Lib.hid hfr; clear hfr
              dsimp only
              refine hK'.out _ _ (HcS.out _ HBY.out) (fun hHeld => ?_); clear hK' K'
              (try simp only [Act.put, lsa, lsz, lss])
              have B8 := B8.mono hb2 hsx1
              (refine htk 9 53 (.agg #[.int .i64 ev, .int .i64 E.kind, .int .i64 E.fn, .int .i64 E.op, .int .i64 E.num, .string E.metric, .slice em E.mats.length fm, .int .i64 E.span, .slice en E.names.length fn, .slice ek E.kids.length fk]) rfl (by intro w hSw; clear hSw; go_simp) ?_); (try simp only [lsz, lss])
              obtain ⟨x3, rfl⟩ : ∃ z, z = x2 := ⟨_, rfl⟩; obtain ⟨lo, hi, hlo, hF3⟩ : ∃ lo hi, (w.heap.size < lo ∧ hi ≤ x3.heap.size) ∧ Fresh lo hi (x3.setRow y0.heap.size #[.int .i64 ev, .int .i64 E.kind, .int .i64 E.fn, .int .i64 E.op, .int .i64 E.num, .string E.metric, .slice em E.mats.length fm, .int .i64 E.span, .slice en E.names.length fn, .slice ek E.kids.length fk]) E [.int .i64 E.kind, .int .i64 E.fn, .int .i64 E.op, .int .i64 E.num, .string E.metric, .slice em E.mats.length fm, .int .i64 E.span, .slice en E.names.length fn, .slice ek E.kids.length fk] := ⟨_, _, ⟨by omega, Nat.le_refl _⟩, HFr.out.keep (fun i h1 h2 => (OffM.row x3 y0.heap.size _).block i h2 (by omega))⟩; obtain ⟨g8, hg8q⟩ : ∃ z, y0.heap.size = z := ⟨_, rfl⟩; rw [hg8q] at B8 hF3 hg8 ⊢; clear hg8q HFr bA hb2 hsx1; refine wpAnyH_ready (rs := [11]) (by kernel_rfl) (by simp) (.cons rfl (fun K' hK' => ?_) .nil); rw [if_pos (by kernel_rfl)]; refine wp_store_row 42 _ _ rfl g8 #[.int .i64 ev, .int .i64 E.kind, .int .i64 E.fn, .int .i64 E.op, .int .i64 E.num, .string E.metric, .slice em E.mats.length fm, .int .i64 E.span, .slice en E.names.length fn, .slice ek E.kids.length fk] rfl rfl 42 _ B8 (by kernel_rfl) rfl (by kernel_rfl) ?_; have hbz := below_setRow (B := w.heap.size) HBY.out (Nat.le_of_lt hg8) #[.int .i64 ev, .int .i64 E.kind, .int .i64 E.fn, .int .i64 E.op, .int .i64 E.num, .string E.metric, .slice em E.mats.length fm, .int .i64 E.span, .slice en E.names.length fn, .slice ek E.kids.length fk]; have hz8 : Blk (x3.setRow g8 #[.int .i64 ev, .int .i64 E.kind, .int .i64 E.fn, .int .i64 E.op, .int .i64 E.num, .string E.metric, .slice em E.mats.length fm, .int .i64 E.span, .slice en E.names.length fn, .slice ek E.kids.length fk]) g8 42 [.int .i64 ev, .int .i64 E.kind, .int .i64 E.fn, .int .i64 E.op, .int .i64 E.num, .string E.metric, .slice em E.mats.length fm, .int .i64 E.span, .slice en E.names.length fn, .slice ek E.kids.length fk] := setRow_at B8 _; have hrz : Blk (x3.setRow g8 #[.int .i64 ev, .int .i64 E.kind, .int .i64 E.fn, .int .i64 E.op, .int .i64 E.num, .string E.metric, .slice em E.mats.length fm, .int .i64 E.span, .slice en E.names.length fn, .slice ek E.kids.length fk]) w.heap.size 42 [.int .i64 0, .int .i64 0, .int .i64 0, .int .i64 0, .int .i64 0, .string ⟨#[]⟩, .slice none 0 0, .int .i64 0, .slice none 0 0, .slice none 0 0] := ((OffM.row x3 g8 _).block _ HR.out.lt (by omega)).trans HR.out; have hszz : (x3.setRow g8 #[.int .i64 ev, .int .i64 E.kind, .int .i64 E.fn, .int .i64 E.op, .int .i64 E.num, .string E.metric, .slice em E.mats.length fm, .int .i64 E.span, .slice en E.names.length fn, .slice ek E.kids.length fk]).heap.size = x3.heap.size := setRow_size _ _ _; refine hK'.out _ _ (HcS.out _ hbz) (fun hHeld => ?_); clear hK' K'
              (try simp only [Act.put, lsa, lsz, lss])
              refine wpAnyH_done (by kernel_rfl) ?_ _; obtain ⟨Z, hZ⟩ : ∃ z, x3.setRow g8 #[.int .i64 ev, .int .i64 E.kind, .int .i64 E.fn, .int .i64 E.op, .int .i64 E.num, .string E.metric, .slice em E.mats.length fm, .int .i64 E.span, .slice en E.names.length fn, .slice ek E.kids.length fk] = z := ⟨_, rfl⟩; rw [hZ] at hbz hz8 hrz hF3 hszz ⊢; have HBZ := Lib.hid hbz; have HZ8 := Lib.hid hz8; have HRZ := Lib.hid hrz; have HF3 := Lib.hid hF3; clear hZ hbz hz8 hrz hF3 B8 HBY HR; have c := HZ8.out; have c0 := c.cell 0 _ rfl; have c1 := c.cell 1 _ rfl; have c2 := c.cell 2 _ rfl; have c3 := c.cell 3 _ rfl; have c4 := c.cell 4 _ rfl; have c5 := c.cell 5 _ rfl; have c6 := c.cell 6 _ rfl; have c7 := c.cell 7 _ rfl; have c8 := c.cell 8 _ rfl; have c9 := c.cell 9 _ rfl; clear c
              go_wp2_with fail
              refine (aCheck ev E _ Z.heap.size Z (Nat.le_refl _) (HF3.out.isEx (by omega)) Hsm.out).mono ?_; rintro e' Z1 ⟨rfl, hb⟩; rw [HCk2.out]; have HBZ := Lib.hid (HBZ.out.trans (hb.mono HBZ.out.size)); have HRZ := Lib.hid (HRZ.out.keep hb); have hsz1 := hb.size; have HF3 := Lib.hid (HF3.out.keep (fun i _ h2 => hb.block i (by omega))); clear c0 c1 c2 c3 c4 c5 c6 c7 c8 c9; have c := HZ8.out.keep hb; have c0 := c.cell 0 _ rfl; have c1 := c.cell 1 _ rfl; have c2 := c.cell 2 _ rfl; have c3 := c.cell 3 _ rfl; have c4 := c.cell 4 _ rfl; have c5 := c.cell 5 _ rfl; have c6 := c.cell 6 _ rfl; have c7 := c.cell 7 _ rfl; have c8 := c.cell 8 _ rfl; have c9 := c.cell 9 _ rfl; clear c hb HZ8
              go_wp2_with (refine wpList_store_row rfl 42 _ _ rfl w.heap.size #[.int .i64 ev, .int .i64 E.kind, .int .i64 E.fn, .int .i64 E.op, .int .i64 E.num, .string E.metric, .slice em E.mats.length fm, .int .i64 E.span, .slice en E.names.length fn, .slice ek E.kids.length fk] rfl rfl 42 _ HRZ.out (by kernel_rfl) rfl (by kernel_rfl) ?_)
              refine bodyPost_agg_tmp (d := _) rfl rfl (setRow_at HRZ.out _) Tryd.underlying42 rfl (by kernel_rfl) rfl ?_; rw [HQE.out]; refine ⟨[.int .i64 E.kind, .int .i64 E.fn, .int .i64 E.op, .int .i64 E.num, .string E.metric, .slice em E.mats.length fm, .int .i64 E.span, .slice en E.names.length fn, .slice ek E.kids.length fk], rfl, ?_, below_setRow HBZ.out (Nat.le_refl _) _⟩; have hr := OffM.row Z1 w.heap.size #[.int .i64 ev, .int .i64 E.kind, .int .i64 E.fn, .int .i64 E.op, .int .i64 E.num, .string E.metric, .slice em E.mats.length fm, .int .i64 E.span, .slice en E.names.length fn, .slice ek E.kids.length fk]; rw [setRow_size]; exact (HF3.out.keep (fun i h1 h2 => hr.block i (by omega) (by omega))).isEx (by omega)
      · have h2i : (p.length : Int) < t := by omega
        rw [ndQuery_arg hc (fun h => h2 h.2)]; rw [hc] at HC; clear hc
        go_enter Tryd.func15, Tryd.ntmps15; (try simp only [List.append_eq, List.cons_append, List.nil_append])
        go_upto_region 1 with fail
        obtain ⟨X, hW⟩ : ∃ z, w.alloc (.cells #[.int .i64 0, .int .i64 0, .int .i64 0, .int .i64 0, .int .i64 0, .string ⟨#[]⟩, .slice none 0 0, .int .i64 0, .slice none 0 0, .slice none 0 0] 42) = z := ⟨_, rfl⟩; have hR : Blk X w.heap.size 42 [.int .i64 0, .int .i64 0, .int .i64 0, .int .i64 0, .int .i64 0, .string ⟨#[]⟩, .slice none 0 0, .int .i64 0, .slice none 0 0, .slice none 0 0] := by rw [← hW]; exact Blk.new w _ _
        have kb : Below w.heap.size w X := by rw [← hW]; exact (Below.refl _ _).alloc (Nat.le_refl _) _
        rw [hW]; clear hW; have HR := Lib.hid hR; have HB := Lib.hid kb; clear hR kb
        go_wp2_with fail
        refine (HC.out X HB.out).mono ?_; rintro e' w1 ⟨rfl, hb1⟩; have HB1 := Lib.hid (HB.out.trans (hb1.mono HB.out.size)); have HR := Lib.hid (HR.out.keep hb1); clear hb1
        go_wp2_with (refine wpList_store_row rfl 42 _ _ rfl w.heap.size #[.int .i64 0, .int .i64 0, .int .i64 0, .int .i64 0, .int .i64 0, .string ⟨#[]⟩, .slice none 0 0, .int .i64 0, .slice none 0 0, .slice none 0 0] rfl rfl 42 _ HR.out (by kernel_rfl) rfl (by kernel_rfl) ?_)
        refine bodyPost_agg_tmp (d := _) rfl rfl (setRow_at HR.out _) Tryd.underlying42 rfl (by kernel_rfl) rfl ?_; exact ⟨[.int .i64 0, .int .i64 0, .int .i64 0, .int .i64 0, .string ⟨#[]⟩, .slice none 0 0, .int .i64 0, .slice none 0 0, .slice none 0 0], rfl, noX_is _ _, below_setRow HB1.out (Nat.le_refl _) _⟩
    · have h1i : t < 1 := by omega
      rw [ndQuery_arg hc (fun h => h1 h.1)]; rw [hc] at HC; clear hc
      go_enter Tryd.func15, Tryd.ntmps15; (try simp only [List.append_eq, List.cons_append, List.nil_append])
      go_upto_region 1 with fail
      obtain ⟨X, hW⟩ : ∃ z, w.alloc (.cells #[.int .i64 0, .int .i64 0, .int .i64 0, .int .i64 0, .int .i64 0, .string ⟨#[]⟩, .slice none 0 0, .int .i64 0, .slice none 0 0, .slice none 0 0] 42) = z := ⟨_, rfl⟩; have hR : Blk X w.heap.size 42 [.int .i64 0, .int .i64 0, .int .i64 0, .int .i64 0, .int .i64 0, .string ⟨#[]⟩, .slice none 0 0, .int .i64 0, .slice none 0 0, .slice none 0 0] := by rw [← hW]; exact Blk.new w _ _
      have kb : Below w.heap.size w X := by rw [← hW]; exact (Below.refl _ _).alloc (Nat.le_refl _) _
      rw [hW]; clear hW; have HR := Lib.hid hR; have HB := Lib.hid kb; clear hR kb
      go_wp2_with fail
      refine (HC.out X HB.out).mono ?_; rintro e' w1 ⟨rfl, hb1⟩; have HB1 := Lib.hid (HB.out.trans (hb1.mono HB.out.size)); have HR := Lib.hid (HR.out.keep hb1); clear hb1
      go_wp2_with (refine wpList_store_row rfl 42 _ _ rfl w.heap.size #[.int .i64 0, .int .i64 0, .int .i64 0, .int .i64 0, .int .i64 0, .string ⟨#[]⟩, .slice none 0 0, .int .i64 0, .slice none 0 0, .slice none 0 0] rfl rfl 42 _ HR.out (by kernel_rfl) rfl (by kernel_rfl) ?_)
      refine bodyPost_agg_tmp (d := _) rfl rfl (setRow_at HR.out _) Tryd.underlying42 rfl (by kernel_rfl) rfl ?_; exact ⟨[.int .i64 0, .int .i64 0, .int .i64 0, .int .i64 0, .string ⟨#[]⟩, .slice none 0 0, .int .i64 0, .slice none 0 0, .slice none 0 0], rfl, noX_is _ _, below_setRow HB1.out (Nat.le_refl _) _⟩
  · have hcb : (ndCheck p != 0) = true := by simpa using hc
    rw [ndQuery_bad hc]; obtain ⟨c, hcq⟩ : ∃ c, ndCheck p = c := ⟨_, rfl⟩; rw [hcq] at hcb HC ⊢; clear hc hcq
    go_enter Tryd.func15, Tryd.ntmps15; (try simp only [List.append_eq, List.cons_append, List.nil_append])
    go_upto_region 1 with fail
    obtain ⟨X, hW⟩ : ∃ z, w.alloc (.cells #[.int .i64 0, .int .i64 0, .int .i64 0, .int .i64 0, .int .i64 0, .string ⟨#[]⟩, .slice none 0 0, .int .i64 0, .slice none 0 0, .slice none 0 0] 42) = z := ⟨_, rfl⟩; have hR : Blk X w.heap.size 42 [.int .i64 0, .int .i64 0, .int .i64 0, .int .i64 0, .int .i64 0, .string ⟨#[]⟩, .slice none 0 0, .int .i64 0, .slice none 0 0, .slice none 0 0] := by rw [← hW]; exact Blk.new w _ _
    have kb : Below w.heap.size w X := by rw [← hW]; exact (Below.refl _ _).alloc (Nat.le_refl _) _
    rw [hW]; clear hW; have HR := Lib.hid hR; have HB := Lib.hid kb; clear hR kb
    go_wp2_with fail
    refine (HC.out X HB.out).mono ?_; rintro e' w1 ⟨rfl, hb1⟩; have HB1 := Lib.hid (HB.out.trans (hb1.mono HB.out.size)); have HR := Lib.hid (HR.out.keep hb1); clear hb1
    go_wp2_with (refine wpList_store_row rfl 42 _ _ rfl w.heap.size #[.int .i64 0, .int .i64 0, .int .i64 0, .int .i64 0, .int .i64 0, .string ⟨#[]⟩, .slice none 0 0, .int .i64 0, .slice none 0 0, .slice none 0 0] rfl rfl 42 _ HR.out (by kernel_rfl) rfl (by kernel_rfl) ?_)
    refine bodyPost_agg_tmp (d := _) rfl rfl (setRow_at HR.out _) Tryd.underlying42 rfl (by kernel_rfl) rfl ?_; exact ⟨[.int .i64 0, .int .i64 0, .int .i64 0, .int .i64 0, .string ⟨#[]⟩, .slice none 0 0, .int .i64 0, .slice none 0 0, .slice none 0 0], rfl, noX_is _ _, below_setRow HB1.out (Nat.le_refl _) _⟩
end Go.Proofs.YtdjdikiimhhjpaaDoor
namespace Go.Proofs.YtdjdikiimhhjpaaDoor
open Go.RowKit
set_option linter.unusedSimpArgs false
set_option linter.unusedVariables false
theorem ndOnly_bad {p : List Nd} {roots : List Int} (h : ndCheck p ≠ 0) : ndOnly p roots = ([], [], ndCheck p) := by unfold ndOnly; rw [if_neg h]
theorem ndOnly_arg {p : List Nd} {roots : List Int} (h : ndCheck p = 0) (h2 : ¬ ∀ r ∈ roots, 1 ≤ r ∧ r ≤ (p.length : Int)) : ndOnly p roots = ([], [], 2) := by unfold ndOnly; rw [if_pos h, if_neg h2]
theorem ndOnly_ok {p : List Nd} {roots : List Int} (h : ndCheck p = 0) (h2 : ∀ r ∈ roots, 1 ≤ r ∧ r ≤ (p.length : Int)) : ndOnly p roots = ((onlyF p (usedL p roots) [] []).1, (onlyF p (usedL p roots) [] []).2, 0) := by unfold ndOnly; rw [if_pos h, if_pos h2]
theorem outs_iff {L : Nat} {roots : List Int} : roots.any (outB L) = false ↔ ∀ r ∈ roots, 1 ≤ r ∧ r ≤ (L : Int) := by
  rw [List.any_eq_false]
  constructor
  · intro h r hr; have := h r hr; unfold outB at this; simp at this; omega
  · intro h r hr; have := h r hr; unfold outB; simp; omega
theorem onlyF_step {p : List Nd} {m : List Bool} {k : Nat} (h : k < p.length) (q : List Nd) (tt : List Int) :
    onlyF (p.drop k) (m.drop k) q tt = if m.getD k false then onlyF (p.drop (k + 1)) (m.drop (k + 1)) (q ++ [⟨p[k].every, p[k].ex, p[k].ins.map (toAt tt)⟩]) (tt ++ [(q.length : Int) + 1]) else onlyF (p.drop (k + 1)) (m.drop (k + 1)) q (tt ++ [0]) := by
  rw [List.drop_eq_getElem_cons h, onlyF]
  have e1 : (m.drop k).headD false = m.getD k false := by rw [List.headD_eq_head?_getD, List.head?_drop, List.getD_eq_getElem?_getD]
  have e2 : (m.drop k).tail = m.drop (k + 1) := by rw [List.tail_drop]
  rw [e1, e2]
def toL (L : Nat) (tt : List Int) : List Int := tt ++ List.replicate (L - tt.length) 0
theorem toL_len {L : Nat} {tt : List Int} (h : tt.length ≤ L) : (toL L tt).length = L := by unfold toL; simp; omega
theorem toL_at {L : Nat} {tt : List Int} {j : Nat} (h : j < tt.length) : (toL L tt)[j]? = some (toAt tt ((j : Int) + 1)) := by
  unfold toL toAt
  rw [List.getElem?_append_left h, show ((j : Int) + 1).toNat - 1 = j by omega, List.getD_eq_getElem?_getD, List.getElem?_eq_getElem h]; rfl
theorem toL_set {L : Nat} {tt : List Int} (h : tt.length < L) (x : Int) : (toL L tt).set tt.length x = toL L (tt ++ [x]) := by
  unfold toL
  rw [List.set_append_right _ _ (Nat.le_refl _), Nat.sub_self]
  obtain ⟨d, hd⟩ : ∃ d, L - tt.length = d + 1 := ⟨L - tt.length - 1, by omega⟩
  rw [hd, List.replicate_succ, List.set_cons_zero, List.length_append, List.append_assoc]
  congr 2
  rw [List.length_singleton, show L - (tt.length + 1) = d by omega]
  rfl
theorem toL_next {L : Nat} {tt : List Int} (h : tt.length < L) : (toL L tt)[tt.length]? = some 0 := by
  unfold toL
  rw [List.getElem?_append_right (Nat.le_refl _), Nat.sub_self, List.getElem?_replicate, if_pos (by omega)]
theorem toL_zero {L : Nat} {tt : List Int} (h : tt.length < L) : toL L tt = toL L (tt ++ [0]) := by
  rw [← toL_set h]
  apply List.ext_getElem?
  intro i
  rw [List.getElem?_set]
  by_cases e : tt.length = i
  · subst e
    rw [if_pos rfl, if_pos (by rw [toL_len (Nat.le_of_lt h)]; exact h)]; unfold toL; rw [List.getElem?_append_right (Nat.le_refl _), Nat.sub_self, List.getElem?_replicate, if_pos (by omega)]
  · rw [if_neg e]
theorem Blk.put9 {W : World} {g t : Nat} {z0 z1 z2 z3 z4 z5 z6 z7 z8 z9 z10 : Value} (h : Blk W g t [z0, z1, z2, z3, z4, z5, z6, z7, z8, z9, z10]) (v1 v2 v3 v4 v5 v6 v7 v8 v9 : Value) :
    Blk (((((((((W.setCell ⟨g, 1, none⟩ v1).setCell ⟨g, 2, none⟩ v2).setCell ⟨g, 3, none⟩ v3).setCell ⟨g, 4, none⟩ v4).setCell ⟨g, 5, none⟩ v5).setCell ⟨g, 6, none⟩ v6).setCell ⟨g, 7, none⟩ v7).setCell ⟨g, 8, none⟩ v8).setCell ⟨g, 9, none⟩ v9) g t [z0, v1, v2, v3, v4, v5, v6, v7, v8, v9, z10] :=
  ((((((((h.set_ 1 v1).set_ 2 v2).set_ 3 v3).set_ 4 v4).set_ 5 v5).set_ 6 v6).set_ 7 v7).set_ 8 v8).set_ 9 v9
theorem off9 (W : World) (g : Nat) (v1 v2 v3 v4 v5 v6 v7 v8 v9 : Value) :
    OffM (fun k => k = g) W (((((((((W.setCell ⟨g, 1, none⟩ v1).setCell ⟨g, 2, none⟩ v2).setCell ⟨g, 3, none⟩ v3).setCell ⟨g, 4, none⟩ v4).setCell ⟨g, 5, none⟩ v5).setCell ⟨g, 6, none⟩ v6).setCell ⟨g, 7, none⟩ v7).setCell ⟨g, 8, none⟩ v8).setCell ⟨g, 9, none⟩ v9) :=
  ((((((((OffM.cell1 W g 1 v1).trans (OffM.cell1 _ g 2 v2) (fun _ _ h => h)).trans (OffM.cell1 _ g 3 v3) (fun _ _ h => h)).trans (OffM.cell1 _ g 4 v4) (fun _ _ h => h)).trans (OffM.cell1 _ g 5 v5) (fun _ _ h => h)).trans (OffM.cell1 _ g 6 v6) (fun _ _ h => h)).trans (OffM.cell1 _ g 7 v7) (fun _ _ h => h)).trans (OffM.cell1 _ g 8 v8) (fun _ _ h => h)).trans (OffM.cell1 _ g 9 v9) (fun _ _ h => h)
def mixL (f : Int → Int) (l : List Int) (i : Nat) : List Int := (l.map f).take i ++ l.drop i
theorem mixL_len (f : Int → Int) (l : List Int) (i : Nat) : (mixL f l i).length = l.length := by unfold mixL; simp; omega
theorem mixL_at {f : Int → Int} {l : List Int} {i : Nat} (h : i < l.length) : (mixL f l i)[i]? = some l[i] := by
  unfold mixL
  rw [List.getElem?_append_right (by simp; omega)]
  have : i - ((l.map f).take i).length = 0 := by simp; omega
  rw [this, List.getElem?_drop, Nat.add_zero, List.getElem?_eq_getElem h]
theorem mixL_set {f : Int → Int} {l : List Int} {i : Nat} (h : i < l.length) : (mixL f l i).set i (f l[i]) = mixL f l (i + 1) := by
  unfold mixL
  have hl : ((l.map f).take i).length = i := by simp; omega
  have hd : l.drop i = l[i] :: l.drop (i + 1) := List.drop_eq_getElem_cons h
  rw [List.set_append_right _ _ (by omega), hl, Nat.sub_self, hd, List.set_cons_zero, List.take_succ_eq_append_getElem (by simpa using h), List.append_assoc, List.getElem_map]
  rfl
theorem mixL_all (f : Int → Int) (l : List Int) : mixL f l l.length = l.map f := by unfold mixL; rw [List.drop_length, List.append_nil, List.take_of_length_le (by simp)]
theorem own_form {w : World} {base size n : Nat} {e : TypeId} {v : Value} {xs : List Value} (h : w.ownsRow base e size v n xs) (hn : 0 < n) : ∃ g cap, v = .slice (some ⟨g, 0, none⟩) n cap := by
  rcases h.2 with ⟨_, h0⟩ | ⟨g, cap, _, hv, _⟩
  · omega
  · exact ⟨g, cap, hv⟩
theorem infoN : (Tryd.prog.info? 40).map (fun i => (i.zero, i.size, i.bytes)) = some (some (.agg #[.int .i64 0, .int .i64 0, .int .i64 0, .int .i64 0, .int .i64 0, .string ⟨#[]⟩, .slice none 0 0, .int .i64 0, .slice none 0 0, .slice none 0 0, .slice none 0 0]), 11, 160) := by kernel_rfl
theorem pOnly (p : List Nd) (roots : List Int) (v vr : Value) (n : Nat) (w : World) (hn : n ≤ w.heap.size) (hp : IsNds n w v p) (hr : IsInts n w vr roots) (hrl : roots.length ≤ 1000000) (hth : ThinP p) :
    Calls Tryd.prog 19 #[v, vr] w fun e' w' => ∃ vq vt, e' = .returned (.tuple #[vq, vt, .int .i64 (ndOnly p roots).2.2]) ∧ IsNds w'.heap.size w' vq (ndOnly p roots).1 ∧ IsInts w'.heap.size w' vt (ndOnly p roots).2.1 ∧ Below w.heap.size w w' := by
  obtain ⟨pp, cp, rfl, _, hcm, hpm⟩ := hp.open
  unfold maxLen at hcm hpm
  have HP := Lib.hid hp; have HR := Lib.hid hr
  clear hp hr
  have HC := Lib.hid (fun W (h : Below w.heap.size w W) => pCheck p _ n W (Nat.le_trans hn h.size) (HP.out.mono (h.mono hn) (Nat.le_refl _)))
  by_cases hc : ndCheck p = 0
  · have HU := Lib.hid (fun W (h : Below w.heap.size w W) => pUsed p roots _ _ n W (Nat.le_trans hn h.size) (HP.out.mono (h.mono hn) (Nat.le_refl _)) (HR.out.mono (h.mono hn) (Nat.le_refl _)) hc hrl)
    have HO := Lib.hid (fun W g (h : Below w.heap.size w W) hB => sHasOut roots vr pp p.length cp g n W (Nat.le_trans hn h.size) hB (HR.out.mono (h.mono hn) (Nat.le_refl _))); obtain ⟨hl, hok⟩ := ndCheck_0 hc; have HOK := Lib.hid hok; have HBare := Lib.hid (fun k (h : k < p.length) => (hok k _ (List.getElem?_eq_getElem h)).bare); clear hok; obtain ⟨bo, hbo⟩ : ∃ b, roots.any (outB p.length) = b := ⟨_, rfl⟩; rw [hbo] at HO; cases bo with
    | true =>
      have HE := Lib.hid (ndOnly_arg hc (fun h => by rw [outs_iff.2 h] at hbo; cases hbo)); rw [hc] at HC; clear hc hbo
      go_enter Tryd.func19, Tryd.ntmps19; (try simp only [List.append_eq, List.cons_append, List.nil_append])
      go_upto_region 1 with fail
      obtain ⟨X, hW⟩ : ∃ z, w.alloc (.cells #[.slice pp p.length cp] 26) = z := ⟨_, rfl⟩; have hBx : Blk X w.heap.size 26 [.slice pp p.length cp] := by rw [← hW]; exact Blk.new w _ _
      have kb : Below w.heap.size w X := by rw [← hW]; exact (Below.refl _ _).alloc (Nat.le_refl _) _
      rw [hW]; clear hW; have HBx := Lib.hid hBx; have HB := Lib.hid kb; have b0 := hBx.cell 0 _ rfl; clear hBx kb
      go_wp2_with fail
      refine (HC.out X HB.out).mono ?_; rintro e' w1 ⟨rfl, hb1⟩; clear b0; have HB1 := Lib.hid (HB.out.trans (hb1.mono HB.out.size)); have HBx := Lib.hid (HBx.out.keep hb1); have b0 := HBx.out.cell 0 _ rfl; clear hb1
      go_wp2_with fail
      refine (HO.out w1 _ HB1.out HBx.out).mono ?_; rintro e' w2 ⟨rfl, rfl⟩; go_wp2
      go_ret3
      rw [HE.out]; exact ⟨_, _, rfl, IsNds.nil _ _, Arr.nil _ _ _, HB1.out⟩
    | false =>
      have HE := Lib.hid (ndOnly_ok hc (outs_iff.1 hbo)); rw [hc] at HC; clear hc hbo; have hmk : ∀ W : World, (Instr.makeSlice 27 (.int .i64 (p.length : Int)) (.int .i64 (p.length : Int))).run Tryd.prog W = .ok (.slice (some ⟨W.heap.size, 0, none⟩) p.length p.length) (W.alloc (.cells (intCs (List.replicate p.length 0)).toArray 3)) := fun W => mk_ints W p.length p.length rfl hl
      go_enter Tryd.func19, Tryd.ntmps19; (try simp only [List.append_eq, List.cons_append, List.nil_append])
      go_upto_region 1 with fail
      obtain ⟨X, hW⟩ : ∃ z, w.alloc (.cells #[.slice pp p.length cp] 26) = z := ⟨_, rfl⟩; have hBx : Blk X w.heap.size 26 [.slice pp p.length cp] := by rw [← hW]; exact Blk.new w _ _
      have kb : Below w.heap.size w X := by rw [← hW]; exact (Below.refl _ _).alloc (Nat.le_refl _) _
      rw [hW]; clear hW; have HBx := Lib.hid hBx; have HB := Lib.hid kb; have b0 := hBx.cell 0 _ rfl; clear hBx kb
      go_wp2_with fail
      refine (HC.out X HB.out).mono ?_; rintro e' w1 ⟨rfl, hb1⟩; clear b0; have HB1 := Lib.hid (HB.out.trans (hb1.mono HB.out.size)); have HBx := Lib.hid (HBx.out.keep hb1); have b0 := HBx.out.cell 0 _ rfl; clear hb1; have HMk := Lib.hid hmk; clear hmk
      go_wp2_with fail
      refine (HO.out w1 _ HB1.out HBx.out).mono ?_; rintro e' w2 ⟨rfl, rfl⟩; clear HO
      go_wp2_with fail
      refine (HU.out w1 HB1.out).mono ?_; rintro e' w2 ⟨ws, rfl, hbk, hmk, hb2⟩; have hg1 := HB1.out.size; have hg2 := hbk.lt; have HBk := Lib.hid hbk; have Hmk := Lib.hid hmk; have HB2 := Lib.hid (HB1.out.trans (hb2.mono hg1)); have HBx := Lib.hid (HBx.out.keep hb2); obtain ⟨m, hmq⟩ : ∃ m, usedL p roots = m := ⟨_, rfl⟩; have Hml := Lib.hid (usedL_len p roots); rw [hmq] at Hmk HE Hml; clear hbk hmk hb2 hmq HU HC HB1; have hmk := HMk.out; clear HMk b0; have b0 := HBx.out.cell 0 _ rfl
      go_upto_region 8 with fail
      clear hmk b0; obtain ⟨X1, hW⟩ : ∃ z, w2.alloc (.cells (intCs (List.replicate p.length 0)).toArray 3) = z := ⟨_, rfl⟩; have hT : Blk X1 w2.heap.size 3 (intCs (List.replicate p.length 0)) := by rw [← hW]; exact Blk.new w2 _ _
      have kb : Below w2.heap.size w2 X1 := by rw [← hW]; exact (Below.refl _ _).alloc (Nat.le_refl _) _
      have hzX : X1.heap.size = w2.heap.size + 1 := by rw [← hW]; simp
      rw [hW]; clear hW; have HBk := Lib.hid (HBk.out.keep kb); have HBx := Lib.hid (HBx.out.keep kb); have HB2 := Lib.hid (HB2.out.trans (kb.mono HB2.out.size)); have HT := Lib.hid hT; have b0 := HBx.out.cell 0 _ rfl; clear kb hT; obtain ⟨gb, hgb⟩ : ∃ z, w1.heap.size = z := ⟨_, rfl⟩; obtain ⟨gt, hgt⟩ : ∃ z, w2.heap.size = z := ⟨_, rfl⟩; rw [hgb] at HBk hg1 hg2 ⊢; rw [hgt] at HT hzX hg2 ⊢; clear hgb hgt
      go_upto_region 9 with fail
      clear b0
      go_loopw [4, 29] (fun vq j wr => ∃ (k : Nat) (q : List Nd) (tt : List Int) (rows : List (List Value)), k ≤ p.length ∧ j = .int .i64 k ∧ tt.length = k ∧ q.length ≤ k ∧ onlyF (p.drop k) (m.drop k) q tt = onlyF p m [] [] ∧ Blk wr gb 93 (bitCs ws) ∧ Blk wr gt 3 (intCs (toL p.length tt)) ∧ NdL (fun b => b = gt) (gt + 1) wr vq q rows ∧ Below w.heap.size w wr ∧ gt < wr.heap.size) (fun _ j _ => p.length - (intOf j).toNat)
      case atStart => exact ⟨0, [], [], [], Nat.zero_le _, rfl, rfl, Nat.le_refl _, rfl, HBk.out, by unfold toL; simpa using HT.out, NdL.nil, HB2.out, by omega⟩
      case round =>
        clear HBk HT HBx HB2 hzX; obtain ⟨k, q, tt, rows, hk, rfl, htl, hql, heq, hbk, ht, hq, hb, hgs⟩ := hrel; obtain ⟨W0, rfl⟩ : ∃ z, z = wr := ⟨_, rfl⟩; have HBk := Lib.hid hbk; have HT := Lib.hid ht; have HQ := Lib.hid hq; have Hb := Lib.hid hb; have Heq := Lib.hid heq; have Htl := Lib.hid htl; clear hbk ht hq hb heq htl
        by_cases hlt : k < p.length
        · have hki : (k : Int) < (p.length : Int) := by omega
          obtain ⟨b, off, pm, cm, pn, cn, pk, ck, pi, ci, rfl, hbn, hex, hii, hc⟩ := (HP.out.mono (Hb.out.mono hn) (Nat.le_refl _)).get hlt; have hstep := onlyF_step (m := m) hlt q tt; have hkid := HBare.out k hlt; have hth1 := hth _ (List.getElem_mem hlt); have hx2 := HOK.out.two p[k] (List.getElem_mem hlt); have hax : ∀ z ∈ p[k].ins, 1 ≤ z ∧ z ≤ (k : Int) := fun z hz => HOK.out.ahead k z (by unfold insAt; rw [List.getElem?_eq_getElem hlt]; exact hz)
          obtain ⟨x, hx⟩ : ∃ x, p[k] = x := ⟨_, rfl⟩; rw [hx] at hex hii hc hstep hkid hth1 hx2 hax; have hsz1 : x.ex.size ≤ 1000000 := by rw [Ex.size_eq, hkid]; simp [sizes]
          have Hax := Lib.hid hax; have Hkid := Lib.hid hkid; have Hstep := Lib.hid (hstep.symm.trans Heq.out); have c0 := hc 0 _ rfl; have c1 := hc 1 _ rfl; have c2 := hc 2 _ rfl; have c3 := hc 3 _ rfl; have c4 := hc 4 _ rfl; have c5 := hc 5 _ rfl; have c6 := hc 6 _ rfl; have c7 := hc 7 _ rfl; have c8 := hc 8 _ rfl; have c9 := hc 9 _ rfl; have c10 := hc 10 _ rfl; simp only [Nat.add_zero] at c0; have Hex := Lib.hid hex; have Hii := Lib.hid hii; clear hx hc hex hii hstep hkid hax
          go_upto_region 11 with fail
          obtain ⟨X, hW⟩ : ∃ z, W0.alloc (.cells #[.int .i64 x.every, .int .i64 x.ex.kind, .int .i64 x.ex.fn, .int .i64 x.ex.op, .int .i64 x.ex.num, .string x.ex.metric, .slice pm x.ex.mats.length cm, .int .i64 x.ex.span, .slice pn x.ex.names.length cn, .slice pk x.ex.kids.length ck, .slice pi x.ins.length ci] 40) = z := ⟨_, rfl⟩; have B1 : Blk X W0.heap.size 40 [.int .i64 x.every, .int .i64 x.ex.kind, .int .i64 x.ex.fn, .int .i64 x.ex.op, .int .i64 x.ex.num, .string x.ex.metric, .slice pm x.ex.mats.length cm, .int .i64 x.ex.span, .slice pn x.ex.names.length cn, .slice pk x.ex.kids.length ck, .slice pi x.ins.length ci] := by rw [← hW]; exact Blk.new W0 _ _
          have bX : Below W0.heap.size W0 X := by rw [← hW]; exact (Below.refl _ _).alloc (Nat.le_refl _) _
          rw [hW]; have HbX := Lib.hid bX; have HB10 := Lib.hid B1; have HB10X := Lib.hid B1; clear hW B1 bX c0 c1 c2 c3 c4 c5 c6 c7 c8 c9 c10; have hh := pHas ws gb ws.length (k + 1) X (HBk.out.keep HbX.out) Hmk.out.lt (Hmk.out.at (by rw [Hml.out]; omega)) (by omega); rw [Hmk.out.get (by rw [Hml.out]; exact hlt)] at hh; have Hh := Lib.hid hh; clear hh; generalize m.getD k false = bk at Hh Hstep
          go_wp2_with fail
          refine Hh.out.mono ?_; rintro e' w3 ⟨rfl, rfl⟩; clear Hh; cases bk with
          | false =>
            have hst := Hstep.out; have htz := toL_zero (L := p.length) (tt := tt) (by rw [Htl.out]; exact hlt); have HTZ := Lib.hid htz; clear htz hst; go_wp2; exact ⟨⟨k + 1, q, tt ++ [0], rows, by omega, by go_num, by rw [List.length_append, Htl.out]; rfl, by omega, by have := Hstep.out; simpa using this, HBk.out.keep HbX.out, by rw [← HTZ.out]; exact HT.out.keep HbX.out, HQ.out.keep HbX.out, Hb.out.trans (HbX.out.mono Hb.out.size), Nat.lt_of_lt_of_le hgs HbX.out.size⟩, by simp [intOf]; omega⟩
          | true =>
            have hst := Hstep.out; have HbN := Lib.hid (Hb.out.trans (HbX.out.mono Hb.out.size)); have HC := Lib.hid (aCopy x.ex _ n X (Nat.le_trans hn HbN.out.size) (Hex.out.mono (HbX.out.mono (Nat.le_trans hn Hb.out.size)) (Nat.le_refl _)) hth1 hsz1); have cc := HB10.out; have d0 := cc.cell 0 _ rfl; have d1 := cc.cell 1 _ rfl; have d2 := cc.cell 2 _ rfl; have d3 := cc.cell 3 _ rfl; have d4 := cc.cell 4 _ rfl; have d5 := cc.cell 5 _ rfl; have d6 := cc.cell 6 _ rfl; have d7 := cc.cell 7 _ rfl; have d8 := cc.cell 8 _ rfl; have d9 := cc.cell 9 _ rfl; have d10 := cc.cell 10 _ rfl; clear cc hst
            go_wp2_with fail
            refine HC.out.mono ?_; rintro e' w3 ⟨cs1, rfl, hfr, hb3⟩; obtain ⟨vm, vn, vk, rows0, rfl, m1, m2, m3, -, -⟩ := hfr.cells; obtain ⟨qm, dm, rfl⟩ := ownsRow_slice m1.1; obtain ⟨qn, dn, rfl⟩ := ownsRow_slice m2.1; obtain ⟨qk, dk, rfl⟩ := ownsRow_slice m3.1; clear m1 m2 m3 d0 d1 d2 d3 d4 d5 d6 d7 d8 d9 d10; have HB3 := Lib.hid hb3; have HFr := Lib.hid hfr; have HB10 := Lib.hid (HB10.out.keep hb3); have cc := HB10.out; have d0 := cc.cell 0 _ rfl; have d1 := cc.cell 1 _ rfl; have d2 := cc.cell 2 _ rfl; have d3 := cc.cell 3 _ rfl; have d4 := cc.cell 4 _ rfl; have d5 := cc.cell 5 _ rfl; have d6 := cc.cell 6 _ rfl; have d7 := cc.cell 7 _ rfl; have d8 := cc.cell 8 _ rfl; have d9 := cc.cell 9 _ rfl; have d10 := cc.cell 10 _ rfl; have f1 := cc.free 1; have f2 := cc.free 2; have f3 := cc.free 3; have f4 := cc.free 4; have f5 := cc.free 5; have f6 := cc.free 6; have f7 := cc.free 7; have f8 := cc.free 8; have f9 := cc.free 9; clear cc hb3 hfr HC
            go_upto_region 13 with fail
            obtain ⟨W9, hW9⟩ : ∃ z, (((((((((w3.setCell ⟨W0.heap.size, 1, none⟩ (.int .i64 x.ex.kind)).setCell ⟨W0.heap.size, 2, none⟩ (.int .i64 x.ex.fn)).setCell ⟨W0.heap.size, 3, none⟩ (.int .i64 x.ex.op)).setCell ⟨W0.heap.size, 4, none⟩ (.int .i64 x.ex.num)).setCell ⟨W0.heap.size, 5, none⟩ (.string x.ex.metric)).setCell ⟨W0.heap.size, 6, none⟩ (.slice qm x.ex.mats.length dm)).setCell ⟨W0.heap.size, 7, none⟩ (.int .i64 x.ex.span)).setCell ⟨W0.heap.size, 8, none⟩ (.slice qn x.ex.names.length dn)).setCell ⟨W0.heap.size, 9, none⟩ (.slice qk x.ex.kids.length dk)) = z := ⟨_, rfl⟩; have h9 := HB10.out.put9 (.int .i64 x.ex.kind) (.int .i64 x.ex.fn) (.int .i64 x.ex.op) (.int .i64 x.ex.num) (.string x.ex.metric) (.slice qm x.ex.mats.length dm) (.int .i64 x.ex.span) (.slice qn x.ex.names.length dn) (.slice qk x.ex.kids.length dk); have o9 := off9 w3 W0.heap.size (.int .i64 x.ex.kind) (.int .i64 x.ex.fn) (.int .i64 x.ex.op) (.int .i64 x.ex.num) (.string x.ex.metric) (.slice qm x.ex.mats.length dm) (.int .i64 x.ex.span) (.slice qn x.ex.names.length dn) (.slice qk x.ex.kids.length dk); rw [hW9] at h9 o9 ⊢; have hlX : W0.heap.size < X.heap.size := HB10X.out.lt; have hs3 := HB3.out.size; have HB9 := Lib.hid h9; have HbW := Lib.hid ((HbX.out.trans (HB3.out.mono HbX.out.size)).trans (o9.below (fun i hi => by omega) (Nat.le_trans HbX.out.size hs3))); have HFr := Lib.hid (HFr.out.keep (fun i h1 h2 => o9.block i h2 (by omega))); have hs9 := o9.size; clear hW9 h9 o9 d0 d1 d2 d3 d4 d5 d6 d7 d8 d9 d10 f1 f2 f3 f4 f5 f6 f7 f8 f9 HB10 HB3; have d10 := HB9.out.cell 10 _ rfl; have hnr : n ≤ W0.heap.size := Nat.le_trans hn Hb.out.size; have HCl := Lib.hid (cloneI x.ins _ n W9 (Nat.le_trans hnr HbW.out.size) (Hii.out.mono (HbW.out.mono hnr) (Nat.le_refl _)) (by omega))
            go_wp2_with fail
            refine HCl.out.mono ?_; rintro e' w4 ⟨vi, rfl, hvi, hb4⟩; obtain ⟨ai, ci2, rfl⟩ := ownsRow_slice hvi; have HB9 := Lib.hid (HB9.out.keep hb4); have HbW := Lib.hid (HbW.out.trans (hb4.mono HbW.out.size)); have HFr := Lib.hid (HFr.out.keep (fun i h1 h2 => hb4.block i (Nat.lt_of_lt_of_le h2 hs9))); have hs4 := hb4.size; have HVi := Lib.hid hvi; clear d10 hb4 hvi HCl; have d10 := HB9.out.cell 10 _ rfl; have f10 := HB9.out.free 10
            go_upto_region 14 with fail
            obtain ⟨Y, hY⟩ : ∃ z, w4.setCell ⟨W0.heap.size, 10, none⟩ (.slice ai x.ins.length ci2) = z := ⟨_, rfl⟩; have h10 := HB9.out.set_ 10 (.slice ai x.ins.length ci2); have o10 := OffM.cell1 w4 W0.heap.size 10 (.slice ai x.ins.length ci2); rw [hY] at h10 o10 ⊢; have HB9 : Hid (Blk Y W0.heap.size 40 [.int .i64 x.every, .int .i64 x.ex.kind, .int .i64 x.ex.fn, .int .i64 x.ex.op, .int .i64 x.ex.num, .string x.ex.metric, .slice qm x.ex.mats.length dm, .int .i64 x.ex.span, .slice qn x.ex.names.length dn, .slice qk x.ex.kids.length dk, .slice ai x.ins.length ci2]) := Lib.hid h10; have HbW := Lib.hid (HbW.out.trans (o10.below (fun i hi => by omega) (by omega))); have HFr := Lib.hid (HFr.out.keep (fun i h1 h2 => o10.block i (by omega) (by omega))); have HVi : Hid (OwnI 3 W9.heap.size Y (.slice ai x.ins.length ci2) x.ins) := Lib.hid (ownsRow_offM HVi.out o10 (fun g hg e => by have := (ownsRow_block HVi.out g hg).1; omega)); have hs10 := o10.size; clear hY h10 o10 d10 f10; have d10 := HB9.out.cell 10 _ rfl
            go_upto_region 15 with fail
            clear d10
            go_loopw [50] (fun j wq => ∃ i : Nat, i ≤ x.ins.length ∧ j = .int .i64 i ∧ wq.ownsRow W9.heap.size 3 1 (.slice ai x.ins.length ci2) x.ins.length (intCs (mixL (toAt tt) x.ins i)) ∧ Blk wq W0.heap.size 40 [.int .i64 x.every, .int .i64 x.ex.kind, .int .i64 x.ex.fn, .int .i64 x.ex.op, .int .i64 x.ex.num, .string x.ex.metric, .slice qm x.ex.mats.length dm, .int .i64 x.ex.span, .slice qn x.ex.names.length dn, .slice qk x.ex.kids.length dk, .slice ai x.ins.length ci2] ∧ Fresh X.heap.size w3.heap.size wq x.ex [.int .i64 x.ex.kind, .int .i64 x.ex.fn, .int .i64 x.ex.op, .int .i64 x.ex.num, .string x.ex.metric, .slice qm x.ex.mats.length dm, .int .i64 x.ex.span, .slice qn x.ex.names.length dn, .slice qk x.ex.kids.length dk] ∧ Below W0.heap.size W0 wq ∧ W9.heap.size ≤ wq.heap.size) (fun j _ => x.ins.length - (intOf j).toNat)
            case atStart => exact ⟨0, Nat.zero_le _, rfl, by unfold mixL; simpa [OwnI, intCs] using HVi.out, HB9.out, HFr.out, HbW.out, by omega⟩
            case round =>
              clear HVi HB9 HFr HbW hs4 hs10; obtain ⟨i, hi, rfl, hvi, hb9, hfr, hbw, hsq⟩ := hrel; have HVi := Lib.hid hvi; have HB9 := Lib.hid hb9; have HFr := Lib.hid hfr; have HbW := Lib.hid hbw; clear hvi hb9 hfr hbw
              by_cases hlt2 : i < x.ins.length
              · have hii2 : (i : Int) < (x.ins.length : Int) := by omega
                obtain ⟨g, cg, hvg⟩ := own_form HVi.out (by omega)
                injection hvg with e1 e2 e3
                subst e1 e3; clear e2; have hml := mixL_len (toAt tt) x.ins i; have e0 := HVi.out.cellAt i (by omega); rw [intCs_at (mixL_at (f := toAt tt) hlt2)] at e0; have fz := HVi.out.frozenAt i; have hgb := (ownsRow_block HVi.out g rfl).1; have hax := Hax.out x.ins[i] (List.getElem_mem hlt2); have Hms := Lib.hid (mixL_set (f := toAt tt) hlt2); generalize x.ins[i] = r at *; obtain ⟨j, rfl⟩ : ∃ j : Nat, r = (j : Int) + 1 := ⟨(r - 1).toNat, by omega⟩; have hj : j < k := by omega
                have hjL : (j : Int) < (p.length : Int) := by omega
                have t0 := (HT.out.keep HbW.out).cell j _ (intCs_at (toL_at (L := p.length) (tt := tt) (by rw [Htl.out]; exact hj))); have d10 := HB9.out.cell 10 _ rfl; generalize toAt tt ((j : Int) + 1) = tv at *; clear hax hml
                go_upto_region 17 with fail
                go_region
                obtain ⟨hst1, hgr1⟩ := HVi.out.stored i (.int .i64 tv); rw [intCs_set, Hms.out] at hst1; have og := OffM.cell1 wr g i (.int .i64 tv); obtain ⟨Z, hZ⟩ : ∃ z, (wr.setCell ⟨g, i, none⟩ (.int .i64 tv)).drew = z := ⟨_, rfl⟩; have ogd : OffM (fun k => k = g) wr Z := by rw [← hZ]; exact ⟨og.os, og.tape, og.output, og.size, og.block⟩
                have hst2 : Z.ownsRow W9.heap.size 3 1 (.slice (some ⟨g, 0, none⟩) x.ins.length ci2) x.ins.length (intCs (mixL (toAt tt) x.ins (i + 1))) := by rw [← hZ]; exact hst1
                rw [hZ]; have h9 : Blk Z W0.heap.size 40 [.int .i64 x.every, .int .i64 x.ex.kind, .int .i64 x.ex.fn, .int .i64 x.ex.op, .int .i64 x.ex.num, .string x.ex.metric, .slice qm x.ex.mats.length dm, .int .i64 x.ex.span, .slice qn x.ex.names.length dn, .slice qk x.ex.kids.length dk, .slice (some ⟨g, 0, none⟩) x.ins.length ci2] := (ogd.block _ HB9.out.lt (by omega)).trans HB9.out; have HF2 := Lib.hid (HFr.out.keep (fun i h1 h2 => ogd.block i (by omega) (by omega))); have HbW2 := Lib.hid (HbW.out.trans (ogd.below (fun i hi => by omega) HbW.out.size)); have hsz := ogd.size; have HH9 := Lib.hid h9; have HH2 := Lib.hid hst2; clear hst1 hgr1 og hZ ogd hst2 h9 e0 fz t0 d10; go_wp2; exact ⟨⟨i + 1, by omega, by go_num, HH2.out, HH9.out, HF2.out, HbW2.out, by omega⟩, by simp [intOf]; omega⟩
              · have hi2 : i = x.ins.length := by omega
                subst hi2; have hvi := HVi.out; rw [mixL_all] at hvi; have cc := HB9.out; have d0 := cc.cell 0 _ rfl; have d1 := cc.cell 1 _ rfl; have d2 := cc.cell 2 _ rfl; have d3 := cc.cell 3 _ rfl; have d4 := cc.cell 4 _ rfl; have d5 := cc.cell 5 _ rfl; have d6 := cc.cell 6 _ rfl; have d7 := cc.cell 7 _ rfl; have d8 := cc.cell 8 _ rfl; have d9 := cc.cell 9 _ rfl; have d10 := cc.cell 10 _ rfl; clear cc; have HV2 : Hid (OwnI 3 W9.heap.size wr (.slice ai x.ins.length ci2) (x.ins.map (toAt tt))) := Lib.hid (by unfold OwnI; rw [List.length_map]; exact hvi); clear hvi HVi; have HQ2 := Lib.hid (HQ.out.keep HbW.out); have hWs := HbW.out.size; obtain ⟨i0, hi0, hz0, hz1, hz2⟩ := info_parts infoN; have HQo := Lib.hid HQ2.out.1
                go_wp2_with (at_builtin; refine wpList_append_src _ rfl _ _ 26 rfl (gt + 1) 40 i0 _ 11 160 Tryd.underlying26 hi0 hz0 hz1 hz2 rfl (by decide) _ q.length rows.flatten rfl (ownsRow_keep HQo.out ((Below.refl _ _).alloc (Nat.le_refl _) _)) _ 1 [.int .i64 x.every, .int .i64 x.ex.kind, .int .i64 x.ex.fn, .int .i64 x.ex.op, .int .i64 x.ex.num, .string x.ex.metric, .slice qm x.ex.mats.length dm, .int .i64 x.ex.span, .slice qn x.ex.names.length dn, .slice qk x.ex.kids.length dk, .slice ai x.ins.length ci2] rfl (src_new rfl rfl) (by intro u hu; simp at hu; rcases hu with rfl | rfl | rfl | rfl | rfl | rfl | rfl | rfl | rfl | rfl | rfl <;> rfl) (by unfold maxLen; omega) (by omega) (by simp; omega) ?_)
                intro v5 w5 hown5 hg5 hat5; have bA : Below wr.heap.size wr (wr.alloc (.cells #[.int .i64 x.every, .int .i64 x.ex.kind, .int .i64 x.ex.fn, .int .i64 x.ex.op, .int .i64 x.ex.num, .string x.ex.metric, .slice qm x.ex.mats.length dm, .int .i64 x.ex.span, .slice qn x.ex.names.length dn, .slice qk x.ex.kids.length dk, .slice ai x.ins.length ci2] 40)) := (Below.refl _ _).alloc (Nat.le_refl _) _; have hzA : (wr.alloc (.cells #[.int .i64 x.every, .int .i64 x.ex.kind, .int .i64 x.ex.fn, .int .i64 x.ex.op, .int .i64 x.ex.num, .string x.ex.metric, .slice qm x.ex.mats.length dm, .int .i64 x.ex.span, .slice qn x.ex.names.length dn, .slice qk x.ex.kids.length dk, .slice ai x.ins.length ci2] 40)).heap.size = wr.heap.size + 1 := World.size_alloc _ _; obtain ⟨A, hA⟩ : ∃ z, wr.alloc (.cells #[.int .i64 x.every, .int .i64 x.ex.kind, .int .i64 x.ex.fn, .int .i64 x.ex.op, .int .i64 x.ex.num, .string x.ex.metric, .slice qm x.ex.mats.length dm, .int .i64 x.ex.span, .slice qn x.ex.names.length dn, .slice qk x.ex.kids.length dk, .slice ai x.ins.length ci2] 40) = z := ⟨_, rfl⟩; rw [hA] at bA hzA hg5; clear hA; have hq3 := HQ2.out.keep bA; have hrow : ∀ g, u4.ownBlock = some g → g < W0.heap.size := fun g hg => (ownsRow_block HQ.out.1 g hg).2
                have hlX : W0.heap.size < X.heap.size := HB10X.out.lt; have hnd : NdS (SX (fun b => b = gt) u4) A ⟨x.every, x.ex, x.ins.map (toAt tt)⟩ (.int .i64 x.every :: ([.int .i64 x.ex.kind, .int .i64 x.ex.fn, .int .i64 x.ex.op, .int .i64 x.ex.num, .string x.ex.metric, .slice qm x.ex.mats.length dm, .int .i64 x.ex.span, .slice qn x.ex.names.length dn, .slice qk x.ex.kids.length dk] ++ [.slice ai x.ins.length ci2])) :=
                  NdS.mk (x := ⟨x.every, x.ex, x.ins.map (toAt tt)⟩) (ExS.of_fresh (HFr.out.keep (fun i h1 h2 => bA.block i (by omega))) (by omega) (fun i h1 h2 => ⟨by show ¬ i = gt; omega, fun e => by have := hrow i e; omega⟩))
                    (OwnI.intsS (HV2.out.keep bA) (fun g hg => by have := (ownsRow_block HV2.out g hg).1; exact ⟨by show ¬ g = gt; omega, fun e => by have := hrow g e; omega⟩))
                have hq5 := hq3.app hnd hown5 hg5 (by rw [hzA]; exact hat5); have b5 : Below (gt + 1) A w5 := below_app (Below.refl _ _) hq3.1 hg5 (Nat.le_refl _) (by omega); have b05 : Below (gt + 1) W0 w5 := ((HbW.out.mono hgs).trans (bA.mono (by omega))).trans b5; have HQ5 := Lib.hid hq5; have HB5 := Lib.hid (Hb.out.trans (b05.mono (by omega))); have HT5 := Lib.hid (HT.out.mono b05 (by omega)); have HBk5 := Lib.hid (HBk.out.mono b05 (by omega)); have hs5 := b05.size; obtain ⟨av, cv, rfl⟩ := ownsRow_slice hown5; clear bA hq3 hrow hnd hq5 b5 b05 hown5 hg5 hat5 hzA d0 d1 d2 d3 d4 d5 d6 d7 d8 d9 d10; have htn := toL_next (L := p.length) (tt := tt) (by rw [Htl.out]; exact hlt); rw [Htl.out] at htn; have ct := HT5.out.cell k _ (intCs_at htn); clear htn; have ft := HT5.out.free k; go_wp2; have hts := toL_set (L := p.length) (tt := tt) (by rw [Htl.out]; exact hlt) ((q.length : Int) + 1); rw [Htl.out] at hts; have og := OffM.cell1 w5 gt k (.int .i64 ((q.length : Int) + 1)); refine ⟨⟨k + 1, q ++ [⟨x.every, x.ex, x.ins.map (toAt tt)⟩], tt ++ [(q.length : Int) + 1], _, by omega, by go_num, by rw [List.length_append, Htl.out]; rfl, by simp; omega, by have := Hstep.out; simpa using this, HBk5.out.far (by simp; omega) _, ?_, HQ5.out.off og (fun b _ h => h) (fun g hg e => by have := (ownsRow_block HQ5.out.1 g hg).1; omega), HB5.out.setCell (by simp; omega) _, by show gt < (World.setCell _ _ _).heap.size; simp [World.setCell]; omega⟩, by simp [intOf]; omega⟩; rw [← hts, ← intCs_set]; exact HT5.out.set_ k _
        · have hk' : k = p.length := by omega
          subst hk'; have he := Heq.out; rw [List.drop_length, onlyF] at he; have HE2 := Lib.hid he; clear he; go_wp2
          go_ret3
          rw [HE.out, ← HE2.out]; have htq : toL p.length tt = tt := by unfold toL; rw [Htl.out, Nat.sub_self]; simp
          have h1 := ints_blk (l := tt) (by have := HT.out; rw [htq] at this; exact this) (by unfold maxLen; rw [Htl.out]; omega); rw [Htl.out] at h1; exact ⟨_, _, rfl, HQ.out.nds (Nat.le_refl _), h1, Hb.out⟩
  · have HE := Lib.hid (ndOnly_bad (roots := roots) hc)
    have hcb : (ndCheck p != 0) = true := by simpa using hc
    obtain ⟨c, hcq⟩ : ∃ c, ndCheck p = c := ⟨_, rfl⟩; rw [hcq] at hcb HC HE; clear hc hcq
    go_enter Tryd.func19, Tryd.ntmps19; (try simp only [List.append_eq, List.cons_append, List.nil_append])
    go_upto_region 1 with fail
    obtain ⟨X, hW⟩ : ∃ z, w.alloc (.cells #[.slice pp p.length cp] 26) = z := ⟨_, rfl⟩; have hBx : Blk X w.heap.size 26 [.slice pp p.length cp] := by rw [← hW]; exact Blk.new w _ _
    have kb : Below w.heap.size w X := by rw [← hW]; exact (Below.refl _ _).alloc (Nat.le_refl _) _
    rw [hW]; clear hW; have HBx := Lib.hid hBx; have HB := Lib.hid kb; have b0 := hBx.cell 0 _ rfl; clear hBx kb
    go_wp2_with fail
    refine (HC.out X HB.out).mono ?_; rintro e' w1 ⟨rfl, hb1⟩; clear b0; have HB1 := Lib.hid (HB.out.trans (hb1.mono HB.out.size)); have HBx := Lib.hid (HBx.out.keep hb1); have b0 := HBx.out.cell 0 _ rfl; clear hb1; go_wp2
    go_ret3
    rw [HE.out]; exact ⟨_, _, rfl, IsNds.nil _ _, Arr.nil _ _ _, HB1.out⟩
end Go.Proofs.YtdjdikiimhhjpaaDoor
