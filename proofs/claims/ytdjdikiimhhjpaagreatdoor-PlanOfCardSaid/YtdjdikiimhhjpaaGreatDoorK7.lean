/- ast.all as an iterator; ast.Size. -/
import Derived.Test.YtdjdikiimhhjpaaGreatDoorK6
import Derived.Laws.EntriesVeiled
set_option maxRecDepth 100000
set_option maxHeartbeats 16000000
namespace Go.Proofs.YtdjdikiimhhjpaaGreatDoor
open Go.Shelf
open Go.RowKit
set_option linter.unusedSimpArgs false
set_option linter.unusedVariables false
attribute [local go_sem] Oper.semAt_some
theorem IsEx.cellsE {n : Nat} {w : World} {e : Ex} {cs : List Value} (h : IsEx n w e cs) :
    ∃ pm cm pn cn pk ck, cs = [.int .i64 e.kind, .int .i64 e.fn, .int .i64 e.op, .int .i64 e.num, .string e.metric, .slice pm e.mats.length cm, .int .i64 e.span, .slice pn e.names.length cn, .slice pk e.kids.length ck] ∧
      e.metric.size ≤ maxLen ∧ IsMats n w (.slice pm e.mats.length cm) e.mats ∧ IsStrs n w (.slice pn e.names.length cn) e.names ∧ IsExs n w (.slice pk e.kids.length ck) e.kids := by
  obtain ⟨vm, vn, vk, hcs, hs, hm, hna, hki⟩ := h.cells
  obtain ⟨pm, cm, rfl, _⟩ := hm.open
  obtain ⟨pn, cn, rfl, _⟩ := hna.open
  obtain ⟨pk, ck, rfl, _⟩ := hki.open
  exact ⟨pm, cm, pn, cn, pk, ck, hcs, hs, hm, hna, hki⟩
theorem aAll (e : Ex) (cs : List Value) (n : Nat) (w : World) (he : IsEx n w e cs) :
    Calls Tryz.prog 39 #[.agg cs.toArray] w fun e' w' => e' = .returned (.func (.func 56) #[] #[.pointer (some ⟨w.heap.size, 0, none⟩)]) ∧ w' = w.alloc (.cells cs.toArray 37) := by
  obtain ⟨pm, cm, pn, cn, pk, ck, rfl, _⟩ := he.cellsE
  go_enter Tryz.func39, Tryz.ntmps39; (try simp only [List.append_eq, List.cons_append, List.nil_append])
  go_wp2
  go_ret
  exact ⟨rfl, rfl⟩
theorem allStops {n₀ : Nat} {w₀ : World} {V : World → Prop} {X : World → Nat → Prop} (hd : Dirty n₀ V X) (n : Nat) (e : Ex) (cs : List Value) (w : World) (eB : Nat) (he : IsEx n₀ w₀ e cs) (hc : Cells n₀ w₀ w)
    (hB : Box w eB cs) (hn : n₀ ≤ w.heap.size) (hV : ∀ W, Below w.heap.size w W → V W) :
    SeqStopsK Fence.wide n Tryz.prog 56 #[.pointer (some ⟨eB, 0, none⟩)] (fun x : Node n₀ w₀ => #[.agg x.1.2.toArray]) (KpX V X) (fun xs => exs xs = e.flat) (fun xs => exs xs <+: e.flat) e.size w := by
  intro l J Jx W hW hJ hJx hY h0
  have hdd : ∀ k : Nat, (Fence.wide.depth.isSome = true → 1 ≤ k) := fun k h => by cases h
  have hv := hV W hW
  obtain ⟨pm, cm, pn, cn, pk, ck, rfl, _⟩ := he.cellsE
  have hbox := hB.keep hW
  have hJa : ∀ pre W o, J pre W → J pre (W.alloc o) := fun pre W o h => hJ pre W _ none h (World.grownBy_alloc W o none) (fun r e => by cases e)
  have K1 := KpX.alloc hd W (.cells #[.func (.yield l) #[] #[]] 62)
  have K2 := KpX.alloc hd (W.alloc (.cells #[.func (.yield l) #[] #[]] 62)) (.cells #[.func (.func 57) #[] #[.pointer (some ⟨W.heap.size, 0, none⟩), .pointer (some ⟨W.heap.size + 1, 0, none⟩)]] 62)
  have hnX : ∀ k, W.heap.size ≤ k → ¬ X ((W.alloc (.cells #[.func (.yield l) #[] #[]] 62)).alloc (.cells #[.func (.func 57) #[] #[.pointer (some ⟨W.heap.size, 0, none⟩), .pointer (some ⟨W.heap.size + 1, 0, none⟩)]] 62)) k := by
    intro k hk h; have := (hd.lo W k hv ((hd.al W _ hv).2 k ((hd.al _ _ (hd.al W _ hv).1).2 k h))).2; omega
  have hcall := allRec hd l e.size W.heap.size (W.heap.size + 1) J Jx hJa (fun m pre x W hj hl => YieldAt.anyD m (hY pre x W hj hl)) e (n - 1) _ [] _ he
    ((hc.trans (Cells.of_below (hW.mono hn))).trans (((K1.trans K2) hv).2.low hd hv)) ((K1.trans K2) hv).1 (hnX _ (Nat.le_refl _)) (hnX _ (by omega))
    (by simp [go_sem]) (by simp [go_sem]) (hJa _ _ _ (hJa _ _ _ h0)) (by simp)
  have Hcall := Lib.hid hcall; clear hcall
  have b0 := hbox.2 0 _ rfl
  have b1 := hbox.2 1 _ rfl
  have b2 := hbox.2 2 _ rfl
  have b3 := hbox.2 3 _ rfl
  have b4 := hbox.2 4 _ rfl
  have b5 := hbox.2 5 _ rfl
  have b6 := hbox.2 6 _ rfl
  have b7 := hbox.2 7 _ rfl
  have b8 := hbox.2 8 _ rfl
  have heB := hbox.1
  clear K1 K2 hnX hY hJ hJx hV
  refine callsIn_of_wp Tryz.func56 rfl trivial ?_ rfl; simp only [Tryz.ntmps56, List.size_toArray, List.length_cons, List.length_nil, Nat.reduceAdd, Nat.reduceSub, Array.replicate_succ, Array.replicate_zero, List.push_toArray, List.append_toArray, List.nil_append, List.cons_append]; (try simp only [List.append_eq, List.cons_append, List.nil_append])
  gi_wp2_with ((try refine ⟨trivial, hdd _, ?_⟩); gi_at_call 57; refine Hcall.out.mono ?_; rintro e' W4 (⟨rfl, ys, hys, hJ4, hK4⟩ | ⟨rfl, ys, hys, hJ4⟩))
  · go_end0
    exact ⟨⟨_, rfl⟩, .inl ⟨ys, hys, hJ4⟩⟩
  · go_end0
    exact ⟨⟨_, rfl⟩, .inr ⟨ys, hys, hJ4⟩⟩
end Go.Proofs.YtdjdikiimhhjpaaGreatDoor
namespace Go.Proofs.YtdjdikiimhhjpaaGreatDoor
open Go.Shelf
open Go.RowKit
set_option linter.unusedSimpArgs false
set_option linter.unusedVariables false
attribute [local go_sem] Oper.semAt_some
def Vc (c : Nat) (W : World) : Prop := c < W.heap.size
def Xc (c : Nat) (_ : World) (k : Nat) : Prop := k = c
theorem dirtyC {n₀ c : Nat} (h : n₀ ≤ c) : Dirty n₀ (Vc c) (Xc c) where
  lo := fun W k hv hx => by have hv : c < W.heap.size := hv; have hx : k = c := hx; subst hx; exact ⟨h, hv⟩
  al := fun W o hv => ⟨by have hv : c < W.heap.size := hv; show c < (W.alloc o).heap.size; simp; omega, fun k h => h⟩
  pu := fun W l o o' hv _ _ => ⟨by have hv : c < W.heap.size := hv; show c < (W.putObj l o').heap.size; simpa using hv, fun k h => h⟩
theorem KpX.setC (c : Nat) (W : World) (v : Value) : KpX (Vc c) (Xc c) W (W.setCell ⟨c, 0, none⟩ v) := fun hv =>
  ⟨by have hv : c < W.heap.size := hv; show c < (W.setCell _ _).heap.size; simpa using hv,
    ⟨by simp, fun k o hk _ hx => by rw [Below.heap_setCell _ _ _ _ (show k ≠ c from hx)]; exact hk, fun k hk => .inl hk⟩⟩
theorem aSize (e : Ex) (cs : List Value) (n : Nat) (w : World) (hn : n ≤ w.heap.size) (he : IsEx n w e cs) (hsz : e.size ≤ 1000000) :
    Calls Tryz.prog 37 #[.agg cs.toArray] w fun e' w' => e' = .returned (.int .i64 e.size) ∧ Below w.heap.size w w' := by
  refine (callsIn_wide (n := 9)).1 ?_
  obtain ⟨pm, cm, pn, cn, pk, ck, rfl, _⟩ := he.cellsE
  have He := Lib.hid he; clear he
  have hall := fun W (h : Below n w W) => aAll e _ n W (He.out.mono h (Nat.le_refl _))
  have Hall := Lib.hid hall; clear hall
  refine callsIn_of_wp_marks Tryz.func37 rfl trivial ?_ rfl; simp only [Tryz.ntmps37, List.size_toArray, List.length_cons, List.length_nil, Nat.reduceAdd, Nat.reduceSub, Array.replicate_succ, Array.replicate_zero, List.push_toArray, List.append_toArray, List.nil_append, List.cons_append]; (try simp only [List.append_eq, List.cons_append, List.nil_append])
  gi_wp2_with ((try refine ⟨trivial, ?_⟩); gi_at_call 39; refine (callsIn_wide.2 (Hall.out _ (((Below.refl n w).alloc hn _).alloc (by simp; omega) _))).mono ?_; rintro e' w' ⟨rfl, rfl⟩)
  obtain ⟨W3, hW3⟩ : ∃ W3, ((w.alloc (.cells ([.int .i64 e.kind, .int .i64 e.fn, .int .i64 e.op, .int .i64 e.num, .string e.metric, .slice pm e.mats.length cm, .int .i64 e.span, .slice pn e.names.length cn, .slice pk e.kids.length ck]).toArray 37)).alloc (.cells #[.int .i64 0] 3)).alloc (.cells ([.int .i64 e.kind, .int .i64 e.fn, .int .i64 e.op, .int .i64 e.num, .string e.metric, .slice pm e.mats.length cm, .int .i64 e.span, .slice pn e.names.length cn, .slice pk e.kids.length ck]).toArray 37) = W3 := ⟨_, rfl⟩
  have hbw : Below w.heap.size w W3 := by rw [← hW3]; exact (((Below.refl _ _).alloc (Nat.le_refl _) _).alloc (by simp) _).alloc (by simp; omega) _
  have hsz3 : W3.heap.size = w.heap.size + 3 := by rw [← hW3]; simp
  have hc0 : W3.cell? ⟨w.heap.size + 1, 0, none⟩ = some (.int .i64 0) := by rw [← hW3]; simp [go_sem]
  have hf0 : W3.frozen? ⟨w.heap.size + 1, 0, none⟩ = false := by rw [← hW3]; simp [go_sem]
  have hB3 : Box W3 (w.heap.size + 2) ([.int .i64 e.kind, .int .i64 e.fn, .int .i64 e.op, .int .i64 e.num, .string e.metric, .slice pm e.mats.length cm, .int .i64 e.span, .slice pn e.names.length cn, .slice pk e.kids.length ck]) := by
    have := Box.new ((w.alloc (.cells ([.int .i64 e.kind, .int .i64 e.fn, .int .i64 e.op, .int .i64 e.num, .string e.metric, .slice pm e.mats.length cm, .int .i64 e.span, .slice pn e.names.length cn, .slice pk e.kids.length ck]).toArray 37)).alloc (.cells #[.int .i64 0] 3)) ([.int .i64 e.kind, .int .i64 e.fn, .int .i64 e.op, .int .i64 e.num, .string e.metric, .slice pm e.mats.length cm, .int .i64 e.span, .slice pn e.names.length cn, .slice pk e.kids.length ck]) 37; rw [hW3] at this
    simpa using this
  rw [hW3]
  have HW3 := Lib.hid hW3; clear hW3
  have Hsz3 := Lib.hid hsz3; clear hsz3
  have hn3 : n ≤ W3.heap.size := by have := Hsz3.out; omega
  have hc3 : w.heap.size + 1 < W3.heap.size := by have := Hsz3.out; omega
  refine wpIn_rangeFunc_ownF rfl (by omega) (gf := 56) (lb := #[.pointer (some ⟨w.heap.size + 2, 0, none⟩)]) rfl trivial (enters_of Tryz.func56 (by kernel_rfl) rfl)
    (allStops (dirtyC (n₀ := n) (c := w.heap.size + 1) (by omega)) 8 e _ W3 (w.heap.size + 2) He.out (Cells.of_below (hbw.mono hn)) hB3 hn3 (fun W hW => Nat.lt_of_lt_of_le hc3 hW.size)) (fun h k => h.trans k)
    (fun W l o o' _ ho hcl _ => KpX.put (dirtyC (n₀ := n) (by omega)) W l o o' ho hcl) (Below.refl _ _) (fun _ => rfl)
    (fun pre W => (W.cell? ⟨w.heap.size + 1, 0, none⟩ = some (.int .i64 pre.length) ∧ W.frozen? ⟨w.heap.size + 1, 0, none⟩ = false) ∧ Below w.heap.size w W)
    (fun _ _ _ => False)
    (OwnFrom.and (Own.from (fun s A B row hs hg hr => ⟨cell_kept hs.1 hg hr, (frozen_kept hs.1 hg hr).trans hs.2⟩) _) (ownFrom_below (Nat.le_refl _) (by have := Hsz3.out; omega)))
    (fun _ _ _ _ _ hs _ _ => hs)
    ⟨⟨hc0, hf0⟩, hbw⟩
    (fun x => { tmps := #[.agg ([.int .i64 e.kind, .int .i64 e.fn, .int .i64 e.op, .int .i64 e.num, .string e.metric, .slice pm e.mats.length cm, .int .i64 e.span, .slice pn e.names.length cn, .slice pk e.kids.length ck]).toArray, .pointer (some ⟨w.heap.size, 0, none⟩), .int .i64 0, .pointer (some ⟨w.heap.size + 1, 0, none⟩), .agg ([.int .i64 e.kind, .int .i64 e.fn, .int .i64 e.op, .int .i64 e.num, .string e.metric, .slice pm e.mats.length cm, .int .i64 e.span, .slice pn e.names.length cn, .slice pk e.kids.length ck]).toArray, .func (.func 56) #[] #[.pointer (some ⟨w.heap.size + 2, 0, none⟩)], .agg x.1.2.toArray, undef, undef, undef], defers := [] })
    ?assign ?body ?done ?stop
  case assign =>
    intro l x W K hK
    gi_wp2
    simpa using hK
  case body =>
    rintro l pre x W ⟨⟨hc, hf⟩, hb⟩ hlen
    gi_wp2
    refine ⟨KeepsOthers.setCell _ _ _, KpX.setC _ _ _, ⟨?_, ?_⟩, hb.setCell (p := ⟨w.heap.size + 1, 0, none⟩) (by simp) _⟩
    · rw [World.cell?_setCell_same' _ _ _ (by rw [hc]; rfl)]
      simp
    · rw [World.frozen?_setCell]; exact hf
  case done =>
    rintro D ys W hD hys ⟨⟨hc, hf⟩, hb⟩ hK
    gi_wp2
    refine ⟨by simp, .inl ⟨_, _, rfl, run_takeDeferred hK, ?_⟩⟩; refine ⟨_, results_tmp rfl _ _ _, ?_⟩; refine ⟨ret_int ?_, hb.trans (belowK_b (w := w) (Nat.le_refl _) W D _ _ (by have := Hsz3.out; omega) hK rfl rfl)⟩; have h1 := congrArg List.length hys; simp only [exs, List.length_map, flat_length] at h1; rw [h1]
  case stop =>
    rintro D c pre W _ _ h _; exact h.elim
end Go.Proofs.YtdjdikiimhhjpaaGreatDoor
namespace Go.Proofs.YtdjdikiimhhjpaaGreatDoor
open Go.RowKit
set_option linter.unusedSimpArgs false
set_option linter.unusedVariables false
def IsQs (n : Nat) (w : World) (v : Value) (l : List (Int × Ex)) : Prop :=
  ∃ rows : List (List Value), Arr n w v 10 rows ∧ rows.length = l.length ∧ ∀ (k : Nat) (r : List Value) (q : Int × Ex), rows[k]? = some r → l[k]? = some q → ∃ cs, r = .int .i64 q.1 :: cs ∧ IsEx n w q.2 cs
theorem IsQs.mono {n m : Nat} {w w' : World} {v : Value} {l : List (Int × Ex)} (h : IsQs n w v l) (hb : Below n w w') (hm : n ≤ m) : IsQs m w' v l := by
  obtain ⟨rows, h1, h2, h3⟩ := h
  exact ⟨rows, h1.mono hb hm, h2, fun k r q hr hq => by obtain ⟨cs, e, he⟩ := h3 k r q hr hq; exact ⟨cs, e, he.mono hb hm⟩⟩
theorem IsQs.open {n : Nat} {w : World} {v : Value} {l : List (Int × Ex)} (h : IsQs n w v l) : ∃ p cap, v = .slice p l.length cap ∧ l.length ≤ cap ∧ cap ≤ maxLen ∧ l.length ≤ maxLen := by
  obtain ⟨rows, ⟨p, cap, hv, h1, h2, _⟩, h3, _⟩ := h
  rw [h3] at hv h1
  exact ⟨p, cap, hv, h1, h2, by omega⟩
theorem IsQs.nil (n : Nat) (w : World) : IsQs n w (.slice none 0 0) [] := ⟨[], Arr.nil _ _ _, rfl, fun k r q hr _ => by simp at hr⟩
theorem IsQs.get {n : Nat} {w : World} {p : Option Addr} {len cap : Nat} {l : List (Int × Ex)} (h : IsQs n w (.slice p len cap) l) {k : Nat} (hk : k < l.length) :
    ∃ b off pm cm pn cn pk ck, p = some ⟨b, off, none⟩ ∧ b < n ∧ IsEx n w l[k].2 [.int .i64 l[k].2.kind, .int .i64 l[k].2.fn, .int .i64 l[k].2.op, .int .i64 l[k].2.num, .string l[k].2.metric, .slice pm l[k].2.mats.length cm, .int .i64 l[k].2.span, .slice pn l[k].2.names.length cn, .slice pk l[k].2.kids.length ck] ∧
      w.cell? ⟨b, off + k * 10, none⟩ = some (.int .i64 l[k].1) ∧ w.cell? ⟨b, off + k * 10 + 1, none⟩ = some (.int .i64 l[k].2.kind) ∧ w.cell? ⟨b, off + k * 10 + 2, none⟩ = some (.int .i64 l[k].2.fn) ∧ w.cell? ⟨b, off + k * 10 + 3, none⟩ = some (.int .i64 l[k].2.op) ∧ w.cell? ⟨b, off + k * 10 + 4, none⟩ = some (.int .i64 l[k].2.num) ∧ w.cell? ⟨b, off + k * 10 + 5, none⟩ = some (.string l[k].2.metric) ∧ w.cell? ⟨b, off + k * 10 + 6, none⟩ = some (.slice pm l[k].2.mats.length cm) ∧ w.cell? ⟨b, off + k * 10 + 7, none⟩ = some (.int .i64 l[k].2.span) ∧ w.cell? ⟨b, off + k * 10 + 8, none⟩ = some (.slice pn l[k].2.names.length cn) ∧ w.cell? ⟨b, off + k * 10 + 9, none⟩ = some (.slice pk l[k].2.kids.length ck) := by
  obtain ⟨rows, h1, h2, h3⟩ := h
  obtain ⟨cs, hr, he⟩ := h3 k (rows[k]'(by omega)) l[k] (by simp) (by simp)
  obtain ⟨pm, cm, pn, cn, pk, ck, rfl, -⟩ := he.cellsE
  obtain ⟨b, off, hp, hb, hc⟩ := h1.at k _ (by rw [List.getElem?_eq_getElem (by omega), hr])
  exact ⟨b, off, pm, cm, pn, cn, pk, ck, hp, hb, he, hc 0 _ rfl, hc 1 _ rfl, hc 2 _ rfl, hc 3 _ rfl, hc 4 _ rfl, hc 5 _ rfl, hc 6 _ rfl, hc 7 _ rfl, hc 8 _ rfl, hc 9 _ rfl⟩
end Go.Proofs.YtdjdikiimhhjpaaGreatDoor
