/- Numbers are put behind numbers; truths in memory; a query's cells in a later world. -/
import Derived.Test.YtdjdikiimhhjpaaGreatDoorK30
import Derived.Test.YtdjdikiimhhjpaaGreatDoorK33
import Derived.Test.YtdjdikiimhhjpaaGreatDoorK15
import Derived.Test.YtdjdikiimhhjpaaGreatDoorK42
import Derived.Test.YtdjdikiimhhjpaaGreatDoorK1
set_option maxRecDepth 100000
set_option maxHeartbeats 16000000
namespace Go.Proofs.YtdjdikiimhhjpaaGreatDoor
open Go.RowKit
set_option linter.unusedSimpArgs false
set_option linter.unusedVariables false
theorem app_isg {ops : Array Oper} {rest : List Oper} {o : Oper} {a : Act} {w : World} {Q : Exit → Act → World → Prop} (hgd : Region.wanted o (yielded ops a.tmps) = true) (s x : Operand)
    (ho : o.op = .call { callee := .builtin .append, args := #[s, x], argTypes := #[26, 26] }) (base : Nat) (v vs : Value) (l l2 : List Int)
    (hs : a.eval s = v) (hx : a.eval x = vs) (hown : OwnI 3 base w v l) (hsrc : Src w vs 1 l2.length (l2.map fun i => Value.int .i64 i))
    (hl : l.length + l2.length ≤ 1000000) (hbase : base ≤ w.heap.size)
    (h : ∀ v' w', OwnI 3 base w' v' (l ++ l2) → w.grownBy w' v.ownBlock → (v'.ownBlock = v.ownBlock ∨ v'.ownBlock = some w.heap.size) → Below base w w' → wpList Tryz.prog ops Q rest (a.put o.dst v') w') :
    wpList Tryz.prog ops Q (o :: rest) a w := by
  obtain ⟨i0, hi, hz0, hz1, hz2⟩ := info_parts infoI64
  refine wpList_step fun K hK => ?_
  rw [if_pos hgd]
  refine wp_append_src w s x 26 ho base 3 i0 (.int .i64 0) 1 8 Tryz.underlying26 hi hz0 hz1 hz2 rfl (by decide) v l.length _ hs hown _ l2.length _ hx hsrc (ints_one l2) (by unfold maxLen; omega) (by omega) hbase ?_
  intro v' w' g1 g2 g3
  refine hK _ _ (h v' w' ?_ g2 g3 (below_app (Below.refl _ _) hown g2 (Nat.le_refl _) hbase))
  unfold OwnI
  rw [List.length_append, List.map_append]
  exact g1
theorem OwnI.emptyT (W : World) : OwnI 3 W.heap.size (W.alloc (.cells #[] 3)) (.slice (some ⟨W.heap.size, 0, none⟩) 0 0) [] := own_emptyT 3 1 W
theorem OwnI.src {t base : Nat} {w : World} {v : Value} {l : List Int} (h : OwnI t base w v l) : Src w v 1 l.length (l.map fun i => Value.int .i64 i) := Src.of_own h
theorem IsInts.getAt {n : Nat} {w : World} {p : Option Addr} {len cap : Nat} {l : List Int} (h : IsInts n w (.slice p len cap) l) {k : Nat} {x : Int} (hk : l[k]? = some x) :
    ∃ b off, p = some ⟨b, off, none⟩ ∧ b < n ∧ w.cell? ⟨b, off + k, none⟩ = some (.int .i64 x) := by
  have hlt := (List.getElem?_eq_some_iff.1 hk).1
  obtain ⟨b, off, h1, h2, h3⟩ := h.get hlt
  rw [(List.getElem?_eq_some_iff.1 hk).2] at h3
  exact ⟨b, off, h1, h2, h3⟩
theorem IsBools.open {n : Nat} {w : World} {v : Value} {l : List Bool} (h : IsBools n w v l) : ∃ p cap, v = .slice p l.length cap ∧ l.length ≤ cap ∧ cap ≤ maxLen ∧ l.length ≤ maxLen := by
  obtain ⟨p, cap, hv, h1, h2, _⟩ := h
  simp only [List.length_map] at hv h1
  exact ⟨p, cap, hv, h1, h2, by omega⟩
theorem IsBools.get {n : Nat} {w : World} {p : Option Addr} {len cap : Nat} {l : List Bool} (h : IsBools n w (.slice p len cap) l) {k : Nat} (hk : k < l.length) :
    ∃ b off, p = some ⟨b, off, none⟩ ∧ b < n ∧ w.cell? ⟨b, off + k, none⟩ = some (.bool l[k]) := by
  obtain ⟨b, off, hp, hb, hc⟩ := h.at k [.bool l[k]] (by simp [hk])
  exact ⟨b, off, hp, hb, by simpa using hc 0 _ rfl⟩
theorem IsBools.mono {n m : Nat} {w w' : World} {v : Value} {l : List Bool} (h : IsBools n w v l) (hb : Below n w w') (hm : n ≤ m) : IsBools m w' v l := Arr.mono h hb hm
theorem q_at9 {w : World} {b o : Nat} {ev : Int} {x : Ex} {pm pn pk : Option Addr} {cm cn ck : Nat} (hb : b < w.heap.size)
    (c0 : w.cell? ⟨b, o, none⟩ = some (.int .i64 ev)) (c1 : w.cell? ⟨b, o + 1, none⟩ = some (.int .i64 x.kind)) (c2 : w.cell? ⟨b, o + 2, none⟩ = some (.int .i64 x.fn)) (c3 : w.cell? ⟨b, o + 3, none⟩ = some (.int .i64 x.op)) (c4 : w.cell? ⟨b, o + 4, none⟩ = some (.int .i64 x.num)) (c5 : w.cell? ⟨b, o + 5, none⟩ = some (.string x.metric)) (c6 : w.cell? ⟨b, o + 6, none⟩ = some (.slice pm x.mats.length cm)) (c7 : w.cell? ⟨b, o + 7, none⟩ = some (.int .i64 x.span)) (c8 : w.cell? ⟨b, o + 8, none⟩ = some (.slice pn x.names.length cn)) (c9 : w.cell? ⟨b, o + 9, none⟩ = some (.slice pk x.kids.length ck)) :
    ∀ Y, Below w.heap.size w Y → Y.cell? ⟨b, o, none⟩ = some (.int .i64 ev) ∧ Y.cell? ⟨b, o + 1, none⟩ = some (.int .i64 x.kind) ∧ Y.cell? ⟨b, o + 1 + 1, none⟩ = some (.int .i64 x.fn) ∧ Y.cell? ⟨b, o + 1 + 2, none⟩ = some (.int .i64 x.op) ∧ Y.cell? ⟨b, o + 1 + 3, none⟩ = some (.int .i64 x.num) ∧ Y.cell? ⟨b, o + 1 + 4, none⟩ = some (.string x.metric) ∧ Y.cell? ⟨b, o + 1 + 5, none⟩ = some (.slice pm x.mats.length cm) ∧ Y.cell? ⟨b, o + 1 + 6, none⟩ = some (.int .i64 x.span) ∧ Y.cell? ⟨b, o + 1 + 7, none⟩ = some (.slice pn x.names.length cn) ∧ Y.cell? ⟨b, o + 1 + 8, none⟩ = some (.slice pk x.kids.length ck) := by
  intro Y hY
  have q : ∀ j u, w.cell? ⟨b, o + j, none⟩ = some u → Y.cell? ⟨b, o + j, none⟩ = some u := fun j u h => (hY.cell (p := ⟨b, o + j, none⟩) hb).trans h
  exact ⟨q 0 _ c0, q 1 _ c1, q 2 _ c2, q 3 _ c3, q 4 _ c4, q 5 _ c5, q 6 _ c6, q 7 _ c7, q 8 _ c8, q 9 _ c9⟩
end Go.Proofs.YtdjdikiimhhjpaaGreatDoor
namespace Go.Proofs.YtdjdikiimhhjpaaGreatDoor
open Go.RowKit
set_option linter.unusedSimpArgs false
set_option linter.unusedVariables false
theorem rOf (l : List (Int × Ex)) (v : Value) (n : Nat) (w : World) (hn : n ≤ w.heap.size) (hq : IsQs n w v l) (hL : Lq l) (hroom : RoomQ l) (hlen : l.length ≤ 1000000) :
    Calls Tryz.prog 7 #[v] w fun e' w' => ∃ vp vr, e' = .returned (.tuple #[vp, vr, .int .i64 (planOf l).2.2]) ∧ IsNds w'.heap.size w' vp (planOf l).1 ∧ OwnI 3 w.heap.size w' vr (planOf l).2.1 ∧ Below w.heap.size w w' := by
  obtain ⟨pp, cp, rfl, _, hcm, hpm⟩ := hq.open
  unfold maxLen at hcm hpm
  have HQ := Lib.hid hq; have HL := Lib.hid hL; have HR := Lib.hid hroom
  clear hq hL hroom
  obtain ⟨P, hP⟩ : ∃ P, planOf l = P := ⟨_, rfl⟩
  rw [hP]
  have HP := Lib.hid hP; clear hP
  go_enter Tryz.func7, Tryz.ntmps7; (try simp only [List.append_eq, List.cons_append, List.nil_append])
  go_wp2_with fail
  go_loopw [5] (fun j wr => ∃ i : Nat, i ≤ l.length ∧ j = .int .i64 i ∧ firstBad (l.take i) = 0 ∧ Below w.heap.size w wr) (fun j _ => l.length - (intOf j).toNat)
  case atStart => exact ⟨0, Nat.zero_le _, rfl, rfl, Below.refl _ _⟩
  case round =>
    obtain ⟨i, hi, rfl, hfb, hb⟩ := hrel; obtain ⟨W0, rfl⟩ : ∃ z, z = wr := ⟨_, rfl⟩; have Hb := Lib.hid hb; have Hfb := Lib.hid hfb; clear hb hfb
    by_cases hlt : i < l.length
    · have hki : (i : Int) < (l.length : Int) := by omega
      obtain ⟨b, off, rm, sm, rn, sn, rk, sk, rfl, hbn, hyx, c0, c1, c2, c3, c4, c5, c6, c7, c8, c9⟩ := (HQ.out.mono (Hb.out.mono hn) (Nat.le_refl _)).get hlt; have HNx := Lib.hid (firstBad_take Hfb.out hlt); have HPre := Lib.hid (fun h => firstBad_pre (l := l) (i := i + 1) h); have HSz := Lib.hid (HL.out.size _ (List.getElem_mem hlt)); have Hyx := Lib.hid hyx; clear hyx; generalize l[i] = q at *; obtain ⟨ev, y⟩ := q; simp only at Hyx HNx HSz c0 c1 c2 c3 c4 c5 c6 c7 c8 c9; have HCk := Lib.hid (rCheck ev y _ n W0 (Nat.le_trans hn Hb.out.size) Hyx.out (by have := HSz.out; omega)); obtain ⟨c, hc⟩ : ∃ c, checkQuery ev y = c := ⟨_, rfl⟩; rw [hc] at HCk HNx; clear hc
      by_cases h0 : c = 0
      · subst h0
        go_wp2_with fail
        refine HCk.out.mono ?_; rintro e' w1 ⟨rfl, hb1⟩; have Hb := Lib.hid (Hb.out.trans (hb1.mono Hb.out.size)); clear hb1 c0 c1 c2 c3 c4 c5 c6 c7 c8 c9; go_wp2; exact ⟨⟨i + 1, by omega, by go_num, HNx.out, Hb.out⟩, by simp [intOf]; omega⟩
      · have hcb : (c != 0) = true := by simpa using h0
        have HE : Hid (P = ([], [], c)) := Lib.hid (by
          have h1 := HPre.out (by rw [HNx.out]; exact h0); rw [HNx.out] at h1; rw [← HP.out, planOf_bad (by rw [h1]; exact h0), h1])
        go_wp2_with fail
        refine HCk.out.mono ?_; rintro e' w1 ⟨rfl, hb1⟩; have Hb := Lib.hid (Hb.out.trans (hb1.mono Hb.out.size)); clear hb1 c0 c1 c2 c3 c4 c5 c6 c7 c8 c9; go_wp2
        go_ret3
        rw [HE.out]; exact ⟨_, _, rfl, IsNds.nil _ _, OwnI.nil, Hb.out⟩
    · have hi2 : i = l.length := by omega
      subst hi2; have hfb := Hfb.out; rw [List.take_length] at hfb; have HF0 := Lib.hid hfb; clear hfb Hfb; have hwb : w.heap.size ≤ W0.heap.size := Hb.out.size
      go_wp2_with fail
      go_loopw [7, 8, 9] (fun vp vr j wr => ∃ (i : Nat) (rows1 : List (List Value)), i ≤ l.length ∧ j = .int .i64 i ∧ NdL (fun b => vr.ownBlock = some b) W0.heap.size wr vp ((putQs (l.take i) []).1.map NX.nd) rows1 ∧ OwnI 3 W0.heap.size wr vr (putQs (l.take i) []).2 ∧ Below w.heap.size w wr ∧ W0.heap.size ≤ wr.heap.size) (fun _ _ j _ => l.length - (intOf j).toNat)
      case atStart =>
        refine ⟨0, [], Nat.zero_le _, rfl, ?_, ?_, Hb.out, Nat.le_refl _⟩
        · rw [List.take_zero]; exact NdL.nil
        · rw [List.take_zero]; exact OwnI.nil
      case round =>
        clear Hb; obtain ⟨i, rows1, hi, rfl, hnd, hvi, hbw, hsx⟩ := hrel; obtain ⟨W1, rfl⟩ : ∃ z, z = wr := ⟨_, rfl⟩; have HNd := Lib.hid hnd; have HVi := Lib.hid hvi; have Hbw := Lib.hid hbw; clear hnd hvi hbw
        by_cases hlt : i < l.length
        · have hki : (i : Int) < (l.length : Int) := by omega
          obtain ⟨b, off, rm, sm, rn, sn, rk, sk, rfl, hbn, hyx, c0, c1, c2, c3, c4, c5, c6, c7, c8, c9⟩ := HQ.out.get hlt; have HCq := Lib.hid (q_at9 (Nat.lt_of_lt_of_le hbn hn) c0 c1 c2 c3 c4 c5 c6 c7 c8 c9); clear c0 c1 c2 c3 c4 c5 c6 c7 c8 c9 hbn; have hmem := List.getElem_mem hlt; have HSt := Lib.hid (show putQs (l.take (i + 1)) [] = ((putX l[i].1 l[i].2 (putQs (l.take i) []).1).1, (putQs (l.take i) []).2 ++ [(putX l[i].1 l[i].2 (putQs (l.take i) []).1).2]) from by rw [List.take_succ_eq_append_getElem hlt]; exact putQs_snoc l[i] (l.take i) []); have HSame := Lib.hid (putN_same l[i].1 l[i].2 (putQs (l.take i) []).1 (putQs_inv (l.take i) [] Inv.nil)); have HRoom := Lib.hid (HR.out i hlt); have HGrow := Lib.hid (putX_grow l[i].1 l[i].2 (putQs (l.take i) []).1); have HTh := Lib.hid (HL.out.thin _ hmem); have HVl := Lib.hid (show (putQs (l.take i) []).2.length = i from by have h1 := putQs_len2 (l.take i) []; rw [List.length_take] at h1; omega); have Hyx := Lib.hid hyx; clear hyx hmem; generalize l[i] = q at *; obtain ⟨ev, y⟩ := q; simp only at Hyx HSt HSame HRoom HGrow HTh HCq; obtain ⟨Li, hLi⟩ : ∃ z, (putQs (l.take i) []).1 = z := ⟨_, rfl⟩; obtain ⟨vl, hvl⟩ : ∃ z, (putQs (l.take i) []).2 = z := ⟨_, rfl⟩; rw [hLi] at HNd HSt HRoom HSame HGrow; rw [hvl] at HVi HSt HVl; clear hLi hvl; have hd : Below W1.heap.size W1 W1.drew := Below.drew (Below.refl _ _); have HS := Lib.hid (Hbw.out.trans (hd.mono Hbw.out.size)); have HNd := Lib.hid (HNd.out.keep hd); have HVi := Lib.hid (HVi.out.keep hd); obtain ⟨a1, cv1, hv1⟩ := ownsRow_slice HNd.out.1; subst hv1; rw [List.length_map] at *
          go_upto_region 13 with fail
          refine wp_region_held_drew (S := fun Y => Below w.heap.size w Y) (by kernel_rfl) HS.out (fun hHeld => ?_); obtain ⟨Wd, hWd⟩ : ∃ z, W1.drew = z := ⟨_, rfl⟩; have hsd := hd.size; rw [hWd] at HS HNd HVi hsd hHeld ⊢; clear hWd hd; have HCall := Lib.hid (rPut n W0.heap.size (Nat.le_trans hn hwb) y _ ev _ Wd (Li.map NX.nd) _ _ HNd.out (fun b hb => by have := ownsRow_block HVi.out b hb; omega) (by omega) (Hyx.out.mono (HS.out.mono hn) (Nat.le_refl _)) HTh.out (by rw [List.length_map]; have := HRoom.out; omega)); rw [HSame.out] at HCall
          (refine htk 0 32 ?_ rfl ?_ ?_; rotate_left; (intro w hSw; clear hSw; go_simp); (try with_reducible rfl); simp only [lsz, lss])
          (refine htk 1 33 ?_ rfl ?_ ?_; rotate_left; (intro w hSw; clear hSw; go_simp); (try with_reducible rfl); simp only [lsz, lss])
          (refine htk 2 34 ?_ rfl ?_ ?_; rotate_left; (intro w hSw; clear hSw; go_simp); (try with_reducible rfl); simp only [lsz, lss])
          (refine htk 3 35 ?_ rfl ?_ ?_; rotate_left; (intro w hSw; clear hSw; go_simp); (try with_reducible rfl); simp only [lsz, lss])
          (refine htk 4 36 ?_ rfl ?_ ?_; rotate_left; (intro w hSw; clear hSw; go_simp); (try with_reducible rfl); simp only [lsz, lss])
          (refine htk 5 37 (.int .i64 ev) rfl ?_ ?_; (intro w hSw; obtain ⟨q, q0, q1, q2, q3, q4, q5, q6, q7, q8⟩ := HCq.out _ hSw; go_simp); simp only [lsz, lss])
          (refine htk 6 38 ?_ rfl ?_ ?_; rotate_left; (intro w hSw; clear hSw; go_simp); (try with_reducible rfl); simp only [lsz, lss])
          (refine htk 7 39 ?_ rfl ?_ ?_; rotate_left; (intro w hSw; clear hSw; go_simp); (try with_reducible rfl); simp only [lsz, lss])
          (refine htk 8 40 ?_ rfl ?_ ?_; rotate_left; (intro w hSw; clear hSw; go_simp); (try with_reducible rfl); simp only [lsz, lss])
          (refine htk 9 41 ?_ rfl ?_ ?_; rotate_left; (intro w hSw; clear hSw; go_simp); (try with_reducible rfl); simp only [lsz, lss])
          (refine htk 10 42 (.agg #[.int .i64 y.kind, .int .i64 y.fn, .int .i64 y.op, .int .i64 y.num, .string y.metric, .slice rm y.mats.length sm, .int .i64 y.span, .slice rn y.names.length sn, .slice rk y.kids.length sk]) rfl ?_ ?_; (intro w hSw; obtain ⟨q, q0, q1, q2, q3, q4, q5, q6, q7, q8⟩ := HCq.out _ hSw; go_simp); simp only [lsz, lss])
          refine hrd 11 rfl (fun K hK => ?_); rw [if_pos (by kernel_rfl)]
          go_simp
          refine HCall.out.mono ?_; rintro e' W2 ⟨v2, rows2, rfl, hnd2, ho2, hv2⟩; obtain ⟨a2, cv2, hv2q⟩ := ownsRow_slice hnd2.1; rw [List.length_map] at hv2q; subst hv2q; have HNd2 := Lib.hid hnd2; have Ho2 := Lib.hid ho2; have Hv2 := Lib.hid hv2; have HS := Lib.hid (HS.out.trans (ho2.below (fun b hb => by have := (ownsRow_block HNd.out.1 b hb).1; omega) HS.out.size)); clear hnd2 ho2 hv2 HCall
          dsimp only
          refine hK.out _ _ HS.out (fun hHeld => ?_); clear hK K
          (try simp only [Act.put, lsa, lsz, lss])
          (refine htk 12 31 ?_ rfl ?_ ?_; rotate_left; (intro w hSw; clear hSw; go_simp); (try with_reducible rfl); simp only [lsz, lss])
          (refine htk 13 44 ?_ rfl ?_ ?_; rotate_left; (intro w hSw; clear hSw; go_simp); (try with_reducible rfl); simp only [lsz, lss])
          (refine htk 14 45 ?_ rfl ?_ ?_; rotate_left; (intro w hSw; clear hSw; go_simp); (try with_reducible rfl); simp only [lsz, lss])
          (refine htk 15 7 ?_ rfl ?_ ?_; rotate_left; (intro w hSw; clear hSw; go_simp); (try with_reducible rfl); simp only [lsz, lss])
          (refine htk 16 10 ?_ rfl ?_ ?_; rotate_left; (intro w hSw; clear hSw; go_simp); (try with_reducible rfl); simp only [lsz, lss])
          refine wpAnyH_done (by kernel_rfl) ?_ _; have hvi2 : OwnI 3 W0.heap.size W2 u8 vl := HVi.out.offM Ho2.out (fun b hb h => own_ne HVi.out HNd.out.1 (by decide) hb h); have hs2 : W0.heap.size ≤ W2.heap.size := by have := Ho2.out.size; omega
          have hlen2 : vl.length ≤ 1000000 := by have := HVl.out; omega
          have hgt : ¬ (1000 : Int) < ((putX ev y Li).1.length : Int) := by
            obtain ⟨R, r1, r2⟩ := HGrow.out; have := HRoom.out; rw [r1, List.length_append]; omega
          have HVi2 := Lib.hid hvi2; clear hvi2 HVi HNd Ho2 Hv2 HGrow HRoom hHeld; generalize hr : (putX ev y Li).2 = r; have Hr := Lib.hid hr; clear hr
          go_wp2_with (at_builtin; refine app_int rfl _ _ rfl W0.heap.size _ vl r W2.heap.size rfl rfl (HVi2.out.keep ((Below.refl _ _).alloc (Nat.le_refl _) _)) (by go_simp) hlen2 (by simp; omega) ?_)
          intro vi' w4 hown4 hg4 hat4; have bA : Below W2.heap.size W2 (W2.alloc (.cells #[.int .i64 r] 3)) := (Below.refl _ _).alloc (Nat.le_refl _) _; have hzA : (W2.alloc (.cells #[.int .i64 r] 3)).heap.size = W2.heap.size + 1 := World.size_alloc _ _; obtain ⟨A, hA⟩ : ∃ z, W2.alloc (.cells #[.int .i64 r] 3) = z := ⟨_, rfl⟩; rw [hA] at bA hzA hg4; clear hA; have hkA := HNd2.out.keep bA; have hviA := HVi2.out.keep bA; have hoG : OffM (fun k => u8.ownBlock = some k) A w4 := OffM.grown hg4; have hu : ∀ b, u8.ownBlock = some b → W0.heap.size ≤ b := fun b hb => (ownsRow_block hviA b hb).1
          have hk4 : NdL (fun b => vi'.ownBlock = some b) W0.heap.size w4 (.slice a2 (putX ev y Li).1.length cv2) ((putX ev y Li).1.map NX.nd) rows2 := hkA.turn hoG (fun b _ hb => hb) (fun b hb hb' => own_ne hviA hkA.1 (by decide) hb' hb) (fun b hlt hb => by
            rcases hat4 with h1 | h1
            · rw [h1] at hb; exact hb
            · rw [h1] at hb; have := Option.some.inj hb; omega)
          have hbw4 : Below w.heap.size w w4 := (HS.out.trans (bA.mono HS.out.size)).trans (hoG.below (fun b hb => by have := hu b hb; omega) (by have := HS.out.size; have := bA.size; omega)); have hs4 : W0.heap.size ≤ w4.heap.size := by have := hoG.size; omega
          have Hk4 := Lib.hid hk4; have Hbw4 := Lib.hid hbw4; have Hown4 := Lib.hid hown4; clear hk4 hbw4 hown4 bA hzA hkA hviA hoG hu hg4 hat4; go_wp2; refine ⟨⟨i + 1, rows2, by omega, by go_num, ?_, ?_, Hbw4.out, hs4⟩, by simp [intOf]; omega⟩
          · rw [HSt.out]; exact Hk4.out
          · rw [HSt.out, Hr.out]; exact Hown4.out
        · have hi2 : i = l.length := by omega
          subst hi2; have hk2 := HNd.out; have hvi2 := HVi.out; rw [List.take_length] at hk2 hvi2; have hlen3 : (putQs l []).1.length ≤ 1000 := by
            by_cases h0 : l = []
            · subst h0; simp [putQs]
            · have h1 : 0 < l.length := List.length_pos_iff.2 h0
              have h2 := HR.out (l.length - 1) (by omega); have h3 : l.take (l.length - 1 + 1) = l := by rw [List.take_of_length_le]; omega
              have h4 := putQs_snoc l[l.length - 1] (l.take (l.length - 1)) []; rw [← List.take_succ_eq_append_getElem (by omega), h3] at h4; obtain ⟨R, r1, r2⟩ := putX_grow l[l.length - 1].1 l[l.length - 1].2 (putQs (l.take (l.length - 1)) []).1; rw [h4]; simp only [r1, List.length_append]; omega
          have HE : Hid (P = ((putQs l []).1.map NX.nd, (putQs l []).2, 0)) := Lib.hid (by rw [← HP.out]; exact of_plan HF0.out hlen3); have HNd2 := Lib.hid hk2; have HVi2 := Lib.hid hvi2; clear hk2 hvi2 HNd HVi hlen3; have Hwb := Lib.hid hwb; go_wp2
          go_ret3
          rw [HE.out]; exact ⟨_, _, rfl, HNd2.out.nds (Nat.le_refl _), ownsRow_base HVi2.out Hwb.out, Hbw.out⟩
end Go.Proofs.YtdjdikiimhhjpaaGreatDoor
namespace Go.Proofs.YtdjdikiimhhjpaaGreatDoor
open Go.RowKit
set_option linter.unusedSimpArgs false
set_option linter.unusedVariables false
theorem xOf (l : List (Int × Ex)) (pv : Option Addr) (cv : Nat) (W : World) (hT : TB W.heap.size W) (hX : IsQs W.heap.size W (.slice pv l.length cv) l) (nilv : pv = none → cv = 0) (hnum : ∀ q ∈ l, i64 q.1 ∧ q.2.num64) :
    Calls Tryz.prog 3 #[.slice pv l.length cv] W fun e' w' => e' = .returned (.bool true) ∧ Below W.heap.size W w' := by
  have HT := Lib.hid hT; have HX := Lib.hid hX; have HNum := Lib.hid hnum; clear hT hX hnum
  have HB := Lib.hid (Below.refl W.heap.size W)
  go_enter Tryz.func3, Tryz.ntmps3; (try simp only [List.append_eq, List.cons_append, List.nil_append])
  go_wp2_with fail
  refine (lLives W ((HT.out.on HB.out).less HB.out.size)).mono ?_
  rintro e' y1 ⟨rfl, hb⟩
  have HB := Lib.hid (HB.out.trans (hb.mono HB.out.size))
  clear hb
  go_wp2_with fail
  refine (kQueries l _ W.heap.size y1 HB.out.size (HX.out.mono HB.out (Nat.le_refl _))).mono ?_
  rintro e' y2 ⟨b, rfl, hlq, hb⟩
  have HB := Lib.hid (HB.out.trans (hb.mono HB.out.size))
  clear hb
  cases b
  · go_wp2
    go_ret; exact ⟨rfl, HB.out⟩
  obtain ⟨h12, hall⟩ := hlq rfl
  have HLq := Lib.hid (lq_of hall HNum.out)
  clear hlq hall HNum
  have ZHB := Lib.hid HB.out.size
  have hbz : y2.heap.size ≤ (y2.alloc (.cells #[] 44)).heap.size := by simp
  have hb0 : Below y2.heap.size y2 (y2.alloc (.cells #[] 44)) := (Below.refl _ _).alloc (Nat.le_refl _) _
  have hown := OwnQ.empty W.heap.size y2
  obtain ⟨rows, hsrc, hrl, hrows⟩ := (HX.out.mono (HB.out.trans (hb0.mono HB.out.size)) (Nat.le_refl _)).src nilv
  have hwz := ZHB.out
  go_wp2_with (at_builtin; refine app_qs rfl _ _ rfl W.heap.size (y2.heap.size) _ _ [] l rows rfl rfl hown hsrc hrl hrows (by first | omega | (simp; omega)) hbz hwz ?_)
  intro v1 y3 hown1 hg hat hbel
  clear hg hat hown hsrc hrl hrows
  have HOwn : Hid (OwnQ W.heap.size (y2.heap.size) y3 v1 l) := Lib.hid hown1
  have HBz := Lib.hid (Nat.le_trans hbz hbel.size)
  have HB := Lib.hid ((HB.out.trans (hb0.mono HB.out.size)).trans (hbel.mono ZHB.out))
  clear hown1 hbel hb0 hbz
  have HO := Lib.hid (pOf l v1 y3.heap.size y3 (Nat.le_refl _) (HOwn.out.qs (Nat.le_refl _) HB.out.size) ((HT.out.on HB.out).less HB.out.size) HLq.out (HLq.out.room (by omega)) (by omega))
  clear HOwn HBz ZHB
  have HRf := Lib.hid (fun Z (hZ : Below W.heap.size W Z) => rOf l _ W.heap.size Z hZ.size (HX.out.mono hZ (Nat.le_refl _)) HLq.out (HLq.out.room (by omega)) (by omega))
  obtain ⟨⟨p, ns, c⟩, hP⟩ : ∃ P, planOf l = P := ⟨_, rfl⟩
  rw [hP] at HO HRf
  clear hP
  go_wp2_with fail
  refine (HO.out).mono ?_
  rintro e' y4 ⟨vp, vr, rfl, hp, hr, hb⟩
  have HB := Lib.hid (HB.out.trans (hb.mono HB.out.size))
  clear hb
  have HP := Lib.hid hp; have HR := Lib.hid hr; clear HO hp hr
  have HB1 := Lib.hid (Below.refl y4.heap.size y4)
  go_wp2_with fail
  refine (HRf.out _ HB.out).mono ?_
  rintro e' y5 ⟨vq, vs, rfl, hq, hs, hb⟩
  have HB := Lib.hid (HB.out.trans (hb.mono HB.out.size))
  have HB1 := Lib.hid (HB1.out.trans (hb.mono HB1.out.size))
  clear hb
  have HQ := Lib.hid hq; have HS2 := Lib.hid hs; clear HRf hq hs
  have HB2 := Lib.hid (Below.refl y5.heap.size y5)
  go_wp2_with fail
  refine (kNodes p _ _ y5.heap.size y5 (Nat.le_refl _) (HP.out.mono HB1.out HB1.out.size) (HQ.out.mono HB2.out HB2.out.size)).mono ?_
  rintro e' y6 ⟨rfl, hb⟩
  have HB := Lib.hid (HB.out.trans (hb.mono HB.out.size))
  have HB1 := Lib.hid (HB1.out.trans (hb.mono HB1.out.size))
  have HB2 := Lib.hid (HB2.out.trans (hb.mono HB2.out.size))
  clear hb
  go_wp2_with fail
  refine (kIntsS ns _ _ y6.heap.size y6 (Nat.le_refl _) ((HR.out.ints (Nat.le_refl _)).mono HB1.out HB1.out.size) ((HS2.out.ints (Nat.le_refl _)).mono HB2.out HB2.out.size)).mono ?_
  rintro e' y7 ⟨rfl, hb⟩
  have HB := Lib.hid (HB.out.trans (hb.mono HB.out.size))
  have HB1 := Lib.hid (HB1.out.trans (hb.mono HB1.out.size))
  have HB2 := Lib.hid (HB2.out.trans (hb.mono HB2.out.size))
  clear hb
  go_wp2
  go_ret
  first | exact ⟨rfl, HB.out⟩ | exact ⟨by simp, HB.out⟩
end Go.Proofs.YtdjdikiimhhjpaaGreatDoor
