/- (*maker).put: its loop. (under way) -/
import Derived.Test.YtdjdikiimhhjpaaGreatDoorK29
import Derived.Test.YtdjdikiimhhjpaaGreatDoorK14
import Derived.Test.YtdjdikiimhhjpaaGreatDoorK18
import Derived.Test.YtdjdikiimhhjpaaGreatDoorK28
import Derived.Test.YtdjdikiimhhjpaaGreatDoorK1
import Derived.Test.YtdjdikiimhhjpaaGreatDoorK40
import Derived.Test.YtdjdikiimhhjpaaGreatDoorK11
import Derived.Test.YtdjdikiimhhjpaaGreatDoorK15
import Derived.Test.YtdjdikiimhhjpaaGreatDoorK5
import Derived.Test.YtdjdikiimhhjpaaGreatDoorK7
set_option maxRecDepth 100000
set_option maxHeartbeats 16000000
namespace Go.Proofs.YtdjdikiimhhjpaaGreatDoor
open Go.RowKit
set_option linter.unusedSimpArgs false
set_option linter.unusedVariables false
open Go.Maps
theorem putXs_snoc (ev : Int) (k : Ex) : ∀ (ks : List Ex) (L : List NX), putXs ev (ks ++ [k]) L = ((putX ev k (putXs ev ks L).1).1, (putXs ev ks L).2 ++ [(putX ev k (putXs ev ks L).1).2])
  | [], L => by simp [putXs]
  | a :: ks, L => by rw [List.cons_append, putXs, putXs_snoc ev k ks, putXs]; rfl
theorem NdL.turn {M M' : Nat → Prop} {base : Nat} {w w' : World} {v : Value} {l : List Nd} {rows : List (List Value)} (h : NdL M base w v l rows) {N : Nat → Prop} (ho : OffM N w w') (hN : ∀ b, b < w.heap.size → N b → M b) (hv : ∀ g, v.ownBlock = some g → ¬ N g)
    (hM : ∀ b, b < w.heap.size → M' b → M b) : NdL M' base w' v l rows :=
  ⟨ownsRow_offM h.1 ho hv, h.2.1, fun k r x hr hx => (h.2.2 k r x hr hx).go ho.size (fun b hb hS => ⟨fun hm => hS.1 (hM b hb hm), hS.2⟩) (fun b hb hS => ho.block b hb (fun hn => hS.1 (hN b hb hn)))⟩
theorem Mk.turn {M M' : Nat → Prop} {base g h : Nat} {L : List NX} {v : Value} {rows : List (List Value)} {n : Nat} {D : DataW Unit} {W W' : World} (k : Mk M base g h L v rows n D W) {N : Nat → Prop} (ho : OffM N W W') (hN : ∀ b, N b → M b) (hg : ¬ N g) (hh : ¬ N h) (hv : ∀ b, v.ownBlock = some b → ¬ N b)
    (hM : ∀ b, b < W.heap.size → M' b → M b) (mg : M' g) (mh : M' h) : Mk M' base g h L v rows n D W' :=
  ⟨(ho.block _ k.blk.lt hg).trans k.blk, k.nds.turn ho (fun b _ h => hN b h) hv hM, k.map.keep (ho.block _ k.hlt hh), k.tells, k.few, mg, mh, k.ord⟩
theorem putXs_len (ev : Int) : ∀ (ks : List Ex) (L : List NX), (putXs ev ks L).2.length = ks.length
  | [], L => by rw [putXs]; rfl
  | k :: ks, L => by rw [putXs, List.length_cons, putXs_len ev ks, List.length_cons]
theorem len_sizes : ∀ l : List Ex, l.length ≤ sizes l
  | [] => by simp
  | k :: l => by have := len_sizes l; have := Ex.size_eq k; simp only [sizes, List.length_cons]; omega
def GH (g h : Nat) (v : Value) : Nat → Prop := fun b => b = g ∨ b = h ∨ v.ownBlock = some b
def PutOk (base g h n0 : Nat) (e : Ex) : Prop := ∀ (M : Nat → Prop) (ev : Int) (cs : List Value) (W : World) (L : List NX) (v : Value) (rows : List (List Value)) (n : Nat) (D : DataW Unit),
  Mk M base g h L v rows n D W → (∀ b, M b → b < W.heap.size) → base ≤ W.heap.size → IsEx n0 W e cs → TB n0 W → (∀ x ∈ e.flat, Key64 ev x) → e.thin → L.length + e.size ≤ 999 →
  Calls Tryz.prog 15 #[.pointer (some ⟨g, 0, none⟩), .int .i64 ev, .agg cs.toArray] W fun e' W' => ∃ v' rows' n' D', e' = .returned (.int .i64 (putX ev e L).2) ∧ Mk M base g h (putX ev e L).1 v' rows' n' D' W' ∧ OffM (GH g h v) W W' ∧ (∀ b, v'.ownBlock = some b → v.ownBlock = some b ∨ W.heap.size ≤ b)
theorem infoNp : (Tryz.prog.info? 39).map (fun i => (i.zero, i.size, i.bytes)) = some (some (.agg #[.int .i64 0, .int .i64 0, .int .i64 0, .int .i64 0, .int .i64 0, .string ⟨#[]⟩, .slice none 0 0, .int .i64 0, .slice none 0 0, .slice none 0 0, .slice none 0 0]), 11, 160) := by kernel_rfl
theorem Blk.not_own {w : World} {g t lo e sz n : Nat} {cs : List Value} {v : Value} {xs : List Value} (h : Blk w g t cs) (ho : w.ownsRow lo e sz v n xs) (hne : t ≠ e) : v.ownBlock ≠ some g := by
  intro hg
  rcases ho.2 with ⟨rfl, _⟩ | ⟨g1, c1, u1, rfl, _, hh, _⟩
  · cases hg
  · simp [Value.ownBlock] at hg
    subst hg; have h' : w.heap[g1]? = some (.cells cs.toArray t (0, 0)) := h; rw [hh] at h'
    simp at h'
    exact hne h'.2.symm
theorem Fresh.bare {lo hi : Nat} {w : World} {e : Ex} {c0 c1 c2 c3 c4 vm c6 vn vk : Value} (h : Fresh lo hi w e [c0, c1, c2, c3, c4, vm, c6, vn, vk]) : Fresh lo hi w e.bare [c0, c1, c2, c3, c4, vm, c6, vn, .slice none 0 0] := by
  cases h with
  | mk hs hms hns h1 h2 h3 hl hr => exact .mk hs hms hns h1 h2 (rows := []) ⟨World.ownsRow_nil _ _ _ _, fun g hg => by cases hg⟩ rfl (fun k r e hr => by simp at hr)
theorem idxOf_nat (ev : Int) (e : Ex) (L : List NX) : 0 ≤ idxOf ev e L := by
  unfold idxOf
  split <;> omega
theorem pPut (base g h n0 : Nat) (hng : n0 ≤ g) (hnh : n0 ≤ h) : ∀ e, PutOk base g h n0 e := by
  refine Ex.ind fun e ih => ?_
  intro M ev cs W L v rows n D hk hM hbs he hT hkey hth hsz
  obtain ⟨pm, cm, pn, cn, pk, ck, rfl, -, -, -, hka⟩ := he.cellsE
  have HKids := Lib.hid hka; have He := Lib.hid he; have HT := Lib.hid hT; have HKey := Lib.hid hkey; have HTh := Lib.hid hth; have HM := Lib.hid hM; have Hih := Lib.hid ih; have HMk := Lib.hid hk
  have Hsz := Lib.hid hsz
  obtain ⟨_, _, hkv, _, _, hkl⟩ := hka.open
  unfold maxLen at hkl
  clear hka he hT hkey hth hM ih hk hsz hkv
  go_enter Tryz.func15, Tryz.ntmps15; (try simp only [List.append_eq, List.cons_append, List.nil_append])
  go_upto_region 2 with fail
  obtain ⟨X, hW⟩ : ∃ z, W.alloc (.cells #[.int .i64 e.kind, .int .i64 e.fn, .int .i64 e.op, .int .i64 e.num, .string e.metric, .slice pm e.mats.length cm, .int .i64 e.span, .slice pn e.names.length cn, .slice pk e.kids.length ck] 37) = z := ⟨_, rfl⟩
  have B1 : Blk X W.heap.size 37 [.int .i64 e.kind, .int .i64 e.fn, .int .i64 e.op, .int .i64 e.num, .string e.metric, .slice pm e.mats.length cm, .int .i64 e.span, .slice pn e.names.length cn, .slice pk e.kids.length ck] := by rw [← hW]; exact Blk.new W _ _
  have bX : Below W.heap.size W X := by rw [← hW]; exact (Below.refl _ _).alloc (Nat.le_refl _) _
  have hzX : X.heap.size = W.heap.size + 1 := by rw [← hW]; simp
  rw [hW]; clear hW
  have HB1 := Lib.hid B1; have HbX := Lib.hid bX; have HZX := Lib.hid hzX
  have d8 := B1.cell 8 _ rfl
  clear B1 bX hzX
  go_upto_region 3 with fail
  clear d8
  go_loopw [7, 17] (fun vi j wr => ∃ (i : Nat) (v1 : Value) (rows1 : List (List Value)) (n1 : Nat) (D1 : DataW Unit), i ≤ e.kids.length ∧ j = .int .i64 i ∧ Mk (fun b => M b ∨ b = W.heap.size ∨ vi.ownBlock = some b) base g h (putXs ev (e.kids.take i) L).1 v1 rows1 n1 D1 wr ∧ OwnI 3 X.heap.size wr vi (putXs ev (e.kids.take i) L).2 ∧ OffM (GH g h v) W wr ∧ (∀ b, v1.ownBlock = some b → v.ownBlock = some b ∨ X.heap.size ≤ b) ∧ Blk wr W.heap.size 37 [.int .i64 e.kind, .int .i64 e.fn, .int .i64 e.op, .int .i64 e.num, .string e.metric, .slice pm e.mats.length cm, .int .i64 e.span, .slice pn e.names.length cn, .slice pk e.kids.length ck] ∧ X.heap.size ≤ wr.heap.size) (fun _ j _ => e.kids.length - (intOf j).toNat)
  case atStart =>
    have h0 : putXs ev (e.kids.take 0) L = (L, []) := by rw [List.take_zero, putXs]
    refine ⟨0, v, rows, n, D, Nat.zero_le _, rfl, ?_, by rw [h0]; exact OwnI.nil, OffM.of HbX.out, fun b h => Or.inl h, HB1.out, Nat.le_refl _⟩; rw [h0]; exact HMk.out.more HbX.out (Or.inl HMk.out.mg) (Or.inl HMk.out.mh) (fun b hb h => by
      rcases h with h | h | h
      · exact h
      · omega
      · cases h)
  case round =>
    clear HB1; obtain ⟨i, v1, rows1, n1, D1, hi, rfl, hmk, hvi, ho, hv1, hB, hsx⟩ := hrel; obtain ⟨W0, rfl⟩ : ∃ z, z = wr := ⟨_, rfl⟩; have HMk1 := Lib.hid hmk; have HVi := Lib.hid hvi; have Ho := Lib.hid ho; have Hv1 := Lib.hid hv1; have HB := Lib.hid hB; clear hmk hvi ho hv1 hB; have hn0 : Below n0 W W0 := Ho.out.below (fun b hb => by
      have h1 := HMk.out.row; have h2 := HMk.out.ord; rcases hb with rfl | rfl | hb
      · exact hng
      · exact hnh
      · have := (h1 b hb).1; omega) (by have := HMk.out.ord; omega)
    have HN0 := Lib.hid hn0; clear hn0
    by_cases hlt : i < e.kids.length
    · have hki : (i : Int) < (e.kids.length : Int) := by omega
      obtain ⟨b, off, rm, sm, rn, sn, rk, sk, rfl, hbn, hyx, c0, c1, c2, c3, c4, c5, c6, c7, c8⟩ := (HKids.out.mono HN0.out (Nat.le_refl _)).getE (Cells.refl _ _) hlt; have hst := putXs_snoc ev e.kids[i] (e.kids.take i) L; rw [← List.take_succ_eq_append_getElem hlt] at hst; have Hst := Lib.hid hst; clear hst; have HIH := Lib.hid (Hih.out e.kids[i] (List.getElem_mem hlt)); have HKy := Lib.hid (fun x (hx : x ∈ e.kids[i].flat) => HKey.out x (kid_part (List.getElem_mem hlt) x hx)); have HTy := Lib.hid (Ex.thin_kid HTh.out hlt); have hgrow := putXs_grow ev (e.kids.take i) L; have hroom : (putXs ev (e.kids.take i) L).1.length + e.kids[i].size ≤ 999 := by
        obtain ⟨R, h1, h2⟩ := hgrow; have h3 := sizes_step (l := e.kids) hlt; have h4 := sizes_take_le e.kids (i + 1); have h5 := Ex.size_eq e; have h6 := Hsz.out; rw [h1, List.length_append]; omega
      have hvl : (putXs ev (e.kids.take i) L).2.length = i := by rw [putXs_len, List.length_take]; omega
      have Hroom := Lib.hid hroom; have Hvl := Lib.hid hvl; clear hgrow hroom hvl; generalize e.kids[i] = y at *; obtain ⟨Li, hLi⟩ : ∃ z, (putXs ev (e.kids.take i) L).1 = z := ⟨_, rfl⟩; obtain ⟨vl, hvl⟩ : ∃ z, (putXs ev (e.kids.take i) L).2 = z := ⟨_, rfl⟩; rw [hLi] at HMk1 Hst Hroom; rw [hvl] at HVi Hst Hvl; clear hLi hvl; have Hyx := Lib.hid hyx; clear hyx
      go_upto_region 5 with fail
      clear c0 c1 c2 c3 c4 c5 c6 c7 c8; obtain ⟨X9, hW⟩ : ∃ z, W0.alloc (.cells #[.int .i64 y.kind, .int .i64 y.fn, .int .i64 y.op, .int .i64 y.num, .string y.metric, .slice rm y.mats.length sm, .int .i64 y.span, .slice rn y.names.length sn, .slice rk y.kids.length sk] 37) = z := ⟨_, rfl⟩; have B9 : Blk X9 W0.heap.size 37 [.int .i64 y.kind, .int .i64 y.fn, .int .i64 y.op, .int .i64 y.num, .string y.metric, .slice rm y.mats.length sm, .int .i64 y.span, .slice rn y.names.length sn, .slice rk y.kids.length sk] := by rw [← hW]; exact Blk.new W0 _ _
      have b9 : Below W0.heap.size W0 X9 := by rw [← hW]; exact (Below.refl _ _).alloc (Nat.le_refl _) _
      rw [hW]; clear hW; have hMw : ∀ b, M b → b < W.heap.size := HM.out; have hvo : ∀ b, u7.ownBlock = some b → X.heap.size ≤ b ∧ b < W0.heap.size := fun b hb => ownsRow_block HVi.out b hb
      have hn0w : n0 ≤ W.heap.size := by have := HMk.out.ord; omega
      have HCall := Lib.hid (HIH.out _ ev _ X9 _ _ _ _ _ (HMk1.out.keep b9) (fun b hb => by
        have := b9.size; have := HbX.out.size; rcases hb with hb | hb | hb
        · have := hMw b hb; omega
        · have := HZX.out; omega
        · have := (hvo b hb).2; omega) (by have := b9.size; have := HbX.out.size; omega) (Hyx.out.mono (b9.mono (Nat.le_trans hn0w HN0.out.size)) (Nat.le_refl _)) ((HT.out.on HN0.out).on (b9.mono (Nat.le_trans hn0w HN0.out.size))) HKy.out HTy.out Hroom.out)
      have HB9 := Lib.hid b9; have c := B9; have c0 := c.cell 0 _ rfl; have c1 := c.cell 1 _ rfl; have c2 := c.cell 2 _ rfl; have c3 := c.cell 3 _ rfl; have c4 := c.cell 4 _ rfl; have c5 := c.cell 5 _ rfl; have c6 := c.cell 6 _ rfl; have c7 := c.cell 7 _ rfl; have c8 := c.cell 8 _ rfl; clear c B9 b9 hMw hvo
      go_wp2_with fail
      refine HCall.out.mono ?_; rintro e' w2 ⟨v2, rows2, n2, D2, rfl, hmk2, ho2, hv2⟩; have hlen : vl.length ≤ 1000000 := by
        have h1 := Hvl.out; have h2 := len_sizes e.kids; have h3 := Ex.size_eq e; have h4 := Hsz.out; omega
      have hord := HMk.out.ord; have hu : ∀ b, u7.ownBlock = some b → X.heap.size ≤ b := fun b hb => (ownsRow_block HVi.out b hb).1
      have hne1 : ∀ b, u7.ownBlock = some b → ¬ GH g h v1 b := fun b hb hG => by
        have h1 := hu b hb; have h2 := HZX.out; rcases hG with h3 | h3 | h3
        · omega
        · omega
        · exact own_ne HVi.out HMk1.out.nds.1 (by decide) hb h3
      have hvi2 : OwnI 3 X.heap.size w2 u7 vl := (HVi.out.keep HB9.out).offM ho2 hne1; have hs2 : X.heap.size ≤ w2.heap.size := Nat.le_trans hsx (Nat.le_trans HB9.out.size ho2.size); have HVi2 := Lib.hid hvi2; have HMk2 := Lib.hid hmk2; have Ho2 := Lib.hid ho2; have Hv2 := Lib.hid hv2; have Hu := Lib.hid hu; clear hvi2 hmk2 ho2 hv2 hu hne1 c0 c1 c2 c3 c4 c5 c6 c7 c8; generalize hr : (putX ev y Li).2 = r; have Hr := Lib.hid hr; clear hr
      go_wp2_with (at_builtin; refine app_int rfl _ _ rfl X.heap.size _ vl r w2.heap.size rfl rfl (HVi2.out.keep ((Below.refl _ _).alloc (Nat.le_refl _) _)) (by go_simp) hlen (by simp; omega) ?_)
      intro vi' w4 hown4 hg4 hat4; have bA : Below w2.heap.size w2 (w2.alloc (.cells #[.int .i64 r] 3)) := (Below.refl _ _).alloc (Nat.le_refl _) _; have hzA : (w2.alloc (.cells #[.int .i64 r] 3)).heap.size = w2.heap.size + 1 := World.size_alloc _ _; obtain ⟨A, hA⟩ : ∃ z, w2.alloc (.cells #[.int .i64 r] 3) = z := ⟨_, rfl⟩; rw [hA] at bA hzA hg4; clear hA; have hkA := HMk2.out.keep bA; have hviA := HVi2.out.keep bA; have hoG : OffM (fun k => u7.ownBlock = some k) A w4 := OffM.grown hg4; have hu := Hu.out; have hgX : g < X.heap.size ∧ h < X.heap.size := by have := HZX.out; omega
      have hk4 : Mk (fun b => M b ∨ b = W.heap.size ∨ vi'.ownBlock = some b) base g h (putX ev y Li).1 v2 rows2 n2 D2 w4 := hkA.turn hoG (fun b hb => Or.inr (Or.inr hb)) (fun hb => by have := hu _ hb; omega) (fun hb => by have := hu _ hb; omega)
        (fun b hb hb' => own_ne hviA hkA.nds.1 (by decide) hb' hb)
        (fun b hlt hb => by
          rcases hb with hb | hb | hb
          · exact Or.inl hb
          · exact Or.inr (Or.inl hb)
          · rcases hat4 with h1 | h1
            · rw [h1] at hb; exact Or.inr (Or.inr hb)
            · rw [h1] at hb; have := Option.some.inj hb; omega) (Or.inl HMk.out.mg) (Or.inl HMk.out.mh)
      have hO : OffM (GH g h v) W w4 := by
        have h1 : OffM (GH g h v) W X9 := Ho.out.trans (OffM.of HB9.out) (fun i _ hi => hi); have h2 : OffM (GH g h v) W w2 := h1.trans Ho2.out (fun i hi hG => by
          rcases hG with h3 | h3 | h3
          · exact Or.inl h3
          · exact Or.inr (Or.inl h3)
          · rcases Hv1.out i h3 with h4 | h4
            · exact Or.inr (Or.inr h4)
            · have := HZX.out; omega)
        exact (h2.trans (OffM.of bA) (fun i _ hi => hi)).trans hoG (fun i hi hG => by have := hu i hG; have := HZX.out; omega)
      have hV : ∀ b, v2.ownBlock = some b → v.ownBlock = some b ∨ X.heap.size ≤ b := fun b hb => by
        rcases Hv2.out b hb with h1 | h1
        · exact Hv1.out b h1
        · right; have := HB9.out.size; omega
      have hB4 : Blk w4 W.heap.size 37 [.int .i64 e.kind, .int .i64 e.fn, .int .i64 e.op, .int .i64 e.num, .string e.metric, .slice pm e.mats.length cm, .int .i64 e.span, .slice pn e.names.length cn, .slice (some ⟨b, off, none⟩) e.kids.length ck] := by
        have h1 := HB.out.keep HB9.out; have h2 : Blk w2 W.heap.size 37 [.int .i64 e.kind, .int .i64 e.fn, .int .i64 e.op, .int .i64 e.num, .string e.metric, .slice pm e.mats.length cm, .int .i64 e.span, .slice pn e.names.length cn, .slice (some ⟨b, off, none⟩) e.kids.length ck] := (Ho2.out.block _ h1.lt (fun hG => by
          rcases hG with h3 | h3 | h3
          · omega
          · omega
          · rcases Hv1.out _ h3 with h4 | h4
            · have := (HMk.out.row _ h4).2; omega
            · have := HZX.out; omega)).trans h1
        exact (hoG.block _ (h2.keep bA).lt (fun hb => by have := hu _ hb; have := HZX.out; omega)).trans (h2.keep bA)
      have hs4 : X.heap.size ≤ w4.heap.size := by have := hoG.size; omega
      have Hk4 := Lib.hid hk4; have HO := Lib.hid hO; have HV := Lib.hid hV; have HB4 := Lib.hid hB4; have Hown4 := Lib.hid hown4; clear hk4 hO hV hB4 hown4 bA hzA hkA hviA hoG hu hg4 hat4; go_wp2; refine ⟨⟨i + 1, v2, rows2, n2, D2, by omega, by go_num, ?_, ?_, HO.out, HV.out, HB4.out, hs4⟩, by simp [intOf]; omega⟩
      · rw [Hst.out]; exact Hk4.out
      · rw [Hst.out, Hr.out]; exact Hown4.out
    · have hi2 : i = e.kids.length := by omega
      subst hi2; have hk2 := HMk1.out; have hvi2 := HVi.out; rw [List.take_length] at hk2 hvi2; have HMk2 := Lib.hid hk2; have HVi2 := Lib.hid hvi2; clear hk2 hvi2 HMk1 HVi; have hself : Key64 ev e := HKey.out e (by rw [Ex.flat_eq]; simp); have hce : checkExpr e = 0 := by
        have h1 := hself.ok; unfold checkQuery at h1
        split at h1
        · exact h1
        · cases h1
      have hn0w : n0 ≤ W.heap.size := by have := HMk.out.ord; omega
      have hsh := sShowExpr e _ W0.heap.size W0 (Nat.le_refl _) (He.out.mono HN0.out (Nat.le_trans hn0w HN0.out.size)) hself.num (by have := Hsz.out; omega) ((HT.out.on HN0.out).less (Nat.le_trans hn0w HN0.out.size)); have ho : (⟨(exprO e).toArray⟩ : ByteArray) = txt e := by unfold exprO txt; rw [if_pos hce]
      rw [ho, hce] at hsh; have HSh := Lib.hid hsh; have HSelf := Lib.hid hself; clear hsh ho hce hself; have c := HB.out; have c0 := c.cell 0 _ rfl; have c1 := c.cell 1 _ rfl; have c2 := c.cell 2 _ rfl; have c3 := c.cell 3 _ rfl; have c4 := c.cell 4 _ rfl; have c5 := c.cell 5 _ rfl; have c6 := c.cell 6 _ rfl; have c7 := c.cell 7 _ rfl; have c8 := c.cell 8 _ rfl; clear c
      go_wp2_with fail
      refine HSh.out.mono ?_; rintro e' w2 ⟨rfl, hb2⟩; clear c0 c1 c2 c3 c4 c5 c6 c7 c8 HSh; have HMk3 := Lib.hid (HMk2.out.keep hb2); have HVi3 := Lib.hid (HVi2.out.keep hb2); have HB2 := Lib.hid (HB.out.keep hb2); have Ho3 := Lib.hid (Ho.out.trans (OffM.of hb2) (fun i _ hi => hi)); have hs2 := hb2.size; clear hb2 HMk2 HVi2 HB Ho HN0; obtain ⟨te, hte⟩ : ∃ t, txt e = t := ⟨_, rfl⟩; rw [hte]; have HTe := Lib.hid hte; clear hte
      go_upto_region 9 with fail
      obtain ⟨Y, hW⟩ : ∃ z, w2.alloc (.cells #[.int .i64 ev, .string te] 68) = z := ⟨_, rfl⟩; have BK : Blk Y w2.heap.size 68 [.int .i64 ev, .string te] := by rw [← hW]; exact Blk.new w2 _ _
      have bY : Below w2.heap.size w2 Y := by rw [← hW]; exact (Below.refl _ _).alloc (Nat.le_refl _) _
      rw [hW]; clear hW; have HMkY := Lib.hid (HMk3.out.keep bY); have HViY := Lib.hid (HVi3.out.keep bY); have HBY := Lib.hid (HB2.out.keep bY); have HoY := Lib.hid (Ho3.out.trans (OffM.of bY) (fun i _ hi => hi)); have hsY := bY.size; have hlook := fun Z (hz : Z.heap[h]? = Y.heap[h]?) => (HMkY.out.map.keep (X' := Z) hz).look HMkY.out.tells HSelf.out
      rw [HTe.out] at hlook; have hrun := hlook Y rfl; have hrun2 := hlook Y.drew rfl; have q1 := HMkY.out.blk.cell 1 _ rfl; have k0 := BK.cell 0 _ rfl; have k1 := BK.cell 1 _ rfl; have HLook := Lib.hid hlook; have HBK := Lib.hid BK; clear bY hlook HMk3 HVi3 HB2 Ho3 BK; obtain ⟨L2, hL2⟩ : ∃ z, (putXs ev e.kids L).1 = z := ⟨_, rfl⟩; have HL2 := Lib.hid hL2; obtain ⟨ins, hins⟩ : ∃ z, (putXs ev e.kids L).2 = z := ⟨_, rfl⟩; rw [hL2] at HMkY hrun hrun2 HLook; rw [hins] at HViY; have hput : putX ev e L = if idxOf ev e L2 = 0 then (L2 ++ [⟨ev, e, ins⟩], (L2.length : Int) + 1) else (L2, idxOf ev e L2) := by rw [putX_eq, hL2, hins, addX_idx]
      clear hL2 hins; have HPut := Lib.hid hput; clear hput; obtain ⟨ix, hix⟩ : ∃ z, idxOf ev e L2 = z := ⟨_, rfl⟩; rw [hix] at hrun hrun2 HPut HLook; have HIx := Lib.hid hix; clear hix
      go_region
      have hYd : Below Y.heap.size Y Y.drew := Below.drew (Below.refl _ _); have HMkY := Lib.hid (HMkY.out.keep hYd); have HViY := Lib.hid (HViY.out.keep hYd); have HBY := Lib.hid (HBY.out.keep hYd); have HBK := Lib.hid (HBK.out.keep hYd); have HoY := Lib.hid (HoY.out.trans (OffM.of hYd) (fun i _ hi => hi)); have hsd := hYd.size; obtain ⟨Z, hZ⟩ : ∃ z, Y.drew = z := ⟨_, rfl⟩; rw [hZ] at HMkY HViY HBY HBK HoY hsd ⊢; clear hYd hZ hrun hrun2 q1 k0 k1; have hixn := idxOf_nat ev e L2; rw [HIx.out] at hixn
      by_cases h0 : ix = 0
      · subst h0
        have hp := HPut.out; rw [if_pos rfl] at hp; have HP := Lib.hid hp; clear hp HPut; obtain ⟨ad, cv, hv1q⟩ := ownsRow_slice HMkY.out.nds.1; rw [List.length_map] at hv1q; subst hv1q; have hL999 : L2.length ≤ 998 := by
          obtain ⟨R, r1, r2⟩ := putXs_grow ev e.kids L; have r3 := Ex.size_eq e; have r4 := Hsz.out; rw [HL2.out] at r1; rw [r1, List.length_append]; omega
        have hlong : ((L2.length : Int) == 1000) = false := by simp; omega
        have q0 := HMkY.out.blk.cell 0 _ rfl; have q2 := HMkY.out.blk.cell 2 _ rfl; have f2 := HMkY.out.blk.free 2; clear hixn
        go_upto_region 13 with fail
        have hk := HMkY.out; have hord := hk.ord; have hrow := hk.row; have hu := fun b hb => (ownsRow_block HViY.out b hb).1
        have hzx := HZX.out; have og := OffM.cell1 Z g 2 (.bool false); obtain ⟨Z2, hZ2⟩ : ∃ z, Z.setCell ⟨g, 2, none⟩ (.bool false) = z := ⟨_, rfl⟩; have hb2 := hk.blk.set_ 2 (.bool false); rw [hZ2] at og hb2 ⊢; have hk2 : Mk (fun b => M b ∨ b = W.heap.size ∨ u7.ownBlock = some b) base g h L2 (.slice ad L2.length cv) rows1 n1 D1 Z2 := ⟨hb2, hk.nds.off og (fun b _ hb => by rw [show b = g from hb]; exact hk.mg) (fun b hb e => by have := (hrow b hb).1; omega), hk.map.keep (og.block _ hk.hlt (fun e => hord.2.2 e.symm)), hk.tells, hk.few, hk.mg, hk.mh, hk.ord⟩; have hvi2 := HViY.out.offM og (fun b hb e => by have := hu b hb; omega); have hB2 : Blk Z2 W.heap.size 37 [.int .i64 e.kind, .int .i64 e.fn, .int .i64 e.op, .int .i64 e.num, .string e.metric, .slice pm e.mats.length cm, .int .i64 e.span, .slice pn e.names.length cn, .slice pk e.kids.length ck] := (og.block _ HBY.out.lt (by omega)).trans HBY.out; have hBK2 : Blk Z2 w2.heap.size 68 [.int .i64 ev, .string te] := (og.block _ HBK.out.lt (by omega)).trans HBK.out; have hO2 : OffM (GH g h v) W Z2 := HoY.out.trans og (fun i _ hi => Or.inl hi); have hs2z := og.size; have HMk2 := Lib.hid hk2; have HVi2 := Lib.hid hvi2; have HB2 := Lib.hid hB2; have HBK2 := Lib.hid hBK2; have HO2 := Lib.hid hO2; clear hk hrow hu og hZ2 hb2 hk2 hvi2 hB2 hBK2 hO2 HMkY HViY HBY HBK HoY q0 q2 f2; have hN2 : Below n0 W Z2 := HO2.out.below (fun b hb => by
          have h1 := HMk.out.row; rcases hb with rfl | rfl | hb
          · exact hng
          · exact hnh
          · have := (h1 b hb).1; omega) (by omega)
        have HCp := Lib.hid (aCopy e _ n0 Z2 (Nat.le_trans (by omega) hN2.size) (He.out.mono hN2 (Nat.le_refl _)) HTh.out (by have := Hsz.out; omega)); clear hN2; have q2 := HMk2.out.blk.cell 2 _ rfl; have c := HB2.out; have c0 := c.cell 0 _ rfl; have c1 := c.cell 1 _ rfl; have c2 := c.cell 2 _ rfl; have c3 := c.cell 3 _ rfl; have c4 := c.cell 4 _ rfl; have c5 := c.cell 5 _ rfl; have c6 := c.cell 6 _ rfl; have c7 := c.cell 7 _ rfl; have c8 := c.cell 8 _ rfl; clear c
        go_wp2_with fail
        refine HCp.out.mono ?_; rintro e' Z3 ⟨cs1, rfl, hfr, hb3⟩; obtain ⟨vm, vn, vk, rows0, rfl, m1, m2, m3, -, -⟩ := hfr.cells; obtain ⟨qm, dm, rfl⟩ := ownsRow_slice m1.1; obtain ⟨qn, dn, rfl⟩ := ownsRow_slice m2.1; obtain ⟨qk, dk, rfl⟩ := ownsRow_slice m3.1; clear m1 m2 m3 c0 c1 c2 c3 c4 c5 c6 c7 c8 q2 HCp; have HMk3 := Lib.hid (HMk2.out.keep hb3); have HVi3 := Lib.hid (HVi2.out.keep hb3); have HB3 := Lib.hid (HB2.out.keep hb3); have HBK3 := Lib.hid (HBK2.out.keep hb3); have HO3 := Lib.hid (HO2.out.trans (OffM.of hb3) (fun i _ hi => hi)); have HFr := Lib.hid hfr; have hs3 := hb3.size; have HRowB := Lib.hid (fun b hb => (HMk2.out.row b hb).2); clear hfr hb3 HMk2 HVi2 HB2 HBK2 HO2
        go_upto_region 16 with (refine wpList_store_row rfl 37 _ _ rfl W.heap.size #[.int .i64 e.kind, .int .i64 e.fn, .int .i64 e.op, .int .i64 e.num, .string e.metric, .slice qm e.mats.length dm, .int .i64 e.span, .slice qn e.names.length dn, .slice qk e.kids.length dk] rfl rfl 37 _ HB3.out (by kernel_rfl) rfl (by kernel_rfl) ?_)
        have orw := OffM.row Z3 W.heap.size #[.int .i64 e.kind, .int .i64 e.fn, .int .i64 e.op, .int .i64 e.num, .string e.metric, .slice qm e.mats.length dm, .int .i64 e.span, .slice qn e.names.length dn, .slice qk e.kids.length dk]; have hB4 : Blk (Z3.setRow W.heap.size #[.int .i64 e.kind, .int .i64 e.fn, .int .i64 e.op, .int .i64 e.num, .string e.metric, .slice qm e.mats.length dm, .int .i64 e.span, .slice qn e.names.length dn, .slice qk e.kids.length dk]) W.heap.size 37 [.int .i64 e.kind, .int .i64 e.fn, .int .i64 e.op, .int .i64 e.num, .string e.metric, .slice qm e.mats.length dm, .int .i64 e.span, .slice qn e.names.length dn, .slice qk e.kids.length dk] := setRow_at HB3.out _; obtain ⟨Z4, hZ4⟩ : ∃ z, Z3.setRow W.heap.size #[.int .i64 e.kind, .int .i64 e.fn, .int .i64 e.op, .int .i64 e.num, .string e.metric, .slice qm e.mats.length dm, .int .i64 e.span, .slice qn e.names.length dn, .slice qk e.kids.length dk] = z := ⟨_, rfl⟩; rw [hZ4] at orw hB4 ⊢; have q8 := hB4.cell 8 _ rfl; have f8 := hB4.free 8
        go_upto_region 17 with fail
        have o8 := OffM.cell1 Z4 W.heap.size 8 (.slice none 0 0); have hB5 := hB4.set_ 8 (.slice none 0 0); obtain ⟨Z5, hZ5⟩ : ∃ z, Z4.setCell ⟨W.heap.size, 8, none⟩ (.slice none 0 0) = z := ⟨_, rfl⟩; rw [hZ5] at o8 hB5 ⊢; have o5 : OffM (fun k => k = W.heap.size) Z3 Z5 := orw.trans o8 (fun _ _ h => h); have hord2 := HMk3.out.ord; have hrow2 := HMk3.out.row; have hu2 := fun b hb => (ownsRow_block HVi3.out b hb).1
        have hnr : ∀ b, (Value.slice ad L2.length cv).ownBlock = some b → b ≠ W.heap.size := fun b hb e => by
          rcases Hv1.out b hb with h1 | h1
          · have := (HMk.out.row b h1).2; omega
          · omega
        have HMk5 := Lib.hid (HMk3.out.off o5 (fun b hb => Or.inr (Or.inl hb)) (fun e => by omega) (fun e => by omega) hnr); have HVi5 := Lib.hid (HVi3.out.offM o5 (fun b hb e => by have := hu2 b hb; omega)); have HB5 : Hid (Blk Z5 W.heap.size 37 [.int .i64 e.kind, .int .i64 e.fn, .int .i64 e.op, .int .i64 e.num, .string e.metric, .slice qm e.mats.length dm, .int .i64 e.span, .slice qn e.names.length dn, .slice none 0 0]) := Lib.hid hB5; have HBK5 : Hid (Blk Z5 w2.heap.size 68 [.int .i64 ev, .string te]) := Lib.hid ((o5.block _ HBK3.out.lt (by omega)).trans HBK3.out); have HO5 := Lib.hid (HO3.out.trans o5 (fun i hi h => by omega)); have HFr5 := Lib.hid (HFr.out.keep (fun i h1 h2 => o5.block i h2 (by omega))); have hs5 := o5.size; clear orw hB4 q8 f8 o8 hB5 hZ4 hZ5 o5 HMk3 HVi3 HB3 HBK3 HO3 HFr hu2 hrow2
        go_cut [0, 12] (fun s0 s12 wx => ∃ (v3 : Value) (r : List Value), s0 = .pointer (some ⟨g, 0, none⟩) ∧ s12 = .pointer (some ⟨w2.heap.size, 0, none⟩) ∧ NdL M base wx v3 ((L2 ++ [NX.mk ev e ins]).map NX.nd) (rows1 ++ [r]) ∧ Blk wx g 49 [v3, .map (some h), .bool false] ∧ MapP wx h n1 D1 ∧ Blk wx w2.heap.size 68 [.int .i64 ev, .string te] ∧ OffM (GH g h v) W wx ∧ (∀ b, v3.ownBlock = some b → v.ownBlock = some b ∨ W.heap.size ≤ b))
        case first =>
          obtain ⟨au, cu, hu7⟩ := ownsRow_slice HVi5.out; subst hu7; obtain ⟨i0, hi0, hz0, hz1, hz2⟩ := info_parts infoNp; refine wp_region_held_drew (S := fun _ => True) (by kernel_rfl) trivial (fun hHeld => ?_)
          (refine htk 0 68 ?_ rfl ?_ ?_; rotate_left; (intro w hSw; clear hSw; go_simp); (try with_reducible rfl); simp only [lsz, lss])
          (refine htk 1 69 ?_ rfl ?_ ?_; rotate_left; (intro w hSw; clear hSw; go_simp); (try with_reducible rfl); simp only [lsz, lss])
          (refine htk 2 70 ?_ rfl ?_ ?_; rotate_left; (intro w hSw; clear hSw; go_simp); (try with_reducible rfl); simp only [lsz, lss])
          (refine htk 3 71 ?_ rfl ?_ ?_; rotate_left; (intro w hSw; clear hSw; go_simp); (try with_reducible rfl); simp only [lsz, lss])
          (refine htk 5 73 ?_ rfl ?_ ?_; rotate_left; (intro w hSw; clear hSw; go_simp); (try with_reducible rfl); simp only [lsz, lss])
          (refine htk 7 75 ?_ rfl ?_ ?_; rotate_left; (intro w hSw; clear hSw; go_simp); (try with_reducible rfl); simp only [lsz, lss])
          have hbd : Below Z5.heap.size Z5 Z5.drew := Below.drew (Below.refl _ _); have HMk5 := Lib.hid (HMk5.out.keep hbd); have HVi5 := Lib.hid (HVi5.out.keep hbd); have HB5 := Lib.hid (HB5.out.keep hbd); have HBK5 := Lib.hid (HBK5.out.keep hbd); have HO5 := Lib.hid (HO5.out.trans (OffM.of hbd) (fun i _ hi => hi)); have HFr5 := Lib.hid (HFr5.out.keep (fun i h1 h2 => hbd.block i (by omega))); have hsy := hbd.size; obtain ⟨y0, hy0⟩ : ∃ z, Z5.drew = z := ⟨_, rfl⟩; rw [hy0] at HMk5 HVi5 HB5 HBK5 HO5 HFr5 hsy ⊢; clear hy0 hbd; refine wpAnyH_ready (rs := [4, 6]) (by kernel_rfl) (by simp) (.cons rfl (fun K' hK' => ?_) (.cons rfl (fun K' hK' => ?_) .nil))
          · skip
            rw [if_pos (by kernel_rfl)]; have q0 := HMk5.out.blk.cell 0 _ rfl
            go_simp
            refine hK'.out _ _ trivial (fun hHeld => ?_); clear hK' K' q0
            (try simp only [Act.put, lsa, lsz, lss])
            refine wpAnyH_ready (rs := [6]) (by kernel_rfl) (by simp) (.cons rfl (fun K' hK' => ?_) .nil); rw [if_pos (by kernel_rfl)]; have c := HB5.out; have c0 := c.cell 0 _ rfl; have c1 := c.cell 1 _ rfl; have c2 := c.cell 2 _ rfl; have c3 := c.cell 3 _ rfl; have c4 := c.cell 4 _ rfl; have c5 := c.cell 5 _ rfl; have c6 := c.cell 6 _ rfl; have c7 := c.cell 7 _ rfl; have c8 := c.cell 8 _ rfl
            go_simp
            refine hK'.out _ _ trivial (fun hHeld => ?_); clear hK' K' c c0 c1 c2 c3 c4 c5 c6 c7 c8
            (try simp only [Act.put, lsa, lsz, lss])
            (refine htk 8 76 (.agg #[.int .i64 ev, .int .i64 e.kind, .int .i64 e.fn, .int .i64 e.op, .int .i64 e.num, .string e.metric, .slice qm e.mats.length dm, .int .i64 e.span, .slice qn e.names.length dn, .slice none 0 0, .slice au ins.length cu]) rfl (by intro w hSw; clear hSw; go_simp) ?_); (try simp only [lsz, lss])
            refine wpAnyH_ready (rs := [9]) (by kernel_rfl) (by simp) (.cons rfl (fun K' hK' => ?_) .nil); rw [if_pos (by kernel_rfl)]
            go_simp
            refine hK'.out _ _ trivial (fun hHeld => ?_); clear hK' K'
            (try simp only [Act.put, lsa, lsz, lss])
            have bA : Below y0.heap.size y0 (y0.alloc (.cells #[.int .i64 ev, .int .i64 e.kind, .int .i64 e.fn, .int .i64 e.op, .int .i64 e.num, .string e.metric, .slice qm e.mats.length dm, .int .i64 e.span, .slice qn e.names.length dn, .slice none 0 0, .slice au ins.length cu] 39)) := (Below.refl _ _).alloc (Nat.le_refl _) _; have hzA : (y0.alloc (.cells #[.int .i64 ev, .int .i64 e.kind, .int .i64 e.fn, .int .i64 e.op, .int .i64 e.num, .string e.metric, .slice qm e.mats.length dm, .int .i64 e.span, .slice qn e.names.length dn, .slice none 0 0, .slice au ins.length cu] 39)).heap.size = y0.heap.size + 1 := World.size_alloc _ _; have hs : Src (y0.alloc (.cells #[.int .i64 ev, .int .i64 e.kind, .int .i64 e.fn, .int .i64 e.op, .int .i64 e.num, .string e.metric, .slice qm e.mats.length dm, .int .i64 e.span, .slice qn e.names.length dn, .slice none 0 0, .slice au ins.length cu] 39)) (.slice (some ⟨y0.heap.size, 0, none⟩) 1 1) 11 1 [.int .i64 ev, .int .i64 e.kind, .int .i64 e.fn, .int .i64 e.op, .int .i64 e.num, .string e.metric, .slice qm e.mats.length dm, .int .i64 e.span, .slice qn e.names.length dn, .slice none 0 0, .slice au ins.length cu] := src_new rfl rfl; have HMk5 := Lib.hid (HMk5.out.keep bA); have HVi5 := Lib.hid (HVi5.out.keep bA); have HB5 := Lib.hid (HB5.out.keep bA); have HBK5 := Lib.hid (HBK5.out.keep bA); have HO5 := Lib.hid (HO5.out.trans (OffM.of bA) (fun i _ hi => hi)); have HFr5 := Lib.hid (HFr5.out.keep (fun i h1 h2 => bA.block i (by omega))); obtain ⟨A, hA⟩ : ∃ z, y0.alloc (.cells #[.int .i64 ev, .int .i64 e.kind, .int .i64 e.fn, .int .i64 e.op, .int .i64 e.num, .string e.metric, .slice qm e.mats.length dm, .int .i64 e.span, .slice qn e.names.length dn, .slice none 0 0, .slice au ins.length cu] 39) = z := ⟨_, rfl⟩; rw [hA] at hs hzA HMk5 HVi5 HB5 HBK5 HO5 HFr5 ⊢; have HSrc := Lib.hid hs; clear hA bA hs; refine wpAnyH_ready (rs := [10]) (by kernel_rfl) (by simp) (.cons rfl (fun K' hK' => ?_) .nil); rw [if_pos (by kernel_rfl)]; have hown0 := HMk5.out.nds.1; rw [List.length_map] at hown0; refine wp_append_src _ _ _ _ rfl base 39 i0 _ 11 160 Tryz.underlying25 hi0 hz0 hz1 hz2 rfl (by decide) _ _ rows1.flatten rfl hown0 _ 1 [.int .i64 ev, .int .i64 e.kind, .int .i64 e.fn, .int .i64 e.op, .int .i64 e.num, .string e.metric, .slice qm e.mats.length dm, .int .i64 e.span, .slice qn e.names.length dn, .slice none 0 0, .slice au ins.length cu] rfl HSrc.out (by intro u hu; simp at hu; rcases hu with rfl | rfl | rfl | rfl | rfl | rfl | rfl | rfl | rfl | rfl | rfl <;> rfl) (by unfold maxLen; omega) (by omega) (by omega) ?_; clear hown0; intro v3 w3 hown3 hgr3 hat3; have hkM := HMk5.out.less HMk.out.mg HMk.out.mh (M := M) (fun b hb => Or.inl hb); have hnd : NdS (SX M (.slice ad L2.length cv)) A (NX.nd ⟨ev, e, ins⟩) (.int .i64 ev :: ([.int .i64 e.kind, .int .i64 e.fn, .int .i64 e.op, .int .i64 e.num, .string e.metric, .slice qm e.mats.length dm, .int .i64 e.span, .slice qn e.names.length dn, .slice none 0 0] ++ [.slice au ins.length cu])) :=
              NdS.mk (x := NX.nd ⟨ev, e, ins⟩) (ExS.of_fresh HFr5.out.bare (by omega) (fun i h1 h2 => ⟨fun hm => by have := HM.out i hm; omega, fun e => by have := HRowB.out i e; omega⟩))
                (OwnI.intsS HVi5.out (fun g' hg' => by
                  have := (ownsRow_block HVi5.out g' hg').1; exact ⟨fun hm => by have := HM.out g' hm; omega, fun e => own_ne HVi5.out HMk5.out.nds.1 (by decide) hg' e⟩))
            obtain ⟨hn3, hb3, hm3⟩ := hkM.app hnd hown3 hgr3 hat3; have og := OffM.grown hgr3; have hrow5 := HMk5.out.row; have hK3 : Blk w3 w2.heap.size 68 [.int .i64 ev, .string te] := (og.block _ HBK5.out.lt (Blk.not_own HBK5.out HMk5.out.nds.1 (by decide))).trans HBK5.out; have hO3 : OffM (GH g h v) W w3 := HO5.out.trans og (fun i hi hG => by
              rcases Hv1.out i hG with h1 | h1
              · exact Or.inr (Or.inr h1)
              · omega)
            have hv3 : ∀ b, v3.ownBlock = some b → v.ownBlock = some b ∨ W.heap.size ≤ b := fun b hb => by
              rcases hat3 with h1 | h1
              · rw [h1] at hb; exact (Hv1.out b hb).imp id (fun h => by omega)
              · rw [h1] at hb; have := Option.some.inj hb; omega
            have hr3 := fun b hb => (ownsRow_block hn3.1 b hb).1
            obtain ⟨av, cw, hv3q⟩ := ownsRow_slice hown3; subst hv3q; have HN3 := Lib.hid hn3; have Hb3 := Lib.hid hb3; have Hm3 := Lib.hid hm3; have HK3 := Lib.hid hK3; have HO3 := Lib.hid hO3; have Hv3 := Lib.hid hv3; have Hr3 := Lib.hid hr3; clear hkM hnd hn3 hb3 hm3 og hrow5 hK3 hO3 hv3 hr3 hown3 hgr3 hat3 HMk5 HVi5 HB5 HBK5 HO5 HFr5 HSrc; refine hK'.out _ _ trivial (fun hHeld => ?_); clear hK' K'
            (try simp only [Act.put, lsa, lsz, lss])
            (refine htk 11 79 ?_ rfl ?_ ?_; rotate_left; (intro w hSw; clear hSw; go_simp); (try with_reducible rfl); simp only [lsz, lss])
            (refine htk 12 80 ?_ rfl ?_ ?_; rotate_left; (intro w hSw; clear hSw; go_simp); (try with_reducible rfl); simp only [lsz, lss])
            refine wpAnyH_ready (rs := [13]) (by kernel_rfl) (by simp) (.cons rfl (fun K' hK' => ?_) .nil); rw [if_pos (by kernel_rfl)]; have q0 := Hb3.out.cell 0 _ rfl; have f0 := Hb3.out.free 0
            go_simp
            refine hK'.out _ _ trivial (fun hHeld => ?_); clear hK' K' q0 f0
            (try simp only [Act.put, lsa, lsz, lss])
            refine wpAnyH_done (by kernel_rfl) ?_ _; go_wp2
            go_meet
            have og := OffM.cell1 w3 g 0 (.slice av (L2.length + 1) cw); exact ⟨_, _, rfl, rfl, HN3.out.off og (fun b _ hb => by rw [show b = g from hb]; exact HMk.out.mg) (fun b hb e => by have := Hr3.out b hb; omega), Hb3.out.set_ 0 _, Hm3.out.keep (og.block _ (World.ownsMap.lt Hm3.out) (fun e => by omega)), HK3.out.far (by simp; omega) _, HO3.out.trans og (fun i _ hi => Or.inl hi), Hv3.out⟩
          · skip
            rw [if_pos (by kernel_rfl)]; have c := HB5.out; have c0 := c.cell 0 _ rfl; have c1 := c.cell 1 _ rfl; have c2 := c.cell 2 _ rfl; have c3 := c.cell 3 _ rfl; have c4 := c.cell 4 _ rfl; have c5 := c.cell 5 _ rfl; have c6 := c.cell 6 _ rfl; have c7 := c.cell 7 _ rfl; have c8 := c.cell 8 _ rfl
            go_simp
            refine hK'.out _ _ trivial (fun hHeld => ?_); clear hK' K' c c0 c1 c2 c3 c4 c5 c6 c7 c8
            (try simp only [Act.put, lsa, lsz, lss])
            (refine htk 8 76 (.agg #[.int .i64 ev, .int .i64 e.kind, .int .i64 e.fn, .int .i64 e.op, .int .i64 e.num, .string e.metric, .slice qm e.mats.length dm, .int .i64 e.span, .slice qn e.names.length dn, .slice none 0 0, .slice au ins.length cu]) rfl (by intro w hSw; clear hSw; go_simp) ?_); (try simp only [lsz, lss])
            refine wpAnyH_ready (rs := [4, 9]) (by kernel_rfl) (by simp) (.cons rfl (fun K' hK' => ?_) (.cons rfl (fun K' hK' => ?_) .nil))
            · skip
              rw [if_pos (by kernel_rfl)]; have q0 := HMk5.out.blk.cell 0 _ rfl
              go_simp
              refine hK'.out _ _ trivial (fun hHeld => ?_); clear hK' K' q0
              (try simp only [Act.put, lsa, lsz, lss])
              refine wpAnyH_ready (rs := [9]) (by kernel_rfl) (by simp) (.cons rfl (fun K' hK' => ?_) .nil); rw [if_pos (by kernel_rfl)]
              go_simp
              refine hK'.out _ _ trivial (fun hHeld => ?_); clear hK' K'
              (try simp only [Act.put, lsa, lsz, lss])
              have bA : Below y0.heap.size y0 (y0.alloc (.cells #[.int .i64 ev, .int .i64 e.kind, .int .i64 e.fn, .int .i64 e.op, .int .i64 e.num, .string e.metric, .slice qm e.mats.length dm, .int .i64 e.span, .slice qn e.names.length dn, .slice none 0 0, .slice au ins.length cu] 39)) := (Below.refl _ _).alloc (Nat.le_refl _) _; have hzA : (y0.alloc (.cells #[.int .i64 ev, .int .i64 e.kind, .int .i64 e.fn, .int .i64 e.op, .int .i64 e.num, .string e.metric, .slice qm e.mats.length dm, .int .i64 e.span, .slice qn e.names.length dn, .slice none 0 0, .slice au ins.length cu] 39)).heap.size = y0.heap.size + 1 := World.size_alloc _ _; have hs : Src (y0.alloc (.cells #[.int .i64 ev, .int .i64 e.kind, .int .i64 e.fn, .int .i64 e.op, .int .i64 e.num, .string e.metric, .slice qm e.mats.length dm, .int .i64 e.span, .slice qn e.names.length dn, .slice none 0 0, .slice au ins.length cu] 39)) (.slice (some ⟨y0.heap.size, 0, none⟩) 1 1) 11 1 [.int .i64 ev, .int .i64 e.kind, .int .i64 e.fn, .int .i64 e.op, .int .i64 e.num, .string e.metric, .slice qm e.mats.length dm, .int .i64 e.span, .slice qn e.names.length dn, .slice none 0 0, .slice au ins.length cu] := src_new rfl rfl; have HMk5 := Lib.hid (HMk5.out.keep bA); have HVi5 := Lib.hid (HVi5.out.keep bA); have HB5 := Lib.hid (HB5.out.keep bA); have HBK5 := Lib.hid (HBK5.out.keep bA); have HO5 := Lib.hid (HO5.out.trans (OffM.of bA) (fun i _ hi => hi)); have HFr5 := Lib.hid (HFr5.out.keep (fun i h1 h2 => bA.block i (by omega))); obtain ⟨A, hA⟩ : ∃ z, y0.alloc (.cells #[.int .i64 ev, .int .i64 e.kind, .int .i64 e.fn, .int .i64 e.op, .int .i64 e.num, .string e.metric, .slice qm e.mats.length dm, .int .i64 e.span, .slice qn e.names.length dn, .slice none 0 0, .slice au ins.length cu] 39) = z := ⟨_, rfl⟩; rw [hA] at hs hzA HMk5 HVi5 HB5 HBK5 HO5 HFr5 ⊢; have HSrc := Lib.hid hs; clear hA bA hs; refine wpAnyH_ready (rs := [10]) (by kernel_rfl) (by simp) (.cons rfl (fun K' hK' => ?_) .nil); rw [if_pos (by kernel_rfl)]; have hown0 := HMk5.out.nds.1; rw [List.length_map] at hown0; refine wp_append_src _ _ _ _ rfl base 39 i0 _ 11 160 Tryz.underlying25 hi0 hz0 hz1 hz2 rfl (by decide) _ _ rows1.flatten rfl hown0 _ 1 [.int .i64 ev, .int .i64 e.kind, .int .i64 e.fn, .int .i64 e.op, .int .i64 e.num, .string e.metric, .slice qm e.mats.length dm, .int .i64 e.span, .slice qn e.names.length dn, .slice none 0 0, .slice au ins.length cu] rfl HSrc.out (by intro u hu; simp at hu; rcases hu with rfl | rfl | rfl | rfl | rfl | rfl | rfl | rfl | rfl | rfl | rfl <;> rfl) (by unfold maxLen; omega) (by omega) (by omega) ?_; clear hown0; intro v3 w3 hown3 hgr3 hat3; have hkM := HMk5.out.less HMk.out.mg HMk.out.mh (M := M) (fun b hb => Or.inl hb); have hnd : NdS (SX M (.slice ad L2.length cv)) A (NX.nd ⟨ev, e, ins⟩) (.int .i64 ev :: ([.int .i64 e.kind, .int .i64 e.fn, .int .i64 e.op, .int .i64 e.num, .string e.metric, .slice qm e.mats.length dm, .int .i64 e.span, .slice qn e.names.length dn, .slice none 0 0] ++ [.slice au ins.length cu])) :=
                NdS.mk (x := NX.nd ⟨ev, e, ins⟩) (ExS.of_fresh HFr5.out.bare (by omega) (fun i h1 h2 => ⟨fun hm => by have := HM.out i hm; omega, fun e => by have := HRowB.out i e; omega⟩))
                  (OwnI.intsS HVi5.out (fun g' hg' => by
                    have := (ownsRow_block HVi5.out g' hg').1; exact ⟨fun hm => by have := HM.out g' hm; omega, fun e => own_ne HVi5.out HMk5.out.nds.1 (by decide) hg' e⟩))
              obtain ⟨hn3, hb3, hm3⟩ := hkM.app hnd hown3 hgr3 hat3; have og := OffM.grown hgr3; have hrow5 := HMk5.out.row; have hK3 : Blk w3 w2.heap.size 68 [.int .i64 ev, .string te] := (og.block _ HBK5.out.lt (Blk.not_own HBK5.out HMk5.out.nds.1 (by decide))).trans HBK5.out; have hO3 : OffM (GH g h v) W w3 := HO5.out.trans og (fun i hi hG => by
                rcases Hv1.out i hG with h1 | h1
                · exact Or.inr (Or.inr h1)
                · omega)
              have hv3 : ∀ b, v3.ownBlock = some b → v.ownBlock = some b ∨ W.heap.size ≤ b := fun b hb => by
                rcases hat3 with h1 | h1
                · rw [h1] at hb; exact (Hv1.out b hb).imp id (fun h => by omega)
                · rw [h1] at hb; have := Option.some.inj hb; omega
              have hr3 := fun b hb => (ownsRow_block hn3.1 b hb).1
              obtain ⟨av, cw, hv3q⟩ := ownsRow_slice hown3; subst hv3q; have HN3 := Lib.hid hn3; have Hb3 := Lib.hid hb3; have Hm3 := Lib.hid hm3; have HK3 := Lib.hid hK3; have HO3 := Lib.hid hO3; have Hv3 := Lib.hid hv3; have Hr3 := Lib.hid hr3; clear hkM hnd hn3 hb3 hm3 og hrow5 hK3 hO3 hv3 hr3 hown3 hgr3 hat3 HMk5 HVi5 HB5 HBK5 HO5 HFr5 HSrc; refine hK'.out _ _ trivial (fun hHeld => ?_); clear hK' K'
              (try simp only [Act.put, lsa, lsz, lss])
              (refine htk 11 79 ?_ rfl ?_ ?_; rotate_left; (intro w hSw; clear hSw; go_simp); (try with_reducible rfl); simp only [lsz, lss])
              (refine htk 12 80 ?_ rfl ?_ ?_; rotate_left; (intro w hSw; clear hSw; go_simp); (try with_reducible rfl); simp only [lsz, lss])
              refine wpAnyH_ready (rs := [13]) (by kernel_rfl) (by simp) (.cons rfl (fun K' hK' => ?_) .nil); rw [if_pos (by kernel_rfl)]; have q0 := Hb3.out.cell 0 _ rfl; have f0 := Hb3.out.free 0
              go_simp
              refine hK'.out _ _ trivial (fun hHeld => ?_); clear hK' K' q0 f0
              (try simp only [Act.put, lsa, lsz, lss])
              refine wpAnyH_done (by kernel_rfl) ?_ _; go_wp2
              go_meet
              have og := OffM.cell1 w3 g 0 (.slice av (L2.length + 1) cw); exact ⟨_, _, rfl, rfl, HN3.out.off og (fun b _ hb => by rw [show b = g from hb]; exact HMk.out.mg) (fun b hb e => by have := Hr3.out b hb; omega), Hb3.out.set_ 0 _, Hm3.out.keep (og.block _ (World.ownsMap.lt Hm3.out) (fun e => by omega)), HK3.out.far (by simp; omega) _, HO3.out.trans og (fun i _ hi => Or.inl hi), Hv3.out⟩
            · skip
              rw [if_pos (by kernel_rfl)]
              go_simp
              refine hK'.out _ _ trivial (fun hHeld => ?_); clear hK' K'
              (try simp only [Act.put, lsa, lsz, lss])
              have bA : Below y0.heap.size y0 (y0.alloc (.cells #[.int .i64 ev, .int .i64 e.kind, .int .i64 e.fn, .int .i64 e.op, .int .i64 e.num, .string e.metric, .slice qm e.mats.length dm, .int .i64 e.span, .slice qn e.names.length dn, .slice none 0 0, .slice au ins.length cu] 39)) := (Below.refl _ _).alloc (Nat.le_refl _) _; have hzA : (y0.alloc (.cells #[.int .i64 ev, .int .i64 e.kind, .int .i64 e.fn, .int .i64 e.op, .int .i64 e.num, .string e.metric, .slice qm e.mats.length dm, .int .i64 e.span, .slice qn e.names.length dn, .slice none 0 0, .slice au ins.length cu] 39)).heap.size = y0.heap.size + 1 := World.size_alloc _ _; have hs : Src (y0.alloc (.cells #[.int .i64 ev, .int .i64 e.kind, .int .i64 e.fn, .int .i64 e.op, .int .i64 e.num, .string e.metric, .slice qm e.mats.length dm, .int .i64 e.span, .slice qn e.names.length dn, .slice none 0 0, .slice au ins.length cu] 39)) (.slice (some ⟨y0.heap.size, 0, none⟩) 1 1) 11 1 [.int .i64 ev, .int .i64 e.kind, .int .i64 e.fn, .int .i64 e.op, .int .i64 e.num, .string e.metric, .slice qm e.mats.length dm, .int .i64 e.span, .slice qn e.names.length dn, .slice none 0 0, .slice au ins.length cu] := src_new rfl rfl; have HMk5 := Lib.hid (HMk5.out.keep bA); have HVi5 := Lib.hid (HVi5.out.keep bA); have HB5 := Lib.hid (HB5.out.keep bA); have HBK5 := Lib.hid (HBK5.out.keep bA); have HO5 := Lib.hid (HO5.out.trans (OffM.of bA) (fun i _ hi => hi)); have HFr5 := Lib.hid (HFr5.out.keep (fun i h1 h2 => bA.block i (by omega))); obtain ⟨A, hA⟩ : ∃ z, y0.alloc (.cells #[.int .i64 ev, .int .i64 e.kind, .int .i64 e.fn, .int .i64 e.op, .int .i64 e.num, .string e.metric, .slice qm e.mats.length dm, .int .i64 e.span, .slice qn e.names.length dn, .slice none 0 0, .slice au ins.length cu] 39) = z := ⟨_, rfl⟩; rw [hA] at hs hzA HMk5 HVi5 HB5 HBK5 HO5 HFr5 ⊢; have HSrc := Lib.hid hs; clear hA bA hs; refine wpAnyH_ready (rs := [4]) (by kernel_rfl) (by simp) (.cons rfl (fun K' hK' => ?_) .nil); rw [if_pos (by kernel_rfl)]; have q0 := HMk5.out.blk.cell 0 _ rfl
              go_simp
              refine hK'.out _ _ trivial (fun hHeld => ?_); clear hK' K' q0
              (try simp only [Act.put, lsa, lsz, lss])
              refine wpAnyH_ready (rs := [10]) (by kernel_rfl) (by simp) (.cons rfl (fun K' hK' => ?_) .nil); rw [if_pos (by kernel_rfl)]; have hown0 := HMk5.out.nds.1; rw [List.length_map] at hown0; refine wp_append_src _ _ _ _ rfl base 39 i0 _ 11 160 Tryz.underlying25 hi0 hz0 hz1 hz2 rfl (by decide) _ _ rows1.flatten rfl hown0 _ 1 [.int .i64 ev, .int .i64 e.kind, .int .i64 e.fn, .int .i64 e.op, .int .i64 e.num, .string e.metric, .slice qm e.mats.length dm, .int .i64 e.span, .slice qn e.names.length dn, .slice none 0 0, .slice au ins.length cu] rfl HSrc.out (by intro u hu; simp at hu; rcases hu with rfl | rfl | rfl | rfl | rfl | rfl | rfl | rfl | rfl | rfl | rfl <;> rfl) (by unfold maxLen; omega) (by omega) (by omega) ?_; clear hown0; intro v3 w3 hown3 hgr3 hat3; have hkM := HMk5.out.less HMk.out.mg HMk.out.mh (M := M) (fun b hb => Or.inl hb); have hnd : NdS (SX M (.slice ad L2.length cv)) A (NX.nd ⟨ev, e, ins⟩) (.int .i64 ev :: ([.int .i64 e.kind, .int .i64 e.fn, .int .i64 e.op, .int .i64 e.num, .string e.metric, .slice qm e.mats.length dm, .int .i64 e.span, .slice qn e.names.length dn, .slice none 0 0] ++ [.slice au ins.length cu])) :=
                NdS.mk (x := NX.nd ⟨ev, e, ins⟩) (ExS.of_fresh HFr5.out.bare (by omega) (fun i h1 h2 => ⟨fun hm => by have := HM.out i hm; omega, fun e => by have := HRowB.out i e; omega⟩))
                  (OwnI.intsS HVi5.out (fun g' hg' => by
                    have := (ownsRow_block HVi5.out g' hg').1; exact ⟨fun hm => by have := HM.out g' hm; omega, fun e => own_ne HVi5.out HMk5.out.nds.1 (by decide) hg' e⟩))
              obtain ⟨hn3, hb3, hm3⟩ := hkM.app hnd hown3 hgr3 hat3; have og := OffM.grown hgr3; have hrow5 := HMk5.out.row; have hK3 : Blk w3 w2.heap.size 68 [.int .i64 ev, .string te] := (og.block _ HBK5.out.lt (Blk.not_own HBK5.out HMk5.out.nds.1 (by decide))).trans HBK5.out; have hO3 : OffM (GH g h v) W w3 := HO5.out.trans og (fun i hi hG => by
                rcases Hv1.out i hG with h1 | h1
                · exact Or.inr (Or.inr h1)
                · omega)
              have hv3 : ∀ b, v3.ownBlock = some b → v.ownBlock = some b ∨ W.heap.size ≤ b := fun b hb => by
                rcases hat3 with h1 | h1
                · rw [h1] at hb; exact (Hv1.out b hb).imp id (fun h => by omega)
                · rw [h1] at hb; have := Option.some.inj hb; omega
              have hr3 := fun b hb => (ownsRow_block hn3.1 b hb).1
              obtain ⟨av, cw, hv3q⟩ := ownsRow_slice hown3; subst hv3q; have HN3 := Lib.hid hn3; have Hb3 := Lib.hid hb3; have Hm3 := Lib.hid hm3; have HK3 := Lib.hid hK3; have HO3 := Lib.hid hO3; have Hv3 := Lib.hid hv3; have Hr3 := Lib.hid hr3; clear hkM hnd hn3 hb3 hm3 og hrow5 hK3 hO3 hv3 hr3 hown3 hgr3 hat3 HMk5 HVi5 HB5 HBK5 HO5 HFr5 HSrc; refine hK'.out _ _ trivial (fun hHeld => ?_); clear hK' K'
              (try simp only [Act.put, lsa, lsz, lss])
              (refine htk 11 79 ?_ rfl ?_ ?_; rotate_left; (intro w hSw; clear hSw; go_simp); (try with_reducible rfl); simp only [lsz, lss])
              (refine htk 12 80 ?_ rfl ?_ ?_; rotate_left; (intro w hSw; clear hSw; go_simp); (try with_reducible rfl); simp only [lsz, lss])
              refine wpAnyH_ready (rs := [13]) (by kernel_rfl) (by simp) (.cons rfl (fun K' hK' => ?_) .nil); rw [if_pos (by kernel_rfl)]; have q0 := Hb3.out.cell 0 _ rfl; have f0 := Hb3.out.free 0
              go_simp
              refine hK'.out _ _ trivial (fun hHeld => ?_); clear hK' K' q0 f0
              (try simp only [Act.put, lsa, lsz, lss])
              refine wpAnyH_done (by kernel_rfl) ?_ _; go_wp2
              go_meet
              have og := OffM.cell1 w3 g 0 (.slice av (L2.length + 1) cw); exact ⟨_, _, rfl, rfl, HN3.out.off og (fun b _ hb => by rw [show b = g from hb]; exact HMk.out.mg) (fun b hb e => by have := Hr3.out b hb; omega), Hb3.out.set_ 0 _, Hm3.out.keep (og.block _ (World.ownsMap.lt Hm3.out) (fun e => by omega)), HK3.out.far (by simp; omega) _, HO3.out.trans og (fun i _ hi => Or.inl hi), Hv3.out⟩
        case rest =>
          obtain ⟨v3, r, rfl, rfl, hn3, hg3, hm3, hk3, ho3, hv3⟩ := hcut; obtain ⟨av, cw, hv3q⟩ := ownsRow_slice hn3.1; rw [List.length_map, List.length_append, List.length_singleton] at hv3q; subst hv3q; have hfew := HMk5.out.few; obtain ⟨X', hrun, hm', hg'⟩ := MapP.ins (X := wc.drew) (L := L2) hm3 (by omega) HSelf.out ((L2.length : Int) + 1) ⟨by omega, by omega⟩; rw [HTe.out] at hrun; have q0 := hg3.cell 0 _ rfl; have q1 := hg3.cell 1 _ rfl; have k0 := hk3.cell 0 _ rfl; have k1 := hk3.cell 1 _ rfl; have HN3 := Lib.hid hn3; have Hg3 := Lib.hid hg3; have HO3 := Lib.hid ho3; have Hv3 := Lib.hid hv3; have Hm' := Lib.hid hm'; have Hg' := Lib.hid hg'; have hord3 := HMk.out.ord; clear hn3 hg3 hm3 hk3 ho3 hv3 hm' hg'
          go_upto_region 18 with fail
          go_region
          have og : OffM (fun k => some h = some k) wc.drew X' := OffM.grown Hg'.out; have hgb : Blk X' g 49 [.slice av (L2.length + 1) cw, .map (some h), .bool false] := (og.block _ Hg3.out.lt (fun e => hord3.2.2 (Option.some.inj e).symm)).trans Hg3.out; have HGb := Lib.hid hgb; have Og := Lib.hid og; clear q0 q1 k0 k1 hrun hgb og; have q0 := HGb.out.cell 0 _ rfl; go_wp2; go_ret; rw [HP.out]; refine ⟨.slice av (L2.length + 1) cw, _, n1 + 1, _, by simp, ⟨HGb.out, (HN3.out.keep (Below.drew (Below.refl _ _))).off Og.out (fun b _ (hb : some h = some b) => by rw [← Option.some.inj hb]; exact HMk.out.mh) (fun b hb (e : some h = some b) => by have := (ownsRow_block HN3.out.1 b hb).1; have := Option.some.inj e; omega), Hm'.out, HMk5.out.tells.put HSelf.out HIx.out ins, by simp; omega, HMk.out.mg, HMk.out.mh, hord3⟩, (HO3.out.trans (OffM.of (Below.drew (Below.refl _ _))) (fun i _ hi => hi)).trans Og.out (fun i _ hi => Or.inr (Or.inl (Option.some.inj hi).symm)), Hv3.out⟩
      · have hpos : 0 < ix := by omega
        have hp := HPut.out; rw [if_neg h0] at hp; have HP := Lib.hid hp; clear hp HPut h0; go_wp2; go_ret; rw [HP.out]; exact ⟨v1, rows1, n1, D1, rfl, HMkY.out.less HMk.out.mg HMk.out.mh (fun b hb => Or.inl hb), HoY.out, fun b hb => (Hv1.out b hb).imp id (fun h => by have := HZX.out; omega)⟩
end Go.Proofs.YtdjdikiimhhjpaaGreatDoor
namespace Go.Proofs.YtdjdikiimhhjpaaGreatDoor
open Go.RowKit
set_option linter.unusedSimpArgs false
set_option linter.unusedVariables false
theorem rBare (e : Ex) (cs : List Value) (n : Nat) (w : World) (hn : n ≤ w.heap.size) (he : IsEx n w e cs) (hth : e.thin) (hsz : e.size ≤ 1000000) :
    Calls Tryz.prog 31 #[.agg cs.toArray] w fun e' w' => ∃ cs' : List Value, e' = .returned (.agg cs'.toArray) ∧ Fresh w.heap.size w'.heap.size w' e.bare cs' ∧ Below w.heap.size w w' := by
  obtain ⟨pm, cm, pn, cn, pk, ck, rfl, -, -, -, -⟩ := he.cellsE
  have He := Lib.hid he; clear he
  go_enter Tryz.func31, Tryz.ntmps31; (try simp only [List.append_eq, List.cons_append, List.nil_append])
  go_upto_region 1 with fail
  obtain ⟨X, hW⟩ : ∃ z, (w.alloc (.cells #[.int .i64 e.kind, .int .i64 e.fn, .int .i64 e.op, .int .i64 e.num, .string e.metric, .slice pm e.mats.length cm, .int .i64 e.span, .slice pn e.names.length cn, .slice pk e.kids.length ck] 37)).alloc (.cells #[.int .i64 0, .int .i64 0, .int .i64 0, .int .i64 0, .string ⟨#[]⟩, .slice none 0 0, .int .i64 0, .slice none 0 0, .slice none 0 0] 37) = z := ⟨_, rfl⟩
  have kb : Below w.heap.size w X := by rw [← hW]; exact two_below w _ _
  have A : Blk X w.heap.size 37 [.int .i64 e.kind, .int .i64 e.fn, .int .i64 e.op, .int .i64 e.num, .string e.metric, .slice pm e.mats.length cm, .int .i64 e.span, .slice pn e.names.length cn, .slice pk e.kids.length ck] := by rw [← hW]; exact two_at w [.int .i64 e.kind, .int .i64 e.fn, .int .i64 e.op, .int .i64 e.num, .string e.metric, .slice pm e.mats.length cm, .int .i64 e.span, .slice pn e.names.length cn, .slice pk e.kids.length ck] [.int .i64 0, .int .i64 0, .int .i64 0, .int .i64 0, .string ⟨#[]⟩, .slice none 0 0, .int .i64 0, .slice none 0 0, .slice none 0 0] _ _
  have B : Blk X (w.heap.size + 1) 37 [.int .i64 0, .int .i64 0, .int .i64 0, .int .i64 0, .string ⟨#[]⟩, .slice none 0 0, .int .i64 0, .slice none 0 0, .slice none 0 0] := by rw [← hW]; exact two_at' w _ [.int .i64 0, .int .i64 0, .int .i64 0, .int .i64 0, .string ⟨#[]⟩, .slice none 0 0, .int .i64 0, .slice none 0 0, .slice none 0 0] _
  have hzX : X.heap.size = w.heap.size + 2 := by rw [← hW]; simp
  rw [hW]; clear hW
  have HB := Lib.hid kb; have HA1 := Lib.hid A; have HB1 := Lib.hid B; have HZX := Lib.hid hzX
  have d0 := A.cell 0 _ rfl; have d1 := A.cell 1 _ rfl; have d2 := A.cell 2 _ rfl; have d3 := A.cell 3 _ rfl; have d4 := A.cell 4 _ rfl; have d5 := A.cell 5 _ rfl; have d6 := A.cell 6 _ rfl; have d7 := A.cell 7 _ rfl; have d8 := A.cell 8 _ rfl
  have HC := Lib.hid (rCopied e _ n X (Nat.le_trans hn kb.size) (He.out.mono (kb.mono hn) (Nat.le_refl _)) hth hsz)
  clear A B kb hzX hth
  go_wp2_with fail
  refine HC.out.mono ?_
  rintro e' w2 ⟨cs', rfl, hfr, hb2⟩
  obtain ⟨vm, vn, vk, rows0, rfl, m1, m2, m3, -, -⟩ := hfr.cells
  obtain ⟨qm, dm, rfl⟩ := ownsRow_slice m1.1; obtain ⟨qn, dn, rfl⟩ := ownsRow_slice m2.1; obtain ⟨qk, dk, rfl⟩ := ownsRow_slice m3.1
  have HFr := Lib.hid hfr.bare
  clear m1 m2 m3 d0 d1 d2 d3 d4 d5 d6 d7 d8 HC hfr
  have HA2 := Lib.hid (HA1.out.keep hb2); have HB2 := Lib.hid (HB1.out.keep hb2); have HB := Lib.hid (HB.out.trans (hb2.mono HB.out.size)); have HS2 := Lib.hid hb2.size
  clear hb2 HA1 HB1
  go_upto_region 2 with (refine wpList_store_row rfl 37 _ _ rfl w.heap.size #[.int .i64 e.kind, .int .i64 e.fn, .int .i64 e.op, .int .i64 e.num, .string e.metric, .slice qm e.mats.length dm, .int .i64 e.span, .slice qn e.names.length dn, .slice qk e.kids.length dk] rfl rfl 37 _ HA2.out (by kernel_rfl) rfl (by kernel_rfl) ?_)
  have orw := OffM.row w2 w.heap.size #[.int .i64 e.kind, .int .i64 e.fn, .int .i64 e.op, .int .i64 e.num, .string e.metric, .slice qm e.mats.length dm, .int .i64 e.span, .slice qn e.names.length dn, .slice qk e.kids.length dk]
  have hA3 : Blk (w2.setRow w.heap.size #[.int .i64 e.kind, .int .i64 e.fn, .int .i64 e.op, .int .i64 e.num, .string e.metric, .slice qm e.mats.length dm, .int .i64 e.span, .slice qn e.names.length dn, .slice qk e.kids.length dk]) w.heap.size 37 [.int .i64 e.kind, .int .i64 e.fn, .int .i64 e.op, .int .i64 e.num, .string e.metric, .slice qm e.mats.length dm, .int .i64 e.span, .slice qn e.names.length dn, .slice qk e.kids.length dk] := setRow_at HA2.out _
  obtain ⟨Z3, hZ⟩ : ∃ z, w2.setRow w.heap.size #[.int .i64 e.kind, .int .i64 e.fn, .int .i64 e.op, .int .i64 e.num, .string e.metric, .slice qm e.mats.length dm, .int .i64 e.span, .slice qn e.names.length dn, .slice qk e.kids.length dk] = z := ⟨_, rfl⟩
  rw [hZ] at orw hA3 ⊢
  clear hZ
  have q8 := hA3.cell 8 _ rfl; have f8 := hA3.free 8
  go_upto_region 3 with fail
  have o8 := OffM.cell1 Z3 w.heap.size 8 (.slice none 0 0)
  have hA4 := hA3.set_ 8 (.slice none 0 0)
  obtain ⟨Z4, hZ⟩ : ∃ z, Z3.setCell ⟨w.heap.size, 8, none⟩ (.slice none 0 0) = z := ⟨_, rfl⟩
  rw [hZ] at o8 hA4 ⊢
  clear hZ q8 f8 hA3
  have o4 : OffM (fun k => k = w.heap.size) w2 Z4 := orw.trans o8 (fun _ _ h => h)
  have hB4 : Blk Z4 (w.heap.size + 1) 37 [.int .i64 0, .int .i64 0, .int .i64 0, .int .i64 0, .string ⟨#[]⟩, .slice none 0 0, .int .i64 0, .slice none 0 0, .slice none 0 0] := (o4.block _ HB2.out.lt (fun h => by omega)).trans HB2.out
  have HA4 := Lib.hid hA4; have HB4 := Lib.hid hB4; have HO4 := Lib.hid o4
  have c := hA4
  have c0 := c.cell 0 _ rfl; have c1 := c.cell 1 _ rfl; have c2 := c.cell 2 _ rfl; have c3 := c.cell 3 _ rfl; have c4 := c.cell 4 _ rfl; have c5 := c.cell 5 _ rfl; have c6 := c.cell 6 _ rfl; have c7 := c.cell 7 _ rfl; have c8 := c.cell 8 _ rfl
  clear c orw o8 hA4 hB4 o4
  go_wp2_with (refine wpList_store_row rfl 37 _ _ rfl (w.heap.size + 1) #[.int .i64 e.kind, .int .i64 e.fn, .int .i64 e.op, .int .i64 e.num, .string e.metric, .slice qm e.mats.length dm, .int .i64 e.span, .slice qn e.names.length dn, .slice none 0 0] rfl rfl 37 _ HB4.out (by kernel_rfl) rfl (by kernel_rfl) ?_)
  refine bodyPost_agg (g := w.heap.size + 1) (fr := (0, 0)) rfl rfl (setRow_at HB4.out _) Tryz.underlying37 rfl (by kernel_rfl) rfl ?_
  have orw := OffM.row Z4 (w.heap.size + 1) #[.int .i64 e.kind, .int .i64 e.fn, .int .i64 e.op, .int .i64 e.num, .string e.metric, .slice qm e.mats.length dm, .int .i64 e.span, .slice qn e.names.length dn, .slice none 0 0]
  obtain ⟨Z5, hZ⟩ : ∃ z, Z4.setRow (w.heap.size + 1) #[.int .i64 e.kind, .int .i64 e.fn, .int .i64 e.op, .int .i64 e.num, .string e.metric, .slice qm e.mats.length dm, .int .i64 e.span, .slice qn e.names.length dn, .slice none 0 0] = z := ⟨_, rfl⟩
  rw [hZ] at orw ⊢
  have hoff : OffM (fun k => k = w.heap.size ∨ k = w.heap.size + 1) w2 Z5 := OffM.trans (OffM.trans (OffM.of (Below.refl w2.heap.size w2)) HO4.out (fun i _ h => Or.inl h)) orw (fun i _ h => Or.inr h)
  have hzx := HZX.out; have hs2 := HS2.out; have hs5 := hoff.size
  exact ⟨_, rfl, (HFr.out.keep (fun i h1 h2 => hoff.block i h2 (fun h => by omega))).more (by omega) (by omega), HB.out.trans (hoff.below (fun b hb => by rcases hb with h | h <;> omega) HB.out.size)⟩
theorem rSameNd (a b : Nd) (ra rb : List Value) (n : Nat) (w : World) (hn : n ≤ w.heap.size) (ha : IsNd n w a ra) (hb : IsNd n w b rb) :
    Calls Tryz.prog 32 #[.agg ra.toArray, .agg rb.toArray] w fun e' w' => e' = .returned (.bool (ndEq a b)) ∧ Below w.heap.size w w' := by
  obtain ⟨pm, cm, pn, cn, pk, ck, pi, ci, rfl, hea, hia⟩ := ha.cells
  obtain ⟨qm, dm, qn, dn, qk, dk, qi, di, rfl, heb, hib⟩ := hb.cells
  clear ha hb
  unfold ndCells
  obtain ⟨_, _, hiv, _, _, hil⟩ := hia.open
  unfold maxLen at hil
  clear hiv
  have Hea := Lib.hid hea; have Hia := Lib.hid hia; have Heb := Lib.hid heb; have Hib := Lib.hid hib
  clear hea hia heb hib
  go_enter Tryz.func32, Tryz.ntmps32; (try simp only [List.append_eq, List.cons_append, List.nil_append])
  go_upto_region 1 with fail
  obtain ⟨X, hW⟩ : ∃ z, (w.alloc (.cells #[.int .i64 a.every, .int .i64 a.ex.kind, .int .i64 a.ex.fn, .int .i64 a.ex.op, .int .i64 a.ex.num, .string a.ex.metric, .slice pm a.ex.mats.length cm, .int .i64 a.ex.span, .slice pn a.ex.names.length cn, .slice pk a.ex.kids.length ck, .slice pi a.ins.length ci] 39)).alloc (.cells #[.int .i64 b.every, .int .i64 b.ex.kind, .int .i64 b.ex.fn, .int .i64 b.ex.op, .int .i64 b.ex.num, .string b.ex.metric, .slice qm b.ex.mats.length dm, .int .i64 b.ex.span, .slice qn b.ex.names.length dn, .slice qk b.ex.kids.length dk, .slice qi b.ins.length di] 39) = z := ⟨_, rfl⟩
  have kb : Below w.heap.size w X := by rw [← hW]; exact two_below w _ _
  have A : Blk X w.heap.size 39 [.int .i64 a.every, .int .i64 a.ex.kind, .int .i64 a.ex.fn, .int .i64 a.ex.op, .int .i64 a.ex.num, .string a.ex.metric, .slice pm a.ex.mats.length cm, .int .i64 a.ex.span, .slice pn a.ex.names.length cn, .slice pk a.ex.kids.length ck, .slice pi a.ins.length ci] := by rw [← hW]; exact two_at w [.int .i64 a.every, .int .i64 a.ex.kind, .int .i64 a.ex.fn, .int .i64 a.ex.op, .int .i64 a.ex.num, .string a.ex.metric, .slice pm a.ex.mats.length cm, .int .i64 a.ex.span, .slice pn a.ex.names.length cn, .slice pk a.ex.kids.length ck, .slice pi a.ins.length ci] [.int .i64 b.every, .int .i64 b.ex.kind, .int .i64 b.ex.fn, .int .i64 b.ex.op, .int .i64 b.ex.num, .string b.ex.metric, .slice qm b.ex.mats.length dm, .int .i64 b.ex.span, .slice qn b.ex.names.length dn, .slice qk b.ex.kids.length dk, .slice qi b.ins.length di] _ _
  have B : Blk X (w.heap.size + 1) 39 [.int .i64 b.every, .int .i64 b.ex.kind, .int .i64 b.ex.fn, .int .i64 b.ex.op, .int .i64 b.ex.num, .string b.ex.metric, .slice qm b.ex.mats.length dm, .int .i64 b.ex.span, .slice qn b.ex.names.length dn, .slice qk b.ex.kids.length dk, .slice qi b.ins.length di] := by rw [← hW]; exact two_at' w _ [.int .i64 b.every, .int .i64 b.ex.kind, .int .i64 b.ex.fn, .int .i64 b.ex.op, .int .i64 b.ex.num, .string b.ex.metric, .slice qm b.ex.mats.length dm, .int .i64 b.ex.span, .slice qn b.ex.names.length dn, .slice qk b.ex.kids.length dk, .slice qi b.ins.length di] _
  rw [hW]; clear hW
  have HB := Lib.hid kb; have HA1 := Lib.hid A; have HB1 := Lib.hid B
  have d0 := A.cell 0 _ rfl; have d1 := A.cell 1 _ rfl; have d2 := A.cell 2 _ rfl; have d3 := A.cell 3 _ rfl; have d4 := A.cell 4 _ rfl; have d5 := A.cell 5 _ rfl; have d6 := A.cell 6 _ rfl; have d7 := A.cell 7 _ rfl; have d8 := A.cell 8 _ rfl; have d9 := A.cell 9 _ rfl; have d10 := A.cell 10 _ rfl
  have e0 := B.cell 0 _ rfl; have e1 := B.cell 1 _ rfl; have e2 := B.cell 2 _ rfl; have e3 := B.cell 3 _ rfl; have e4 := B.cell 4 _ rfl; have e5 := B.cell 5 _ rfl; have e6 := B.cell 6 _ rfl; have e7 := B.cell 7 _ rfl; have e8 := B.cell 8 _ rfl; have e9 := B.cell 9 _ rfl; have e10 := B.cell 10 _ rfl
  have HS := Lib.hid (rSame a.ex b.ex _ _ n X (Nat.le_trans hn kb.size) (Hea.out.mono (kb.mono hn) (Nat.le_refl _)) (Heb.out.mono (kb.mono hn) (Nat.le_refl _)))
  clear A B kb
  by_cases h1 : a.every = b.every
  · have h1b : (a.every != b.every) = false := by simpa using h1
    have H1 := Lib.hid h1; clear h1
    go_wp2_with fail
    refine HS.out.mono ?_; rintro e' w1 ⟨rfl, hb1⟩; clear d0 d1 d2 d3 d4 d5 d6 d7 d8 d9 d10 e0 e1 e2 e3 e4 e5 e6 e7 e8 e9 e10; have HA1 := Lib.hid (HA1.out.keep hb1); have HB1 := Lib.hid (HB1.out.keep hb1); have a1 := HA1.out; have b1 := HB1.out; have d0 := a1.cell 0 _ rfl; have d1 := a1.cell 1 _ rfl; have d2 := a1.cell 2 _ rfl; have d3 := a1.cell 3 _ rfl; have d4 := a1.cell 4 _ rfl; have d5 := a1.cell 5 _ rfl; have d6 := a1.cell 6 _ rfl; have d7 := a1.cell 7 _ rfl; have d8 := a1.cell 8 _ rfl; have d9 := a1.cell 9 _ rfl; have d10 := a1.cell 10 _ rfl; have e0 := b1.cell 0 _ rfl; have e1 := b1.cell 1 _ rfl; have e2 := b1.cell 2 _ rfl; have e3 := b1.cell 3 _ rfl; have e4 := b1.cell 4 _ rfl; have e5 := b1.cell 5 _ rfl; have e6 := b1.cell 6 _ rfl; have e7 := b1.cell 7 _ rfl; have e8 := b1.cell 8 _ rfl; have e9 := b1.cell 9 _ rfl; have e10 := b1.cell 10 _ rfl; have HB := Lib.hid (HB.out.trans (hb1.mono HB.out.size)); clear hb1 a1 b1
    by_cases h2 : a.ex = b.ex
    · rw [decide_eq_true h2]
      have H2 := Lib.hid h2; clear h2
      by_cases h3 : a.ins.length = b.ins.length
      · have h3b : ((a.ins.length : Int) != (b.ins.length : Int)) = false := by simp [h3]
        have H3 := Lib.hid h3; have h3i : (a.ins.length : Int) = (b.ins.length : Int) := by omega
        clear h3
        go_wp2_with fail
        go_loopw [5] (fun j wr => ∃ i : Nat, i ≤ a.ins.length ∧ j = .int .i64 i ∧ a.ins.take i = b.ins.take i ∧ Below w1.heap.size w1 wr) (fun j _ => a.ins.length - (intOf j).toNat)
        case atStart => exact ⟨0, Nat.zero_le _, rfl, by simp, Below.refl _ _⟩
        case round =>
          obtain ⟨i, hi, rfl, htk, hbl⟩ := hrel; obtain ⟨W0, rfl⟩ : ∃ z, z = wr := ⟨_, rfl⟩; have HTk := Lib.hid htk; have HBl := Lib.hid hbl; clear htk hbl d0 d1 d2 d3 d4 d5 d6 d7 d8 d9 d10 e0 e1 e2 e3 e4 e5 e6 e7 e8 e9 e10 h3b h3i; have a1 := HA1.out.keep HBl.out; have b1 := HB1.out.keep HBl.out; have d0 := a1.cell 0 _ rfl; have d1 := a1.cell 1 _ rfl; have d2 := a1.cell 2 _ rfl; have d3 := a1.cell 3 _ rfl; have d4 := a1.cell 4 _ rfl; have d5 := a1.cell 5 _ rfl; have d6 := a1.cell 6 _ rfl; have d7 := a1.cell 7 _ rfl; have d8 := a1.cell 8 _ rfl; have d9 := a1.cell 9 _ rfl; have d10 := a1.cell 10 _ rfl; have e0 := b1.cell 0 _ rfl; have e1 := b1.cell 1 _ rfl; have e2 := b1.cell 2 _ rfl; have e3 := b1.cell 3 _ rfl; have e4 := b1.cell 4 _ rfl; have e5 := b1.cell 5 _ rfl; have e6 := b1.cell 6 _ rfl; have e7 := b1.cell 7 _ rfl; have e8 := b1.cell 8 _ rfl; have e9 := b1.cell 9 _ rfl; have e10 := b1.cell 10 _ rfl; clear a1 b1
          by_cases hlt : i < a.ins.length
          · have hki : (i : Int) < (a.ins.length : Int) := by omega
            have hlb : i < b.ins.length := by have := H3.out; omega
            have hkb : (i : Int) < (b.ins.length : Int) := by omega
            obtain ⟨ba, oa, rfl, -, ca⟩ := (Hia.out.mono ((HB.out.trans (HBl.out.mono HB.out.size)).mono hn) (Nat.le_refl _)).get hlt; obtain ⟨bb, ob, rfl, -, cb⟩ := (Hib.out.mono ((HB.out.trans (HBl.out.mono HB.out.size)).mono hn) (Nat.le_refl _)).get hlb; have HSt := Lib.hid (fun h => take_eq_step (a := a.ins) (b := b.ins) HTk.out hlt hlb h); have HNe := Lib.hid (fun h => ne_of_at (a := a.ins) (b := b.ins) hlt hlb h); generalize a.ins[i] = u at *; generalize b.ins[i] = v at *
            by_cases huv : u = v
            · have huvb : (u != v) = false := by simpa using huv
              have HS2 := Lib.hid (HSt.out huv); clear huv HSt HNe
              go_upto_region 6 with fail
              go_quiet (fail)
              go_wp2; exact ⟨⟨i + 1, by omega, by go_num, HS2.out, below_drewN HBl.out _⟩, by simp [intOf]; omega⟩
            · have huvb : (u != v) = true := by simpa using huv
              have HN2 := Lib.hid (HNe.out huv); clear huv HSt HNe
              go_upto_region 6 with fail
              go_quiet (fail)
              go_wp2; go_ret; exact ⟨ret_bool (ndEq_false (fun h => HN2.out h.2.2)).symm, HB.out.trans ((below_drewN HBl.out _).mono HB.out.size)⟩
          · have hi2 : i = a.ins.length := by omega
            subst hi2; go_wp2; go_ret; refine ⟨ret_bool ?_, HB.out.trans (HBl.out.mono HB.out.size)⟩; rw [eq_comm, ndEq_iff]; have h6 := eq_of_upto H3.out HTk.out; have h4 := H1.out; have h5 := H2.out; cases a; cases b; simp only at h4 h5 h6; subst h4 h5 h6; rfl
      · have h3b : ((a.ins.length : Int) != (b.ins.length : Int)) = true := by simp; omega
        have H3 := Lib.hid h3; clear h3; go_wp2; go_ret; exact ⟨ret_bool (ndEq_false (fun h => H3.out (by rw [h.2.2]))).symm, HB.out⟩
    · rw [decide_eq_false h2]
      have H2 := Lib.hid h2; clear h2; go_wp2; go_ret; exact ⟨ret_bool (ndEq_false (fun h => H2.out h.2.1)).symm, HB.out⟩
  · have h1b : (a.every != b.every) = true := by simpa using h1
    have H1 := Lib.hid h1; clear h1; go_wp2; go_ret; exact ⟨ret_bool (ndEq_false (fun h => H1.out h.1)).symm, HB.out⟩
end Go.Proofs.YtdjdikiimhhjpaaGreatDoor
namespace Go.Proofs.YtdjdikiimhhjpaaGreatDoor
open Go.RowKit
set_option linter.unusedSimpArgs false
set_option linter.unusedVariables false
theorem putNs_snoc (ev : Int) (k : Ex) : ∀ (ks : List Ex) (L : List Nd), putNs ev (ks ++ [k]) L = ((putN ev k (putNs ev ks L).1).1, (putNs ev ks L).2 ++ [(putN ev k (putNs ev ks L).1).2])
  | [], L => by simp [putNs]
  | a :: ks, L => by rw [List.cons_append, putNs, putNs_snoc ev k ks, putNs]; rfl
theorem addN_len (n : Nd) (P : List Nd) : (addN n P).1.length ≤ P.length + 1 := by
  unfold addN; split <;> simp
theorem putN_len (ev : Int) : ∀ (e : Ex) (L : List Nd), (putN ev e L).1.length ≤ L.length + e.size := by
  refine Ex.ind fun e ih => ?_
  intro L
  have hks : ∀ (ks : List Ex), (∀ k ∈ ks, ∀ L, (putN ev k L).1.length ≤ L.length + k.size) → ∀ L, (putNs ev ks L).1.length ≤ L.length + sizes ks := by
    intro ks
    induction ks with
    | nil => intro _ L; simp [putNs]
    | cons k ks ih2 =>
      intro h L; have h1 := h k (by simp) L; have h2 := ih2 (fun k hk => h k (by simp [hk])) (putN ev k L).1; rw [putNs]; simp only [sizes]; omega
  have h1 := hks e.kids (fun k hk L => ih k hk L) L
  have h2 := addN_len ⟨ev, e.bare, (putNs ev e.kids L).2⟩ (putNs ev e.kids L).1
  have h3 := e.size_eq
  rw [putN_eq]; omega
theorem putNs_len (ev : Int) : ∀ (ks : List Ex) (L : List Nd), (putNs ev ks L).1.length ≤ L.length + sizes ks
  | [], L => by simp [putNs]
  | k :: ks, L => by
    have h1 := putN_len ev k L; have h2 := putNs_len ev ks (putN ev k L).1; rw [putNs]; simp only [sizes]; omega
theorem putNs_len2 (ev : Int) : ∀ (ks : List Ex) (L : List Nd), (putNs ev ks L).2.length = ks.length
  | [], L => by rw [putNs]; rfl
  | k :: ks, L => by rw [putNs, List.length_cons, putNs_len2 ev ks, List.length_cons]
theorem findN_none {n : Nd} : ∀ {P : List Nd} {i : Nat}, (∀ k (h : k < P.length), ndEq P[k] n = false) → findN n P i = none
  | [], i, _ => rfl
  | x :: P, i, h => by
    have h0 := h 0 (by simp); simp only [List.getElem_cons_zero] at h0; rw [findN, h0]; exact findN_none (fun k hk => h (k + 1) (by simp; omega))
theorem findN_some {n : Nd} : ∀ {P : List Nd} {i k : Nat} (hk : k < P.length), (∀ j (h : j < k), ndEq (P[j]'(by omega)) n = false) → ndEq P[k] n = true → findN n P i = some (i + k)
  | x :: P, i, 0, hk, _, h => by
    simp only [List.getElem_cons_zero] at h; rw [findN, h]; rfl
  | x :: P, i, k + 1, hk, h1, h => by
    have h0 := h1 0 (by omega); simp only [List.getElem_cons_zero] at h0; rw [findN, h0]; have := findN_some (P := P) (i := i + 1) (k := k) (by simp at hk; omega) (fun j hj => by have := h1 (j + 1) (by omega); simpa using this) (by simpa using h); rw [show i + (k + 1) = i + 1 + k by omega]; exact this
def RPutOk (n0 base : Nat) (e : Ex) : Prop := ∀ (M : Nat → Prop) (ev : Int) (cs : List Value) (W : World) (P : List Nd) (v : Value) (rows : List (List Value)),
  NdL M base W v P rows → (∀ b, M b → n0 ≤ b ∧ b < W.heap.size) → base ≤ W.heap.size → IsEx n0 W e cs → e.thin → P.length + e.size ≤ 9999 →
  Calls Tryz.prog 17 #[v, .int .i64 ev, .agg cs.toArray] W fun e' W' => ∃ v' rows', e' = .returned (.tuple #[v', .int .i64 (putN ev e P).2]) ∧ NdL M base W' v' (putN ev e P).1 rows' ∧ OffM (fun b => v.ownBlock = some b) W W' ∧ (∀ b, v'.ownBlock = some b → v.ownBlock = some b ∨ W.heap.size ≤ b)
theorem rPut (n0 base : Nat) (hnb : n0 ≤ base) : ∀ e, RPutOk n0 base e := by
  refine Ex.ind fun e ih => ?_
  intro M ev cs W P v rows hk hM hbs he hth hsz
  obtain ⟨pm, cm, pn, cn, pk, ck, rfl, -, -, -, hka⟩ := he.cellsE
  obtain ⟨_, _, hkv, _, _, hkl⟩ := hka.open
  unfold maxLen at hkl
  have hvrow := fun b hb => ownsRow_block hk.1 b hb
  obtain ⟨av, cv, hv⟩ := ownsRow_slice hk.1
  subst hv
  have HKids := Lib.hid hka; have He := Lib.hid he; have HTh := Lib.hid hth; have HM := Lib.hid hM; have Hih := Lib.hid ih; have HNd := Lib.hid hk; have Hsz := Lib.hid hsz; have HVr := Lib.hid hvrow
  have hn0W : n0 ≤ W.heap.size := Nat.le_trans hnb hbs
  obtain ⟨i0, hi, hz0, hz1, hz2⟩ := info_parts infoNp
  clear hka he hth hM ih hk hsz hkv hvrow
  go_enter Tryz.func17, Tryz.ntmps17; (try simp only [List.append_eq, List.cons_append, List.nil_append])
  go_upto_region 1 with fail
  obtain ⟨X, hW⟩ : ∃ z, W.alloc (.cells #[.int .i64 e.kind, .int .i64 e.fn, .int .i64 e.op, .int .i64 e.num, .string e.metric, .slice pm e.mats.length cm, .int .i64 e.span, .slice pn e.names.length cn, .slice pk e.kids.length ck] 37) = z := ⟨_, rfl⟩
  have B1 : Blk X W.heap.size 37 [.int .i64 e.kind, .int .i64 e.fn, .int .i64 e.op, .int .i64 e.num, .string e.metric, .slice pm e.mats.length cm, .int .i64 e.span, .slice pn e.names.length cn, .slice pk e.kids.length ck] := by rw [← hW]; exact Blk.new W _ _
  have bX : Below W.heap.size W X := by rw [← hW]; exact (Below.refl _ _).alloc (Nat.le_refl _) _
  have hzX : X.heap.size = W.heap.size + 1 := by rw [← hW]; simp
  rw [hW]; clear hW
  have HB1 := Lib.hid B1; have HbX := Lib.hid bX; have HZX := Lib.hid hzX
  have HBr := Lib.hid (rBare e _ n0 X (Nat.le_trans hn0W bX.size) (He.out.mono (bX.mono hn0W) (Nat.le_refl _)) HTh.out (by have := Hsz.out; omega))
  have c0 := B1.cell 0 _ rfl; have c1 := B1.cell 1 _ rfl; have c2 := B1.cell 2 _ rfl; have c3 := B1.cell 3 _ rfl; have c4 := B1.cell 4 _ rfl; have c5 := B1.cell 5 _ rfl; have c6 := B1.cell 6 _ rfl; have c7 := B1.cell 7 _ rfl; have c8 := B1.cell 8 _ rfl
  clear B1 bX hzX
  go_wp2_with fail
  refine HBr.out.mono ?_
  rintro e' w2 ⟨cs', rfl, hfr, hb2⟩
  obtain ⟨qm, dm, qn, dn, qk, dk, rfl⟩ : ∃ qm dm qn dn qk dk, cs' = [.int .i64 e.kind, .int .i64 e.fn, .int .i64 e.op, .int .i64 e.num, .string e.metric, .slice qm e.mats.length dm, .int .i64 e.span, .slice qn e.names.length dn, .slice qk 0 dk] := by
    obtain ⟨vm, vn, vk, rows0, hcs, m1, m2, m3, -, -⟩ := hfr.cells; obtain ⟨qm, dm, h1⟩ := ownsRow_slice m1.1; obtain ⟨qn, dn, h2⟩ := ownsRow_slice m2.1; obtain ⟨qk, dk, h3⟩ := ownsRow_slice m3.1; subst h1 h2 h3; exact ⟨qm, dm, qn, dn, qk, dk, hcs⟩
  clear c0 c1 c2 c3 c4 c5 c6 c7 c8 HBr
  have HFr := Lib.hid hfr; have HB2 := Lib.hid hb2; have HB1b := Lib.hid (HB1.out.keep hb2)
  clear hfr hb2
  go_upto_region 2 with fail
  obtain ⟨Y, hW⟩ : ∃ z, w2.alloc (.cells #[.int .i64 ev, .int .i64 e.kind, .int .i64 e.fn, .int .i64 e.op, .int .i64 e.num, .string e.metric, .slice qm e.mats.length dm, .int .i64 e.span, .slice qn e.names.length dn, .slice qk 0 dk, .slice none 0 0] 39) = z := ⟨_, rfl⟩
  have N8 : Blk Y w2.heap.size 39 [.int .i64 ev, .int .i64 e.kind, .int .i64 e.fn, .int .i64 e.op, .int .i64 e.num, .string e.metric, .slice qm e.mats.length dm, .int .i64 e.span, .slice qn e.names.length dn, .slice qk 0 dk, .slice none 0 0] := by rw [← hW]; exact Blk.new w2 _ _
  have bY : Below w2.heap.size w2 Y := by rw [← hW]; exact (Below.refl _ _).alloc (Nat.le_refl _) _
  have hzY : Y.heap.size = w2.heap.size + 1 := by rw [← hW]; simp
  rw [hW]; clear hW
  have hs2 := HB2.out.size; have hsX := HZX.out
  have bWY : Below W.heap.size W Y := (HbX.out.trans (HB2.out.mono HbX.out.size)).trans (bY.mono (by omega))
  have HN8 := Lib.hid N8; have HbY := Lib.hid bY; have HZY := Lib.hid hzY; have HB5 := Lib.hid (HB1b.out.keep bY); have HFrY := Lib.hid (HFr.out.keep (w' := Y) (fun i h1 h2 => bY.block i h2))
  have HNdY := Lib.hid (NdL.more (n := 0) (M' := fun b => M b ∨ b = w2.heap.size ∨ (Value.slice none 0 0).ownBlock = some b) HNd.out bWY (fun b hb h => by
    rcases h with h | h | h
    · exact h
    · omega
    · cases h))
  have HWY := Lib.hid bWY
  clear N8 bY hzY bWY HFr HB1b HB1 hs2 hsX
  go_wp2_with fail
  go_loopw [0, 9] (fun s0 j wr => ∃ (i : Nat) (rows1 : List (List Value)) (vi : Value), i ≤ e.kids.length ∧ j = .int .i64 i ∧ NdL (fun b => M b ∨ b = w2.heap.size ∨ vi.ownBlock = some b) base wr s0 (putNs ev (e.kids.take i) P).1 rows1 ∧ OwnI 3 Y.heap.size wr vi (putNs ev (e.kids.take i) P).2 ∧
    Blk wr w2.heap.size 39 [.int .i64 ev, .int .i64 e.kind, .int .i64 e.fn, .int .i64 e.op, .int .i64 e.num, .string e.metric, .slice qm e.mats.length dm, .int .i64 e.span, .slice qn e.names.length dn, .slice qk 0 dk, vi] ∧ OffM (fun b => (Value.slice av P.length cv).ownBlock = some b) W wr ∧ (∀ b, s0.ownBlock = some b → (Value.slice av P.length cv).ownBlock = some b ∨ Y.heap.size ≤ b) ∧ Fresh X.heap.size w2.heap.size wr e.bare [.int .i64 e.kind, .int .i64 e.fn, .int .i64 e.op, .int .i64 e.num, .string e.metric, .slice qm e.mats.length dm, .int .i64 e.span, .slice qn e.names.length dn, .slice qk 0 dk] ∧
    Blk wr W.heap.size 37 [.int .i64 e.kind, .int .i64 e.fn, .int .i64 e.op, .int .i64 e.num, .string e.metric, .slice pm e.mats.length cm, .int .i64 e.span, .slice pn e.names.length cn, .slice pk e.kids.length ck] ∧ Y.heap.size ≤ wr.heap.size) (fun _ j _ => e.kids.length - (intOf j).toNat)
  case atStart =>
    have h0 : putNs ev (e.kids.take 0) P = (P, []) := by rw [List.take_zero, putNs]
    refine ⟨0, rows, .slice none 0 0, Nat.zero_le _, rfl, ?_, ?_, HN8.out, OffM.of HWY.out, fun b h => Or.inl h, HFrY.out, HB5.out, Nat.le_refl _⟩
    · rw [h0]; exact HNdY.out
    · rw [h0]; exact OwnI.nil
  case round =>
    clear HN8 HFrY HB5 HNdY; obtain ⟨i, rows1, vi, hik, rfl, hnd, hvi, h8, ho, hv1, hfr, h5, hsx⟩ := hrel; obtain ⟨W0, rfl⟩ : ∃ z, z = wr := ⟨_, rfl⟩; have HNd1 := Lib.hid hnd; have HVi := Lib.hid hvi; have H8 := Lib.hid h8; have Ho := Lib.hid ho; have Hv1 := Lib.hid hv1; have HFr := Lib.hid hfr; have H5 := Lib.hid h5; clear hnd hvi h8 ho hv1 hfr h5; have hn0 : Below n0 W W0 := Ho.out.below (fun b hb => by have := (HVr.out b hb).1; omega) hn0W; have HN0 := Lib.hid hn0; clear hn0; have hvb : ∀ b, u0.ownBlock = some b → base ≤ b ∧ b < W0.heap.size := fun b hb => ownsRow_block HNd1.out.1 b hb
    have hvo : ∀ b, vi.ownBlock = some b → Y.heap.size ≤ b ∧ b < W0.heap.size := fun b hb => ownsRow_block HVi.out b hb
    have HVb := Lib.hid hvb; have HVo := Lib.hid hvo; clear hvb hvo; have c := H5.out; have f0 := c.cell 0 _ rfl; have f1 := c.cell 1 _ rfl; have f2 := c.cell 2 _ rfl; have f3 := c.cell 3 _ rfl; have f4 := c.cell 4 _ rfl; have f5 := c.cell 5 _ rfl; have f6 := c.cell 6 _ rfl; have f7 := c.cell 7 _ rfl; have f8 := c.cell 8 _ rfl; clear c
    by_cases hlt : i < e.kids.length
    · have hki : (i : Int) < (e.kids.length : Int) := by omega
      obtain ⟨b, off, rm, sm, rn, sn, rk, sk, rfl, hbn, hyx, c0, c1, c2, c3, c4, c5, c6, c7, c8⟩ := (HKids.out.mono HN0.out (Nat.le_refl _)).getE (Cells.refl _ _) hlt; have hst := putNs_snoc ev e.kids[i] (e.kids.take i) P; rw [← List.take_succ_eq_append_getElem hlt] at hst; have Hst := Lib.hid hst; clear hst; have HIH := Lib.hid (Hih.out e.kids[i] (List.getElem_mem hlt)); have HTy := Lib.hid (Ex.thin_kid HTh.out hlt); have hroom : (putNs ev (e.kids.take i) P).1.length + e.kids[i].size ≤ 9999 := by
        have h1 := putNs_len ev (e.kids.take i) P; have h3 := sizes_step (l := e.kids) hlt; have h4 := sizes_take_le e.kids (i + 1); have h5 := Ex.size_eq e; have h6 := Hsz.out; omega
      have hvl : (putNs ev (e.kids.take i) P).2.length = i := by rw [putNs_len2, List.length_take]; omega
      have Hroom := Lib.hid hroom; have Hvl := Lib.hid hvl; clear hroom hvl; generalize e.kids[i] = y at *; obtain ⟨Li, hLi⟩ : ∃ z, (putNs ev (e.kids.take i) P).1 = z := ⟨_, rfl⟩; obtain ⟨vl, hvl⟩ : ∃ z, (putNs ev (e.kids.take i) P).2 = z := ⟨_, rfl⟩; rw [hLi] at HNd1 Hst Hroom; rw [hvl] at HVi Hst Hvl; clear hLi hvl; have HCall := Lib.hid (HIH.out _ ev _ W0 _ _ _ HNd1.out (fun b hb => by
        have h1 := HZX.out; have h2 := HB2.out.size; have h3 := HZY.out; rcases hb with hb | hb | hb
        · have := HM.out b hb; have := Ho.out.size; omega
        · omega
        · have := HVo.out b hb; omega) (by have := Ho.out.size; omega) hyx HTy.out Hroom.out)
      obtain ⟨a1, cv1, hv1⟩ := ownsRow_slice HNd1.out.1; subst hv1; clear hyx HIH
      go_wp2_with fail
      refine HCall.out.mono ?_; rintro e' w3 ⟨v2, rows2, rfl, hnd2, ho2, hv2⟩; clear c0 c1 c2 c3 c4 c5 c6 c7 c8 f0 f1 f2 f3 f4 f5 f6 f7 f8 HCall; have hzx := HZX.out; have hzy := HZY.out; have hs2 := HB2.out.size; have hso := ho2.size; have hsep : ∀ k, k < Y.heap.size → W.heap.size ≤ k → (Value.slice a1 Li.length cv1).ownBlock ≠ some k := fun k h1 h2 hb => by
        rcases Hv1.out k hb with h3 | h3
        · have := (HVr.out k h3).2; omega
        · omega
      have h83 : Blk w3 w2.heap.size 39 [.int .i64 ev, .int .i64 e.kind, .int .i64 e.fn, .int .i64 e.op, .int .i64 e.num, .string e.metric, .slice qm e.mats.length dm, .int .i64 e.span, .slice qn e.names.length dn, .slice qk 0 dk, vi] := (ho2.block _ H8.out.lt (fun h => hsep _ (by omega) (by omega) h)).trans H8.out; have h53 : Blk w3 W.heap.size 37 [.int .i64 e.kind, .int .i64 e.fn, .int .i64 e.op, .int .i64 e.num, .string e.metric, .slice pm e.mats.length cm, .int .i64 e.span, .slice pn e.names.length cn, .slice (some ⟨b, off, none⟩) e.kids.length ck] := (ho2.block _ H5.out.lt (fun h => hsep _ (by omega) (Nat.le_refl _) h)).trans H5.out; have hfr3 : Fresh X.heap.size w2.heap.size w3 e.bare [.int .i64 e.kind, .int .i64 e.fn, .int .i64 e.op, .int .i64 e.num, .string e.metric, .slice qm e.mats.length dm, .int .i64 e.span, .slice qn e.names.length dn, .slice qk 0 dk] := HFr.out.keep (fun k h1 h2 => ho2.block k (by omega) (fun h => hsep k (by omega) (by omega) h)); have hvi3 : OwnI 3 Y.heap.size w3 vi vl := HVi.out.offM ho2 (fun b hb h => own_ne HVi.out HNd1.out.1 (by decide) hb h); have ho3 : OffM (fun b => (Value.slice av P.length cv).ownBlock = some b) W w3 := Ho.out.trans ho2 (fun k hk h => by
        rcases Hv1.out k h with h3 | h3
        · exact h3
        · have := (HVb.out k h).2; omega)
      have hv3 : ∀ b, v2.ownBlock = some b → (Value.slice av P.length cv).ownBlock = some b ∨ Y.heap.size ≤ b := fun b hb => by
        rcases hv2 b hb with h1 | h1
        · exact Hv1.out b h1
        · right; omega
      obtain ⟨a2, cv2, hv2q⟩ := ownsRow_slice hnd2.1; subst hv2q; obtain ⟨ai, ci, hviq⟩ := ownsRow_slice hvi3; subst hviq; have H83 := Lib.hid h83; have H53 := Lib.hid h53; have HFr3 := Lib.hid hfr3; have HVi3 := Lib.hid hvi3; have Ho3 := Lib.hid ho3; have Hv3 := Lib.hid hv3; have HNd3 := Lib.hid hnd2; have hs3 : Y.heap.size ≤ w3.heap.size := by omega
      have hlen : vl.length ≤ 1000000 := by have := Hvl.out; have := len_sizes e.kids; have := Ex.size_eq e; have := Hsz.out; omega
      clear h83 h53 hfr3 hvi3 ho3 hv3 hnd2 ho2 hv2 hsep hso H8 H5 HFr HVi Ho Hv1 HNd1; generalize hr : (putN ev y Li).2 = r; have Hr := Lib.hid hr; clear hr hzx hzy hs2; have d10 := H83.out.cell 10 _ rfl
      go_wp2_with (at_builtin; refine app_int rfl _ _ rfl Y.heap.size _ vl r w3.heap.size rfl rfl (HVi3.out.keep ((Below.refl _ _).alloc (Nat.le_refl _) _)) (by go_simp) hlen (by simp; omega) ?_)
      intro vi' w4 hown4 hg4 hat4; have hzx := HZX.out; have hzy := HZY.out; have hs2 := HB2.out.size; have bA : Below w3.heap.size w3 (w3.alloc (.cells #[.int .i64 r] 3)) := (Below.refl _ _).alloc (Nat.le_refl _) _; have hzA : (w3.alloc (.cells #[.int .i64 r] 3)).heap.size = w3.heap.size + 1 := World.size_alloc _ _; obtain ⟨A, hA⟩ : ∃ z, w3.alloc (.cells #[.int .i64 r] 3) = z := ⟨_, rfl⟩; rw [hA] at bA hzA hg4; clear hA d10; have hviA := HVi3.out.keep bA; have hndA := HNd3.out.keep bA; have hoG : OffM (fun k => (Value.slice ai vl.length ci).ownBlock = some k) A w4 := OffM.grown hg4; have hui : ∀ b, (Value.slice ai vl.length ci).ownBlock = some b → Y.heap.size ≤ b := fun b hb => (ownsRow_block hviA b hb).1
      have hnd4 : NdL (fun b => M b ∨ b = w2.heap.size ∨ vi'.ownBlock = some b) base w4 (.slice a2 (putN ev y Li).1.length cv2) (putN ev y Li).1 rows2 := hndA.turn hoG (fun b _ hb => Or.inr (Or.inr hb)) (fun g hg hb => own_ne hviA hndA.1 (by decide) hb hg) (fun b hb h => by
        rcases h with h | h | h
        · exact Or.inl h
        · exact Or.inr (Or.inl h)
        · rcases hat4 with h1 | h1
          · rw [h1] at h; exact Or.inr (Or.inr h)
          · rw [h1] at h; have := Option.some.inj h; omega)
      have h84 : Blk w4 w2.heap.size 39 [.int .i64 ev, .int .i64 e.kind, .int .i64 e.fn, .int .i64 e.op, .int .i64 e.num, .string e.metric, .slice qm e.mats.length dm, .int .i64 e.span, .slice qn e.names.length dn, .slice qk 0 dk, .slice ai vl.length ci] := (hoG.block _ (H83.out.keep bA).lt (fun h => by have := hui _ h; omega)).trans (H83.out.keep bA); have h54 : Blk w4 W.heap.size 37 [.int .i64 e.kind, .int .i64 e.fn, .int .i64 e.op, .int .i64 e.num, .string e.metric, .slice pm e.mats.length cm, .int .i64 e.span, .slice pn e.names.length cn, .slice (some ⟨b, off, none⟩) e.kids.length ck] := (hoG.block _ (H53.out.keep bA).lt (fun h => by have := hui _ h; omega)).trans (H53.out.keep bA); have hfr4 : Fresh X.heap.size w2.heap.size w4 e.bare [.int .i64 e.kind, .int .i64 e.fn, .int .i64 e.op, .int .i64 e.num, .string e.metric, .slice qm e.mats.length dm, .int .i64 e.span, .slice qn e.names.length dn, .slice qk 0 dk] := HFr3.out.keep (fun k h1 h2 => (hoG.block k (by omega) (fun h => by have := hui _ h; omega)).trans (bA.block k (by omega))); have ho4 : OffM (fun b => (Value.slice av P.length cv).ownBlock = some b) W w4 := (Ho3.out.trans (OffM.of bA) (fun k _ h => h)).trans hoG (fun k hk h => by have := hui k h; omega); obtain ⟨aj, cj, hviq⟩ := ownsRow_slice hown4; rw [List.length_append, List.length_singleton] at hviq; subst hviq; have hs4 : Y.heap.size ≤ w4.heap.size := by have := hoG.size; omega
      have fr := h84.free 10; have d10 := h84.cell 10 _ rfl; have og := OffM.cell1 w4 w2.heap.size 10 (.slice aj (vl.length + 1) cj); have hN5 : NdL (fun b => M b ∨ b = w2.heap.size ∨ (Value.slice aj (vl.length + 1) cj).ownBlock = some b) base (w4.setCell ⟨w2.heap.size, 10, none⟩ (.slice aj (vl.length + 1) cj)) (.slice a2 (putN ev y Li).1.length cv2) (putN ev y Li).1 rows2 :=
        hnd4.off og (fun b _ hb => Or.inr (Or.inl hb)) (fun g hg hb => by
          rcases Hv3.out g hg with h3 | h3
          · have := (HVr.out g h3).2; omega
          · omega)
      have hV5 : OwnI 3 Y.heap.size (w4.setCell ⟨w2.heap.size, 10, none⟩ (.slice aj (vl.length + 1) cj)) (.slice aj (vl.length + 1) cj) (vl ++ [r]) := hown4.offM og (fun g hg hb => by have := (ownsRow_block hown4 g hg).1; omega); have h85 := h84.set_ 10 (.slice aj (vl.length + 1) cj); have h55 : Blk (w4.setCell ⟨w2.heap.size, 10, none⟩ (.slice aj (vl.length + 1) cj)) W.heap.size 37 [.int .i64 e.kind, .int .i64 e.fn, .int .i64 e.op, .int .i64 e.num, .string e.metric, .slice pm e.mats.length cm, .int .i64 e.span, .slice pn e.names.length cn, .slice (some ⟨b, off, none⟩) e.kids.length ck] := h54.far (by simp; omega) _; have hf5 : Fresh X.heap.size w2.heap.size (w4.setCell ⟨w2.heap.size, 10, none⟩ (.slice aj (vl.length + 1) cj)) e.bare [.int .i64 e.kind, .int .i64 e.fn, .int .i64 e.op, .int .i64 e.num, .string e.metric, .slice qm e.mats.length dm, .int .i64 e.span, .slice qn e.names.length dn, .slice qk 0 dk] := hfr4.keep (fun k h1 h2 => og.block k (by omega) (fun h => by omega)); have ho5 : OffM (fun b => (Value.slice av P.length cv).ownBlock = some b) W (w4.setCell ⟨w2.heap.size, 10, none⟩ (.slice aj (vl.length + 1) cj)) := ho4.trans og (fun k hk h => by omega); have hs5 : Y.heap.size ≤ (w4.setCell ⟨w2.heap.size, 10, none⟩ (.slice aj (vl.length + 1) cj)).heap.size := by have := og.size; omega
      have HN5 := Lib.hid hN5; have HV5 := Lib.hid hV5; have H85 := Lib.hid h85; have H55 := Lib.hid h55; have HF5 := Lib.hid hf5; have Ho5 := Lib.hid ho5; have Hs5 := Lib.hid hs5; clear hN5 hV5 h85 h55 hf5 ho5 hs5 og h84 h54 hfr4 ho4 hnd4 hoG hui hviA hndA hown4 hg4 hat4 bA hzA hzx hzy hs2; go_wp2; refine ⟨⟨i + 1, rows2, _, by omega, by go_num, ?_, ?_, H85.out, Ho5.out, Hv3.out, HF5.out, H55.out, Hs5.out⟩, by simp [intOf]; omega⟩
      · rw [Hst.out]; exact HN5.out
      · rw [Hst.out, Hr.out]; exact HV5.out
    · have hi2 : i = e.kids.length := by omega
      subst hi2; have hnd := HNd1.out; have hvi := HVi.out; rw [List.take_length] at hnd hvi; obtain ⟨P2, hP2⟩ : ∃ z, (putNs ev e.kids P).1 = z := ⟨_, rfl⟩; obtain ⟨il, hil⟩ : ∃ z, (putNs ev e.kids P).2 = z := ⟨_, rfl⟩; have hplen : P2.length ≤ 9999 := by
        have h1 := putNs_len ev e.kids P; have h5 := Ex.size_eq e; have h6 := Hsz.out; rw [hP2] at h1; omega
      have hput : putN ev e P = addN ⟨ev, e.bare, il⟩ P2 := by rw [putN_eq, hP2, hil]
      rw [hP2] at hnd; rw [hil] at hvi; have HPut := Lib.hid hput; obtain ⟨a1, cv1, hv1⟩ := ownsRow_slice hnd.1; subst hv1; obtain ⟨ai, ci, hviq⟩ := ownsRow_slice hvi; subst hviq; have hin : IsNd W0.heap.size W0 ⟨ev, e.bare, il⟩ [.int .i64 ev, .int .i64 e.kind, .int .i64 e.fn, .int .i64 e.op, .int .i64 e.num, .string e.metric, .slice qm e.mats.length dm, .int .i64 e.span, .slice qn e.names.length dn, .slice qk 0 dk, .slice ai il.length ci] := ⟨[.int .i64 e.kind, .int .i64 e.fn, .int .i64 e.op, .int .i64 e.num, .string e.metric, .slice qm e.mats.length dm, .int .i64 e.span, .slice qn e.names.length dn, .slice qk 0 dk], _, rfl, HFr.out.isEx (by have := HZY.out; omega), hvi.ints (Nat.le_refl _)⟩; have HIn := Lib.hid hin; have HNds := Lib.hid (hnd.nds (Nat.le_refl _)); have HNd2 := Lib.hid hnd; have HVi2 := Lib.hid hvi; obtain ⟨nn, hnn⟩ : ∃ z, (⟨ev, e.bare, il⟩ : Nd) = z := ⟨_, rfl⟩; rw [hnn] at HIn HPut; have HNn := Lib.hid hnn; clear hin hnd hvi hP2 hil hput HNd1 HVi hnn
      go_wp2_with fail
      clear f0 f1 f2 f3 f4 f5 f6 f7 f8
      go_loopw [11] (fun j wr => ∃ k : Nat, k ≤ P2.length ∧ j = .int .i64 k ∧ (∀ x (h : x < P2.length), x < k → ndEq P2[x] nn = false) ∧ Below W0.heap.size W0 wr) (fun j _ => P2.length - (intOf j).toNat)
      case atStart => exact ⟨0, Nat.zero_le _, rfl, fun x h hx => by omega, Below.refl _ _⟩
      case round =>
        obtain ⟨k, hkk, rfl, hno, hbl⟩ := hrel; obtain ⟨W1, rfl⟩ : ∃ z, z = wr := ⟨_, rfl⟩; have HNo := Lib.hid hno; have HBl := Lib.hid hbl; clear hno hbl; have h8 := H8.out.keep HBl.out; have d0 := h8.cell 0 _ rfl; have d1 := h8.cell 1 _ rfl; have d2 := h8.cell 2 _ rfl; have d3 := h8.cell 3 _ rfl; have d4 := h8.cell 4 _ rfl; have d5 := h8.cell 5 _ rfl; have d6 := h8.cell 6 _ rfl; have d7 := h8.cell 7 _ rfl; have d8 := h8.cell 8 _ rfl; have d9 := h8.cell 9 _ rfl; have d10 := h8.cell 10 _ rfl; clear h8
        by_cases hlk : k < P2.length
        · have hki : (k : Int) < (P2.length : Int) := by omega
          obtain ⟨b, off, rm, sm, rn, sn, rk, sk, ri, si, rfl, hbn, hx1, hi1, hc⟩ := (HNds.out.mono HBl.out (Nat.le_refl _)).get hlk; have c0 : W1.cell? ⟨b, off + k * 11, none⟩ = some (.int .i64 P2[k].every) := hc 0 _ rfl; have c1 := hc 1 _ rfl; have c2 := hc 2 _ rfl; have c3 := hc 3 _ rfl; have c4 := hc 4 _ rfl; have c5 := hc 5 _ rfl; have c6 := hc 6 _ rfl; have c7 := hc 7 _ rfl; have c8 := hc 8 _ rfl; have c9 := hc 9 _ rfl; have c10 := hc 10 _ rfl; have HSm := Lib.hid (fun Z (hZ : Below W1.heap.size W1 Z) => rSameNd P2[k] nn _ _ W0.heap.size Z (Nat.le_trans HBl.out.size hZ.size) (⟨_, _, rfl, hx1.mono (hZ.mono HBl.out.size) (Nat.le_refl _), hi1.mono (hZ.mono HBl.out.size) (Nat.le_refl _)⟩ : IsNd W0.heap.size Z P2[k] (ndCells P2[k] rm sm rn sn rk sk ri si)) (HIn.out.mono (HBl.out.trans (hZ.mono HBl.out.size)) (Nat.le_refl _))); have HNx := Lib.hid (fun (h : ndEq P2[k] nn = false) (x : Nat) (hx : x < P2.length) (hxk : x < k + 1) => show ndEq P2[x] nn = false from by
            by_cases hxe : x = k
            · subst hxe; exact h
            · exact HNo.out x hx (by omega))
          have HSome := Lib.hid (fun h => findN_some (i := 0) hlk (fun j hj => HNo.out j (by omega) hj) h); clear hc hx1 hi1 hbn; unfold ndCells at HSm; generalize P2[k] = z at *; obtain ⟨bk, hbk⟩ : ∃ b, ndEq z nn = b := ⟨_, rfl⟩; rw [hbk] at HSm HNx HSome; clear hbk
          go_upto_region 11 with fail
          go_still_tail 5, (by kernel_rfl)
          change wpList _ _ _ _ _ W1.drew
          have hbd : Below W1.heap.size W1 W1.drew := Below.drew (Below.refl _ _); generalize W1.drew = wd at hbd
          go_wp2_with fail
          refine (HSm.out wd hbd).mono ?_; rintro e' w5 ⟨rfl, hb5⟩; have HBl := Lib.hid (HBl.out.trans ((hbd.trans (hb5.mono hbd.size)).mono HBl.out.size)); clear hb5 hbd c0 c1 c2 c3 c4 c5 c6 c7 c8 c9 c10 d0 d1 d2 d3 d4 d5 d6 d7 d8 d9 d10 HSm; cases bk with
          | false =>
            go_wp2; exact ⟨⟨k + 1, by omega, by go_num, HNx.out (by first | rfl | trivial), HBl.out⟩, by simp [intOf]; omega⟩
          | true =>
            have hf := HSome.out (by first | rfl | trivial); have hadd : addN nn P2 = (P2, (k : Int) + 1) := by unfold addN; rw [hf]; simp
            have HAdd := Lib.hid hadd; clear hf hadd HSome HNx; go_wp2
            go_ret2
            rw [HPut.out, HAdd.out]; refine ⟨_, _, rfl, (NdL.less (M' := fun b => M b ∨ b = w2.heap.size ∨ (Value.slice ai il.length ci).ownBlock = some b) HNd2.out (fun b hb => Or.inl hb)).keep HBl.out, Ho.out.trans (OffM.of HBl.out) (fun i _ h => h), fun b hb => ?_⟩; rcases Hv1.out b hb with h1 | h1
            · exact Or.inl h1
            · right; have := HZY.out; have := HB2.out.size; have := HZX.out; omega
        · have hadd : addN nn P2 = (P2 ++ [nn], (P2.length : Int) + 1) := by
            unfold addN; rw [findN_none (fun x hx => HNo.out x hx (by omega))]
          have HAdd := Lib.hid hadd; clear hadd; have hk2 : k = P2.length := by omega
          subst hk2; have hndB := HNd2.out.keep HBl.out; have hviB := HVi2.out.keep HBl.out; have hfrB : Fresh X.heap.size w2.heap.size W1 e.bare [.int .i64 e.kind, .int .i64 e.fn, .int .i64 e.op, .int .i64 e.num, .string e.metric, .slice qm e.mats.length dm, .int .i64 e.span, .slice qn e.names.length dn, .slice qk 0 dk] := HFr.out.keep (fun k h1 h2 => HBl.out.block k (by have := HZY.out; omega)); have hzx := HZX.out; have hzy := HZY.out; have hs2 := HB2.out.size; have hszB : W0.heap.size ≤ W1.heap.size := HBl.out.size; have bA : Below W1.heap.size W1 (W1.alloc (.cells #[.int .i64 ev, .int .i64 e.kind, .int .i64 e.fn, .int .i64 e.op, .int .i64 e.num, .string e.metric, .slice qm e.mats.length dm, .int .i64 e.span, .slice qn e.names.length dn, .slice qk 0 dk, .slice ai il.length ci] 39)) := (Below.refl _ _).alloc (Nat.le_refl _) _; have nA := Blk.new W1 [.int .i64 ev, .int .i64 e.kind, .int .i64 e.fn, .int .i64 e.op, .int .i64 e.num, .string e.metric, .slice qm e.mats.length dm, .int .i64 e.span, .slice qn e.names.length dn, .slice qk 0 dk, .slice ai il.length ci] 39; have hownA := ownsRow_keep hndB.1 bA; have hbsA : base ≤ W0.heap.size := by have := Ho.out.size; omega
          have HNdB := Lib.hid hndB; have HViB := Lib.hid hviB; have HFrB := Lib.hid hfrB; clear hndB hviB hfrB
          go_wp2_with (at_builtin; refine wpList_append_src _ rfl _ _ _ rfl base 39 i0 _ 11 160 Tryz.underlying25 hi hz0 hz1 hz2 rfl (by decide) _ _ rows1.flatten rfl hownA _ 1 [.int .i64 ev, .int .i64 e.kind, .int .i64 e.fn, .int .i64 e.op, .int .i64 e.num, .string e.metric, .slice qm e.mats.length dm, .int .i64 e.span, .slice qn e.names.length dn, .slice qk 0 dk, .slice ai il.length ci] rfl (srcB nA rfl) (by intro u hu; simp at hu; rcases hu with rfl | rfl | rfl | rfl | rfl | rfl | rfl | rfl | rfl | rfl | rfl <;> rfl) (by unfold maxLen; omega) (by omega) (by simp; omega) ?_)
          intro v5 w5 hown5 hgr5 hat5; obtain ⟨A, hA⟩ : ∃ z, W1.alloc (.cells #[.int .i64 ev, .int .i64 e.kind, .int .i64 e.fn, .int .i64 e.op, .int .i64 e.num, .string e.metric, .slice qm e.mats.length dm, .int .i64 e.span, .slice qn e.names.length dn, .slice qk 0 dk, .slice ai il.length ci] 39) = z := ⟨_, rfl⟩; rw [hA] at bA hownA hgr5; have hzA : A.heap.size = W1.heap.size + 1 := by rw [← hA]; simp
          clear hA nA; have hndA := NdL.less (M := M) (HNdB.out.keep bA) (fun b hb => Or.inl hb); have hviA := HViB.out.keep bA; have hfrA : Fresh X.heap.size w2.heap.size A e.bare [.int .i64 e.kind, .int .i64 e.fn, .int .i64 e.op, .int .i64 e.num, .string e.metric, .slice qm e.mats.length dm, .int .i64 e.span, .slice qn e.names.length dn, .slice qk 0 dk] := HFrB.out.keep (fun k h1 h2 => bA.block k (by omega)); have hno : ∀ k, k < Y.heap.size → W.heap.size ≤ k → (Value.slice a1 P2.length cv1).ownBlock ≠ some k := fun k h1 h2 hb => by
            rcases Hv1.out k hb with h3 | h3
            · have := (HVr.out k h3).2; omega
            · omega
          have hnode : NdS (SX M (.slice a1 P2.length cv1)) A nn (.int .i64 ev :: ([.int .i64 e.kind, .int .i64 e.fn, .int .i64 e.op, .int .i64 e.num, .string e.metric, .slice qm e.mats.length dm, .int .i64 e.span, .slice qn e.names.length dn, .slice qk 0 dk] ++ [.slice ai il.length ci])) := by
            rw [← HNn.out]; exact NdS.mk (x := ⟨ev, e.bare, il⟩) (ExS.of_fresh hfrA (by omega) (fun i h1 h2 => ⟨fun hm => by have := (HM.out i hm).2; omega, hno i (by omega) (by omega)⟩))
              (OwnI.intsS hviA (fun g' hg' => ⟨fun hm => by have := (HM.out g' hm).2; have := (ownsRow_block hviA g' hg').1; omega, fun e => own_ne hviA hndA.1 (by decide) hg' e⟩))
          have hnd5 := hndA.app hnode hown5 hgr5 (by rw [hzA]; exact hat5); have ho5 : OffM (fun b => (Value.slice av P.length cv).ownBlock = some b) W w5 := ((Ho.out.trans (OffM.of HBl.out) (fun i _ h => h)).trans (OffM.of bA) (fun i _ h => h)).trans (OffM.grown hgr5) (fun i hi h => by
            rcases Hv1.out i h with h3 | h3
            · exact h3
            · omega)
          have hv5 : ∀ b, v5.ownBlock = some b → (Value.slice av P.length cv).ownBlock = some b ∨ W.heap.size ≤ b := fun b hb => by
            rcases hat5 with h1 | h1
            · rw [h1] at hb
              rcases Hv1.out b hb with h3 | h3
              · exact Or.inl h3
              · right; omega
            · rw [h1] at hb; have := Option.some.inj hb; right; omega
          obtain ⟨a5, c5, hv5q⟩ := ownsRow_slice hown5; subst hv5q; have HN5 := Lib.hid hnd5; have HO5 := Lib.hid ho5; have HV5 := Lib.hid hv5; clear hnd5 ho5 hv5 hnode hno hfrA hviA hndA hown5 hgr5 hat5 bA hownA; go_wp2
          go_ret2
          rw [HPut.out, HAdd.out]; exact ⟨_, _, rfl, HN5.out, HO5.out, HV5.out⟩
end Go.Proofs.YtdjdikiimhhjpaaGreatDoor
namespace Go.Proofs.YtdjdikiimhhjpaaGreatDoor
open Go.RowKit
set_option linter.unusedSimpArgs false
set_option linter.unusedVariables false
def sE : Ex := .mk 1 1 0 0 ⟨#[99, 112, 117]⟩ [] 9 [] []
def dE : Ex := .mk 4 0 3 2 ⟨#[]⟩ [] 0 [] [sE]
def jE : Ex := .mk 3 0 1 0 ⟨#[]⟩ [] 0 [] [sE, dE]
def firstL : List (Int × Ex) := [(5, jE), (5, sE)]
def P3 : List Nd := [⟨5, sE, []⟩, ⟨5, dE.bare, [1]⟩, ⟨5, jE.bare, [1, 2]⟩]
def X3 : List NX := [⟨5, sE, []⟩, ⟨5, dE, [1]⟩, ⟨5, jE, [1, 2]⟩]
theorem first_put : putQs firstL [] = (X3, [3, 1]) := by kernel_rfl
theorem first_good : firstBad firstL = 0 := by decide +kernel
theorem x3_nd : (putQs firstL []).1.map NX.nd = P3 := by rw [first_put]; rfl
theorem first_of : planOf firstL = (P3, [3, 1], 0) := by
  rw [of_plan first_good (by rw [first_put]; decide), x3_nd, first_put]
theorem p3_check : ndCheck P3 = 0 := by rw [← x3_nd]; exact plan_check first_good (by rw [first_put]; decide)
theorem p3_used : ndUsed P3 [1] = [1] := by rw [ndUsed_ok p3_check]; kernel_rfl
theorem p3_out : ndOut P3 1 = [2, 3] := by rw [ndOut_ok p3_check]; kernel_rfl
theorem p3_only : ndOnly P3 [1] = ([⟨5, sE, []⟩], [1, 0, 0], 0) := by
  rw [ndOnly_ok p3_check (by intro r hr; simp at hr; subst hr; decide)]; kernel_rfl
theorem p3_query : ndQuery P3 4 = (0, noX, 2) := ndQuery_arg p3_check (by decide)
theorem p3_hor : ndHorizon P3 3 = 9 := by rw [ndHorizon_ok ⟨p3_check, by decide, by decide⟩, ndUsed_ok p3_check]; kernel_rfl
theorem p3_leaves : ndLeaves P3 = [1] := by rw [ndLeaves_ok p3_check]; kernel_rfl
theorem p3_one : ndCheck [⟨5, dE.bare, [1]⟩] = 2 := by
  refine ndCheck_bad (by decide) (i := 0) (by decide) fun h => ?_
  have := (h.ins 1 (by simp)).2.1
  omega
theorem thin_of {e : Ex} (h : e.flat.all (fun x => decide (x.mats.length ≤ 1000000 ∧ x.names.length ≤ 1000000)) = true) : e.thin := by
  intro x hx
  have := List.all_eq_true.1 h x hx
  simpa using this
theorem num64_of {e : Ex} (h : e.flat.all (fun x => decide (-9223372036854775808 ≤ x.num ∧ x.num ≤ 9223372036854775807)) = true) : e.num64 := by
  intro x hx
  have := List.all_eq_true.1 h x hx
  simpa using this
theorem sE_thin : sE.thin := thin_of (by decide +kernel)
theorem dE_thin : dE.thin := thin_of (by decide +kernel)
theorem jE_thin : jE.thin := thin_of (by decide +kernel)
theorem sE_num : sE.num64 := num64_of (by decide +kernel)
theorem dE_num : dE.num64 := num64_of (by decide +kernel)
theorem jE_num : jE.num64 := num64_of (by decide +kernel)
theorem thin_bare {e : Ex} (h : e.thin) : e.bare.thin := by
  intro x hx
  have : x = e.bare := by
    rw [Ex.flat_eq, show e.bare.kids = [] from rfl] at hx
    simpa [flats] using hx
  subst this
  have h2 := Ex.thin_self h
  exact h2
theorem thin_flat {e x : Ex} (h : e.thin) (hx : x ∈ e.flat) : x.thin := fun y hy => h y (flat_trans e x hx y hy)
theorem num64_flat {e x : Ex} (h : e.num64) (hx : x ∈ e.flat) : x.num64 := fun y hy => h y (flat_trans e x hx y hy)
structure Lq (l : List (Int × Ex)) : Prop where
  num : ∀ q ∈ l, i64 q.1 ∧ q.2.num64
  thin : ∀ q ∈ l, q.2.thin
  size : ∀ q ∈ l, q.2.size ≤ 60
def RoomQ (l : List (Int × Ex)) : Prop := ∀ (i : Nat) (h : i < l.length), (putQs (l.take i) []).1.length + l[i].2.size ≤ 999
theorem putQs_len : ∀ (l : List (Int × Ex)) (L : List NX) (k : Nat), (∀ q ∈ l, q.2.size ≤ k) → (putQs l L).1.length ≤ L.length + l.length * k
  | [], L, k, _ => by simp [putQs]
  | q :: r, L, k, h => by
    obtain ⟨R, h1, h2⟩ := putX_grow q.1 q.2 L; have h3 := putQs_len r (putX q.1 q.2 L).1 k (fun q hq => h q (by simp [hq])); have h4 := h q (by simp); rw [h1, List.length_append] at h3; rw [putQs, h1]; simp only [List.length_cons, Nat.succ_mul]; omega
theorem Lq.room {l : List (Int × Ex)} (h : Lq l) (hl : l.length ≤ 13) : RoomQ l := by
  intro i hi
  have h1 := putQs_len (l.take i) [] 60 (fun q hq => h.size q (List.mem_of_mem_take hq))
  have h2 := h.size l[i] (List.getElem_mem hi)
  rw [List.length_take] at h1
  have h3 : min i l.length * 60 ≤ 12 * 60 := Nat.mul_le_mul_right _ (by omega)
  simp at h1
  omega
theorem Lq.len {l : List (Int × Ex)} (h : Lq l) (hl : l.length ≤ 12) : (putQs l []).1.length ≤ 720 := by
  have h1 := putQs_len l [] 60 h.size
  have h3 : l.length * 60 ≤ 12 * 60 := Nat.mul_le_mul_right _ hl
  simp at h1
  omega
theorem Lq.app {a b : List (Int × Ex)} (ha : Lq a) (hb : Lq b) : Lq (a ++ b) :=
  ⟨fun q hq => (List.mem_append.1 hq).elim (ha.num q) (hb.num q), fun q hq => (List.mem_append.1 hq).elim (ha.thin q) (hb.thin q), fun q hq => (List.mem_append.1 hq).elim (ha.size q) (hb.size q)⟩
theorem Lq.take {l : List (Int × Ex)} (h : Lq l) (k : Nat) : Lq (l.take k) :=
  ⟨fun q hq => h.num q (List.mem_of_mem_take hq), fun q hq => h.thin q (List.mem_of_mem_take hq), fun q hq => h.size q (List.mem_of_mem_take hq)⟩
theorem RepQs.take {L : List NX} : ∀ {l : List (Int × Ex)} {ns : List Int} (j : Nat), RepQs L l ns → RepQs L (l.take j) (ns.take j)
  | [], [], j, _ => by simp [RepQs]
  | q :: l, n :: ns, 0, _ => by simp [RepQs]
  | q :: l, n :: ns, j + 1, h => by
    simp only [List.take_succ_cons, RepQs] at h ⊢; exact ⟨h.1, h.2.take j⟩
  | [], _ :: _, j, h => by simp [RepQs] at h
  | _ :: _, [], j, h => by simp [RepQs] at h
theorem Lq.room2 {l : List (Int × Ex)} (h : Lq l) (hl : l.length ≤ 12) : RoomQ (l ++ l) := by
  intro i hi
  by_cases hlt : i < l.length
  · have := h.room (by omega) i hlt
    rw [List.getElem_append_left hlt, List.take_append_of_le_length (by omega)]; exact this
  · have hL := putQs_inv l [] Inv.nil
    have hr := putQs_rep l [] Inv.nil; obtain ⟨j, rfl⟩ : ∃ j, i = l.length + j := ⟨i - l.length, by omega⟩; rw [List.length_append] at hi; have h1 : (l ++ l).take (l.length + j) = l ++ l.take j := by rw [List.take_append, List.take_of_length_le (by omega)]; congr 2; omega
    rw [h1, putQs_app, putQs_found hL _ _ (hr.take j)]; have h2 := h.len hl; have h3 : (l ++ l)[l.length + j] = l[j] := by rw [List.getElem_append_right (by omega)]; congr 1; omega
    rw [h3]; have h4 := h.size l[j] (List.getElem_mem (by omega)); simp only; omega
theorem room_first : RoomQ firstL := Lq.room ⟨fun q hq => by
    simp [firstL] at hq
    rcases hq with rfl | rfl
    · exact ⟨by unfold i64; decide, jE_num⟩
    · exact ⟨by unfold i64; decide, sE_num⟩, fun q hq => by
    simp [firstL] at hq
    rcases hq with rfl | rfl
    · exact jE_thin
    · exact sE_thin, fun q hq => by
    simp [firstL] at hq
    rcases hq with rfl | rfl
    · decide +kernel
    · decide +kernel⟩ (by decide)
theorem lq_first : Lq firstL := ⟨fun q hq => by
    simp [firstL] at hq
    rcases hq with rfl | rfl
    · exact ⟨by unfold i64; decide, jE_num⟩
    · exact ⟨by unfold i64; decide, sE_num⟩, fun q hq => by
    simp [firstL] at hq
    rcases hq with rfl | rfl
    · exact jE_thin
    · exact sE_thin, fun q hq => by
    simp [firstL] at hq
    rcases hq with rfl | rfl
    · decide +kernel
    · decide +kernel⟩
theorem thin_plan {l : List (Int × Ex)} (h : ∀ q ∈ l, q.2.thin) : ThinP ((putQs l []).1.map NX.nd) := by
  intro x hx
  obtain ⟨y, hy, rfl⟩ := List.mem_map.1 hx
  rcases putQs_new l [] y hy with h1 | ⟨q, hq, -, h2⟩
  · cases h1
  · exact thin_bare (thin_flat (h q hq) h2)
theorem thin_p3 : ThinP P3 := by rw [← x3_nd]; exact thin_plan lq_first.thin
theorem light_60 {e : Ex} (h : light e 60 = true) : e.thin := by
  unfold light at h
  simp only [Bool.and_eq_true, decide_eq_true_eq] at h
  intro x hx
  have := weigh_thin 40 e 60 (by omega) h.1 x hx
  omega
theorem lq_of {l : List (Int × Ex)} (h : ∀ q ∈ l, light q.2 60 = true) (hn : ∀ q ∈ l, i64 q.1 ∧ q.2.num64) : Lq l :=
  ⟨hn, fun q hq => light_60 (h q hq), fun q hq => by have := light_size (h q hq) (by decide); omega⟩
theorem key_parts {ev : Int} {e : Ex} (h : checkQuery ev e = 0) (h64 : e.num64) : ∀ x ∈ e.flat, Key64 ev x := fun x hx => ⟨check_flat h hx, num64_flat h64 hx⟩
theorem putQs_snoc (q : Int × Ex) : ∀ (l : List (Int × Ex)) (L : List NX), putQs (l ++ [q]) L = ((putX q.1 q.2 (putQs l L).1).1, (putQs l L).2 ++ [(putX q.1 q.2 (putQs l L).1).2]) := fun l L => by
  rw [putQs_app]; simp [putQs]
theorem putQs_len2 : ∀ (l : List (Int × Ex)) (L : List NX), (putQs l L).2.length = l.length
  | [], L => rfl
  | q :: r, L => by rw [putQs, List.length_cons, putQs_len2 r, List.length_cons]
theorem firstBad_take {l : List (Int × Ex)} {i : Nat} (h : firstBad (l.take i) = 0) (hi : i < l.length) : firstBad (l.take (i + 1)) = checkQuery l[i].1 l[i].2 := by
  have key : ∀ (a : List (Int × Ex)) (q : Int × Ex), firstBad a = 0 → firstBad (a ++ [q]) = checkQuery q.1 q.2 := by
    intro a
    induction a with
    | nil => intro q _; simp only [List.nil_append, firstBad]; split <;> simp_all
    | cons p a ih =>
      intro q h; have h1 := firstBad_ok h p (by simp); simp only [firstBad, if_pos h1] at h; simp only [List.cons_append, firstBad, if_pos h1]; exact ih q h
  rw [List.take_succ_eq_append_getElem hi]
  exact key _ _ h
theorem firstBad_pre {l : List (Int × Ex)} {i : Nat} (h : firstBad (l.take i) ≠ 0) : firstBad l = firstBad (l.take i) := by
  have key : ∀ (a b : List (Int × Ex)), firstBad a ≠ 0 → firstBad (a ++ b) = firstBad a := by
    intro a
    induction a with
    | nil => intro b h; exact absurd rfl h
    | cons p a ih =>
      intro b h; simp only [List.cons_append, firstBad] at h ⊢
      split
      · rename_i h1; rw [if_pos h1] at h; exact ih b h
      · rfl
  have := key (l.take i) (l.drop i) h
  rwa [List.take_append_drop] at this
theorem planOf_bad {l : List (Int × Ex)} (h : firstBad l ≠ 0) : planOf l = ([], [], firstBad l) := by unfold planOf; rw [if_neg h]
end Go.Proofs.YtdjdikiimhhjpaaGreatDoor
namespace Go.Proofs.YtdjdikiimhhjpaaGreatDoor
open Go.RowKit
set_option linter.unusedSimpArgs false
set_option linter.unusedVariables false
open Go.Maps
theorem Mk.made (W : World) (M : Nat → Prop) (mg : M (W.heap.size + 1)) (mh : M W.heap.size) : Mk M (W.heap.size + 2) (W.heap.size + 1) W.heap.size [] (.slice none 0 0) [] 0 (.map []) ((W.alloc (.map #[] 0)).alloc (.cells #[.slice none 0 0, .map (some W.heap.size), .bool false] 49)) := by
  have h1 : (W.alloc (.map #[] 0)).heap.size = W.heap.size + 1 := World.size_alloc _ _
  refine ⟨?_, NdL.nil, (MapP.made W).keep ?_, Tells.nil, Nat.le_refl _, mg, mh, by omega, by omega, by omega⟩
  · have h2 := Blk.new (W.alloc (.map #[] 0)) [.slice none 0 0, .map (some W.heap.size), .bool false] 49
    rw [h1] at h2; exact h2
  · exact ((Below.refl _ _).alloc (Nat.le_refl _) _).block W.heap.size (by omega)
theorem pOf (l : List (Int × Ex)) (v : Value) (n : Nat) (w : World) (hn : n ≤ w.heap.size) (hq : IsQs n w v l) (hT : TB n w) (hL : Lq l) (hroom : RoomQ l) (hlen : l.length ≤ 1000000) :
    Calls Tryz.prog 6 #[v] w fun e' w' => ∃ vp vr, e' = .returned (.tuple #[vp, vr, .int .i64 (planOf l).2.2]) ∧ IsNds w'.heap.size w' vp (planOf l).1 ∧ OwnI 3 w.heap.size w' vr (planOf l).2.1 ∧ Below w.heap.size w w' := by
  obtain ⟨pp, cp, rfl, _, hcm, hpm⟩ := hq.open
  unfold maxLen at hcm hpm
  have HQ := Lib.hid hq; have HT := Lib.hid hT; have HL := Lib.hid hL; have HR := Lib.hid hroom
  clear hq hT hL hroom
  obtain ⟨P, hP⟩ : ∃ P, planOf l = P := ⟨_, rfl⟩
  rw [hP]
  have HP := Lib.hid hP; clear hP
  have hmm := @run_makeMap Tryz.prog
  go_enter Tryz.func6, Tryz.ntmps6; (try simp only [List.append_eq, List.cons_append, List.nil_append])
  go_wp2_with fail
  go_loopw [3, 13] (fun s j wr => ∃ i : Nat, i ≤ l.length ∧ j = .int .i64 i ∧ s = .slice none 0 0 ∧ firstBad (l.take i) = 0 ∧ Below w.heap.size w wr) (fun _ j _ => l.length - (intOf j).toNat)
  case atStart => exact ⟨0, Nat.zero_le _, rfl, rfl, rfl, Below.refl _ _⟩
  case round =>
    obtain ⟨i, hi, rfl, rfl, hfb, hb⟩ := hrel; obtain ⟨W0, rfl⟩ : ∃ z, z = wr := ⟨_, rfl⟩; have Hb := Lib.hid hb; have Hfb := Lib.hid hfb; clear hb hfb
    by_cases hlt : i < l.length
    · have hki : (i : Int) < (l.length : Int) := by omega
      obtain ⟨b, off, rm, sm, rn, sn, rk, sk, rfl, hbn, hyx, c0, c1, c2, c3, c4, c5, c6, c7, c8, c9⟩ := (HQ.out.mono (Hb.out.mono hn) (Nat.le_refl _)).get hlt; have HNx := Lib.hid (firstBad_take Hfb.out hlt); have HPre := Lib.hid (fun h => firstBad_pre (l := l) (i := i + 1) h); have HSz := Lib.hid (HL.out.size _ (List.getElem_mem hlt)); have Hyx := Lib.hid hyx; clear hyx; generalize l[i] = q at *; obtain ⟨ev, y⟩ := q; simp only at Hyx HNx HSz c0 c1 c2 c3 c4 c5 c6 c7 c8 c9
      go_upto_region 4 with fail
      clear c0 c1 c2 c3 c4 c5 c6 c7 c8 c9; obtain ⟨X, hW⟩ : ∃ z, W0.alloc (.cells #[.int .i64 ev, .int .i64 y.kind, .int .i64 y.fn, .int .i64 y.op, .int .i64 y.num, .string y.metric, .slice rm y.mats.length sm, .int .i64 y.span, .slice rn y.names.length sn, .slice rk y.kids.length sk] 44) = z := ⟨_, rfl⟩; have BX : Blk X W0.heap.size 44 [.int .i64 ev, .int .i64 y.kind, .int .i64 y.fn, .int .i64 y.op, .int .i64 y.num, .string y.metric, .slice rm y.mats.length sm, .int .i64 y.span, .slice rn y.names.length sn, .slice rk y.kids.length sk] := by rw [← hW]; exact Blk.new W0 _ _
      have bX : Below W0.heap.size W0 X := by rw [← hW]; exact (Below.refl _ _).alloc (Nat.le_refl _) _
      rw [hW]; clear hW; have hnw : n ≤ W0.heap.size := Nat.le_trans hn Hb.out.size; have HCk := Lib.hid (aCheck ev y _ n X (Nat.le_trans hnw bX.size) (Hyx.out.mono (bX.mono hnw) (Nat.le_refl _)) (by have := HSz.out; omega)); have HbX := Lib.hid (Hb.out.trans (bX.mono Hb.out.size)); clear bX hnw Hb; have c := BX; have c0 := c.cell 0 _ rfl; have c1 := c.cell 1 _ rfl; have c2 := c.cell 2 _ rfl; have c3 := c.cell 3 _ rfl; have c4 := c.cell 4 _ rfl; have c5 := c.cell 5 _ rfl; have c6 := c.cell 6 _ rfl; have c7 := c.cell 7 _ rfl; have c8 := c.cell 8 _ rfl; have c9 := c.cell 9 _ rfl; clear c BX; obtain ⟨c, hc⟩ : ∃ c, checkQuery ev y = c := ⟨_, rfl⟩; rw [hc] at HCk HNx; clear hc
      by_cases h0 : c = 0
      · subst h0
        go_wp2_with fail
        refine HCk.out.mono ?_; rintro e' w1 ⟨rfl, hb1⟩; have Hb := Lib.hid (HbX.out.trans (hb1.mono HbX.out.size)); clear hb1 c0 c1 c2 c3 c4 c5 c6 c7 c8 c9; go_wp2; exact ⟨⟨i + 1, by omega, by go_num, rfl, HNx.out, Hb.out⟩, by simp [intOf]; omega⟩
      · have hcb : (c != 0) = true := by simpa using h0
        have HE : Hid (P = ([], [], c)) := Lib.hid (by
          have h1 := HPre.out (by rw [HNx.out]; exact h0); rw [HNx.out] at h1; rw [← HP.out, planOf_bad (by rw [h1]; exact h0), h1])
        go_wp2_with fail
        refine HCk.out.mono ?_; rintro e' w1 ⟨rfl, hb1⟩; have Hb := Lib.hid (HbX.out.trans (hb1.mono HbX.out.size)); clear hb1 c0 c1 c2 c3 c4 c5 c6 c7 c8 c9; go_wp2
        go_ret3
        rw [HE.out]; exact ⟨_, _, rfl, IsNds.nil _ _, OwnI.nil, Hb.out⟩
    · have hi2 : i = l.length := by omega
      subst hi2; have hfb := Hfb.out; rw [List.take_length] at hfb; have HFB := Lib.hid (firstBad_ok hfb); have HF0 := Lib.hid hfb; clear hfb Hfb
      go_upto_region 9 with fail
      obtain ⟨h, hh⟩ : ∃ z, W0.heap.size = z := ⟨_, rfl⟩; obtain ⟨X, hW⟩ : ∃ z, (W0.alloc (.map #[] 0)).alloc (.cells #[.slice none 0 0, .map (some W0.heap.size), .bool false] 49) = z := ⟨_, rfl⟩; have hbX : Below W0.heap.size W0 X := by rw [← hW]; exact ((Below.refl _ _).alloc (Nat.le_refl _) _).alloc (by simp) _
      have hMk : ∀ M : Nat → Prop, M (W0.heap.size + 1) → M W0.heap.size → Mk M (W0.heap.size + 2) (W0.heap.size + 1) W0.heap.size [] (.slice none 0 0) [] 0 (.map []) X := fun M mg mh => by rw [← hW]; exact Mk.made W0 M mg mh
      have hsX : X.heap.size = W0.heap.size + 2 := by rw [← hW]; simp
      rw [hW]; clear hW; have Hbw := Lib.hid (Hb.out.trans (hbX.mono Hb.out.size)); have hwh : w.heap.size ≤ W0.heap.size := Hb.out.size; rw [hh] at hMk hsX hwh ⊢; clear hbX Hb hh; have HMk := Lib.hid hMk; have HSX := Lib.hid hsX; have Hwh := Lib.hid hwh; clear hMk hsX
      go_wp2_with fail
      go_loopw [3, 28] (fun vr j wr => ∃ (i : Nat) (v1 : Value) (rows1 : List (List Value)) (n1 : Nat) (D1 : DataW Unit), i ≤ l.length ∧ j = .int .i64 i ∧ Mk (fun b => (b = h + 1 ∨ b = h) ∨ vr.ownBlock = some b) (h + 2) (h + 1) h (putQs (l.take i) []).1 v1 rows1 n1 D1 wr ∧ OwnI 3 (h + 2) wr vr (putQs (l.take i) []).2 ∧ Below w.heap.size w wr ∧ h + 2 ≤ wr.heap.size) (fun _ j _ => l.length - (intOf j).toNat)
      case atStart =>
        refine ⟨0, .slice none 0 0, [], 0, .map [], Nat.zero_le _, rfl, ?_, ?_, Hbw.out, by have := HSX.out; omega⟩
        · rw [List.take_zero]; exact HMk.out _ (Or.inl (Or.inl rfl)) (Or.inl (Or.inr rfl))
        · rw [List.take_zero]; exact OwnI.nil
      case round =>
        clear HMk HSX Hbw; obtain ⟨i, v1, rows1, n1, D1, hi, rfl, hmk, hvi, hbw, hsx⟩ := hrel; obtain ⟨W1, rfl⟩ : ∃ z, z = wr := ⟨_, rfl⟩; have HMk := Lib.hid hmk; have HVi := Lib.hid hvi; have Hbw := Lib.hid hbw; clear hmk hvi hbw
        by_cases hlt : i < l.length
        · have hki : (i : Int) < (l.length : Int) := by omega
          obtain ⟨b, off, rm, sm, rn, sn, rk, sk, rfl, hbn, hyx, c0, c1, c2, c3, c4, c5, c6, c7, c8, c9⟩ := (HQ.out.mono (Hbw.out.mono hn) (Nat.le_refl _)).get hlt; have hmem := List.getElem_mem hlt; have HSt := Lib.hid (show putQs (l.take (i + 1)) [] = ((putX l[i].1 l[i].2 (putQs (l.take i) []).1).1, (putQs (l.take i) []).2 ++ [(putX l[i].1 l[i].2 (putQs (l.take i) []).1).2]) from by rw [List.take_succ_eq_append_getElem hlt]; exact putQs_snoc l[i] (l.take i) []); have HRoom := Lib.hid (HR.out i hlt); have HKy := Lib.hid (key_parts (HFB.out _ hmem) (HL.out.num _ hmem).2); have HTh := Lib.hid (HL.out.thin _ hmem); have HVl := Lib.hid (show (putQs (l.take i) []).2.length = i from by have h1 := putQs_len2 (l.take i) []; rw [List.length_take] at h1; omega); have Hyx := Lib.hid hyx; clear hyx hmem; generalize l[i] = q at *; obtain ⟨ev, y⟩ := q; simp only at Hyx HSt HRoom HKy HTh c0 c1 c2 c3 c4 c5 c6 c7 c8 c9; obtain ⟨Li, hLi⟩ : ∃ z, (putQs (l.take i) []).1 = z := ⟨_, rfl⟩; obtain ⟨vl, hvl⟩ : ∃ z, (putQs (l.take i) []).2 = z := ⟨_, rfl⟩; rw [hLi] at HMk HSt HRoom; rw [hvl] at HVi HSt HVl; clear hLi hvl
          go_upto_region 12 with fail
          clear c0 c1 c2 c3 c4 c5 c6 c7 c8 c9; obtain ⟨X, hW⟩ : ∃ z, W1.alloc (.cells #[.int .i64 ev, .int .i64 y.kind, .int .i64 y.fn, .int .i64 y.op, .int .i64 y.num, .string y.metric, .slice rm y.mats.length sm, .int .i64 y.span, .slice rn y.names.length sn, .slice rk y.kids.length sk] 44) = z := ⟨_, rfl⟩; have BX : Blk X W1.heap.size 44 [.int .i64 ev, .int .i64 y.kind, .int .i64 y.fn, .int .i64 y.op, .int .i64 y.num, .string y.metric, .slice rm y.mats.length sm, .int .i64 y.span, .slice rn y.names.length sn, .slice rk y.kids.length sk] := by rw [← hW]; exact Blk.new W1 _ _
          have bX : Below W1.heap.size W1 X := by rw [← hW]; exact (Below.refl _ _).alloc (Nat.le_refl _) _
          rw [hW]; clear hW; have hnw : n ≤ W1.heap.size := Nat.le_trans hn Hbw.out.size; have hvo : ∀ b, u3.ownBlock = some b → h + 2 ≤ b ∧ b < W1.heap.size := fun b hb => ownsRow_block HVi.out b hb
          have HCall := Lib.hid (pPut (h + 2) (h + 1) h n (by omega) (by omega) y _ ev _ X Li _ _ _ _ (HMk.out.keep bX) (fun b hb => by
            have := bX.size; rcases hb with (hb | hb) | hb
            · omega
            · omega
            · have := (hvo b hb).2; omega) (by have := bX.size; omega) (Hyx.out.mono (bX.mono hnw) (Nat.le_refl _)) ((HT.out.on (Hbw.out.mono hn)).on (bX.mono hnw)) HKy.out HTh.out HRoom.out)
          have HbX := Lib.hid bX; have Hvo := Lib.hid hvo; have c := BX; have c0 := c.cell 0 _ rfl; have c1 := c.cell 1 _ rfl; have c2 := c.cell 2 _ rfl; have c3 := c.cell 3 _ rfl; have c4 := c.cell 4 _ rfl; have c5 := c.cell 5 _ rfl; have c6 := c.cell 6 _ rfl; have c7 := c.cell 7 _ rfl; have c8 := c.cell 8 _ rfl; have c9 := c.cell 9 _ rfl; clear c BX bX hvo
          go_wp2_with fail
          refine HCall.out.mono ?_; rintro e' w2 ⟨v2, rows2, n2, D2, rfl, hmk2, ho2, hv2⟩; have hlen2 : vl.length ≤ 1000000 := by have := HVl.out; omega
          have hne1 : ∀ b, u3.ownBlock = some b → ¬ GH (h + 1) h v1 b := fun b hb hG => by
            have h1 := (Hvo.out b hb).1; rcases hG with h3 | h3 | h3
            · omega
            · omega
            · exact own_ne HVi.out HMk.out.nds.1 (by decide) hb h3
          have hvi2 : OwnI 3 (h + 2) w2 u3 vl := (HVi.out.keep HbX.out).offM ho2 hne1; have hs2 : h + 2 ≤ w2.heap.size := Nat.le_trans hsx (Nat.le_trans HbX.out.size ho2.size); have hbw2 : Below w.heap.size w w2 := (Hbw.out.trans (HbX.out.mono Hbw.out.size)).trans (ho2.below (fun b hb => by
            rcases hb with rfl | rfl | hb
            · omega
            · omega
            · have := (HMk.out.row b hb).1; omega) (Nat.le_trans Hbw.out.size HbX.out.size))
          have hu := Hvo.out; have HVi2 := Lib.hid hvi2; have HMk2 := Lib.hid hmk2; have Hbw2 := Lib.hid hbw2; have Hu := Lib.hid (fun b hb => (hu b hb).1); clear hvi2 hmk2 ho2 hv2 hne1 hu hbw2 c0 c1 c2 c3 c4 c5 c6 c7 c8 c9 HCall; generalize hr : (putX ev y Li).2 = r; have Hr := Lib.hid hr; clear hr
          go_wp2_with (at_builtin; refine app_int rfl _ _ rfl (h + 2) _ vl r w2.heap.size rfl rfl (HVi2.out.keep ((Below.refl _ _).alloc (Nat.le_refl _) _)) (by go_simp) hlen2 (by simp; omega) ?_)
          intro vi' w4 hown4 hg4 hat4; have bA : Below w2.heap.size w2 (w2.alloc (.cells #[.int .i64 r] 3)) := (Below.refl _ _).alloc (Nat.le_refl _) _; have hzA : (w2.alloc (.cells #[.int .i64 r] 3)).heap.size = w2.heap.size + 1 := World.size_alloc _ _; obtain ⟨A, hA⟩ : ∃ z, w2.alloc (.cells #[.int .i64 r] 3) = z := ⟨_, rfl⟩; rw [hA] at bA hzA hg4; clear hA; have hkA := HMk2.out.keep bA; have hviA := HVi2.out.keep bA; have hoG : OffM (fun k => u3.ownBlock = some k) A w4 := OffM.grown hg4; have hu := Hu.out; have hk4 : Mk (fun b => (b = h + 1 ∨ b = h) ∨ vi'.ownBlock = some b) (h + 2) (h + 1) h (putX ev y Li).1 v2 rows2 n2 D2 w4 := hkA.turn hoG (fun b hb => Or.inr hb) (fun hb => by have := hu _ hb; omega) (fun hb => by have := hu _ hb; omega)
            (fun b hb hb' => own_ne hviA hkA.nds.1 (by decide) hb' hb)
            (fun b hlt hb => by
              rcases hb with hb | hb
              · exact Or.inl hb
              · rcases hat4 with h1 | h1
                · rw [h1] at hb; exact Or.inr hb
                · rw [h1] at hb; have := Option.some.inj hb; omega) (Or.inl (Or.inl rfl)) (Or.inl (Or.inr rfl))
          have hbw4 : Below w.heap.size w w4 := (Hbw2.out.trans (bA.mono Hbw2.out.size)).trans (hoG.below (fun b hb => by have := hu b hb; omega) (by have := Hbw2.out.size; have := bA.size; omega)); have hs4 : h + 2 ≤ w4.heap.size := by have := hoG.size; omega
          have Hk4 := Lib.hid hk4; have Hbw4 := Lib.hid hbw4; have Hown4 := Lib.hid hown4; clear hk4 hbw4 hown4 bA hzA hkA hviA hoG hu hg4 hat4; go_wp2; refine ⟨⟨i + 1, v2, rows2, n2, D2, by omega, by go_num, ?_, ?_, Hbw4.out, hs4⟩, by simp [intOf]; omega⟩
          · rw [HSt.out]; exact Hk4.out
          · rw [HSt.out, Hr.out]; exact Hown4.out
        · have hi2 : i = l.length := by omega
          subst hi2; have hk2 := HMk.out; have hvi2 := HVi.out; rw [List.take_length] at hk2 hvi2; have hlen3 : (putQs l []).1.length ≤ 1000 := by
            by_cases h0 : l = []
            · subst h0; simp [putQs]
            · have h1 : 0 < l.length := List.length_pos_iff.2 h0
              have h2 := HR.out (l.length - 1) (by omega); have h3 : l.take (l.length - 1 + 1) = l := by rw [List.take_of_length_le]; omega
              have h4 := putQs_snoc l[l.length - 1] (l.take (l.length - 1)) []; rw [← List.take_succ_eq_append_getElem (by omega), h3] at h4; obtain ⟨R, r1, r2⟩ := putX_grow l[l.length - 1].1 l[l.length - 1].2 (putQs (l.take (l.length - 1)) []).1; rw [h4]; simp only [r1, List.length_append]; omega
          have HE : Hid (P = ((putQs l []).1.map NX.nd, (putQs l []).2, 0)) := Lib.hid (by rw [← HP.out]; exact of_plan HF0.out hlen3); have HMk2 := Lib.hid hk2; have HVi2 := Lib.hid hvi2; have q0 := hk2.blk.cell 0 _ rfl; have q2 := hk2.blk.cell 2 _ rfl; clear hk2 hvi2 HMk HVi hlen3; have hwh2 := Hwh.out; go_wp2
          go_ret3
          rw [HE.out]; exact ⟨_, _, rfl, HMk2.out.nds.nds (Nat.le_refl _), ownsRow_base HVi2.out (by omega), Hbw.out⟩
end Go.Proofs.YtdjdikiimhhjpaaGreatDoor
namespace Go.Proofs.YtdjdikiimhhjpaaGreatDoor
open Go.RowKit
set_option linter.unusedSimpArgs false
set_option linter.unusedVariables false
def kept (ns : List Int) (bs : List Bool) : Nat → List Int
  | 0 => []
  | i + 1 => kept ns bs i ++ (if bs.getD i false = true then [ns.getD i 0] else [])
theorem kept_len (ns : List Int) (bs : List Bool) : ∀ i, (kept ns bs i).length ≤ i
  | 0 => Nat.le_refl _
  | i + 1 => by
    have := kept_len ns bs i; rw [kept, List.length_append]
    split <;> simp <;> omega
theorem kept_yes {ns : List Int} {bs : List Bool} {i : Nat} (h : bs.getD i false = true) : kept ns bs (i + 1) = kept ns bs i ++ [ns.getD i 0] := by rw [kept, if_pos h]
theorem kept_no {ns : List Int} {bs : List Bool} {i : Nat} (h : ¬ bs.getD i false = true) : kept ns bs (i + 1) = kept ns bs i := by rw [kept, if_neg h, List.append_nil]
theorem kept_mem {ns : List Int} {bs : List Bool} {n : Int} : ∀ {i : Nat}, n ∈ kept ns bs i → ∃ j, j < i ∧ bs.getD j false = true ∧ n = ns.getD j 0
  | 0, h => by cases h
  | i + 1, h => by
    rw [kept] at h; rcases List.mem_append.1 h with h | h
    · obtain ⟨j, h1, h2⟩ := kept_mem h
      exact ⟨j, by omega, h2⟩
    · split at h
      · rename_i hb
        simp at h
        exact ⟨i, by omega, hb, h⟩
      · cases h
theorem kept_in {ns : List Int} {bs : List Bool} : ∀ {i j : Nat}, j < i → bs.getD j false = true → ns.getD j 0 ∈ kept ns bs i
  | 0, j, h, _ => by omega
  | i + 1, j, h, hb => by
    rw [kept]
    by_cases e : j = i
    · subst e; rw [if_pos hb]; simp
    · exact List.mem_append_left _ (kept_in (by omega) hb)
theorem onlyF_thin : ∀ (p : List Nd) (m : List Bool) (q : List Nd) (tt : List Int), ThinP p → ThinP q → ThinP (onlyF p m q tt).1
  | [], m, q, tt, _, hq => hq
  | x :: r, m, q, tt, hp, hq => by
    rw [onlyF]; have hr : ThinP r := fun y hy => hp y (by simp [hy])
    split
    · refine onlyF_thin r _ _ _ hr (fun y hy => ?_)
      rcases List.mem_append.1 hy with h | h
      · exact hq y h
      · simp at h; subst h; exact hp x (by simp)
    · exact onlyF_thin r _ _ _ hr hq
theorem only_thin {p : List Nd} {roots : List Int} (h : ThinP p) : ThinP (ndOnly p roots).1 := by
  unfold ndOnly
  split
  · split
    · exact onlyF_thin _ _ _ _ h (fun y hy => by cases hy)
    · exact fun y hy => by cases hy
  · exact fun y hy => by cases hy
structure RootF (l : List (Int × Ex)) (p : List Nd) (ns : List Int) (i : Nat) (hi : i < l.length) (k : Nat) : Prop where
  at_ : ns[i]? = some ((k : Int) + 1)
  lt : k < p.length
  query : ndQuery p ((k : Int) + 1) = (l[i].1, l[i].2, 0)
  hor : ndHorizon p ((k : Int) + 1) = l[i].2.hor
structure LeftF (l : List (Int × Ex)) (p : List Nd) (ns : List Int) (bs : List Bool) (q : List Nd) (tt : List Int) : Prop where
  only : ndOnly p (kept ns bs l.length) = (q, tt, 0)
  len : tt.length = p.length
  check : ndCheck q = 0
  thin : ThinP q
  many : q.length ≤ 1000
  used : (ndUsed q ((kept ns bs l.length).map (toAt tt))).length = q.length
  root : ∀ (i : Nat) (hi : i < l.length) (k : Nat), bs.getD i false = true → ns[i]? = some ((k : Int) + 1) → ∃ t, tt[k]? = some t ∧ toAt tt ((k : Int) + 1) = t ∧ ndQuery q t = (l[i].1, l[i].2, 0)
structure BackF (l : List (Int × Ex)) (p : List Nd) (ns : List Int) (bs : List Bool) : Prop where
  of : planOf l = (p, ns, 0)
  two : planOf (l ++ l) = (p, ns ++ ns, 0)
  check : ndCheck p = 0
  thin : ThinP p
  many : p.length ≤ 1000
  used : (ndUsed p ns).length = p.length
  len : ns.length = l.length
  root : ∀ (i : Nat) (hi : i < l.length), ∃ k, RootF l p ns i hi k
  left : ∃ q tt, LeftF l p ns bs q tt
theorem back_of {l : List (Int × Ex)} (bs : List Bool) (hl : Lq l) (h12 : l.length ≤ 12) (h0 : firstBad l = 0) : ∃ p ns, BackF l p ns bs := by
  have hn : (putQs l []).1.length ≤ 1000 := by have := hl.len h12; omega
  have hL := putQs_inv l [] Inv.nil
  have hv := putQs_valid (firstBad_ok h0)
  have hthin : ThinP ((putQs l []).1.map NX.nd) := thin_plan hl.thin
  have hroot : ∀ (i : Nat) (hi : i < l.length), ∃ k : Nat, (putQs l []).2[i]? = some ((k : Int) + 1) ∧ k < (putQs l []).1.length ∧ Rep (putQs l []).1 l[i].1 l[i].2 ((k : Int) + 1) ∧ ndQuery ((putQs l []).1.map NX.nd) ((k : Int) + 1) = (l[i].1, l[i].2, 0) ∧ ndHorizon ((putQs l []).1.map NX.nd) ((k : Int) + 1) = l[i].2.hor := by
    intro i hi; obtain ⟨n, h1, h2, h3, h4⟩ := plan_root h0 hn (List.getElem?_eq_getElem hi); have hb := h2.bd; obtain ⟨k, rfl⟩ : ∃ k : Nat, n = (k : Int) + 1 := ⟨(n - 1).toNat, by omega⟩; exact ⟨k, h1, by omega, h2, h3, h4⟩
  have hkept : ∀ r ∈ kept (putQs l []).2 bs l.length, 1 ≤ r ∧ r ≤ ((putQs l []).1.length : Int) := by
    intro r hr; obtain ⟨j, h1, h2, h3⟩ := kept_mem hr; obtain ⟨k, k1, k2, -⟩ := hroot j h1; have : r = (k : Int) + 1 := by rw [h3, List.getD_eq_getElem?_getD, k1]; rfl
    omega
  refine ⟨(putQs l []).1.map NX.nd, (putQs l []).2, of_plan h0 hn, plan_twice h0 hn, plan_check h0 hn, hthin, by rw [List.length_map]; exact hn, by rw [List.length_map]; exact plan_used h0 hn, putQs_len2 l [], fun i hi => ?_, ?_⟩
  · obtain ⟨k, h1, h2, -, h3, h4⟩ := hroot i hi
    exact ⟨k, h1, by rw [List.length_map]; exact h2, h3, h4⟩
  · obtain ⟨Q, tt, e1, e2, e3, e4, e5, e6, e7⟩ := plan_only hL hv hn hkept
    have hc : ndCheck (Q.map NX.nd) = 0 := ndCheck_ok (by rw [List.length_map]; omega) (plan_ok e3 e4); refine ⟨Q.map NX.nd, tt, e1, by rw [List.length_map]; exact e2, hc, ?_, by rw [List.length_map]; omega, used_len hc e7, fun i hi k hb hk => ?_⟩
    · have := only_thin (roots := kept (putQs l []).2 bs l.length) hthin
      rw [e1] at this; exact this
    · obtain ⟨k', k1, k2, k3, -⟩ := hroot i hi
      rw [k1] at hk; have hkk : k = k' := by have := Option.some.inj hk; omega
      subst hkk; have hm : ((k : Int) + 1) ∈ kept (putQs l []).2 bs l.length := by
        have := kept_in (ns := (putQs l []).2) hi hb
        rwa [List.getD_eq_getElem?_getD, k1] at this
      have hr := e6 _ _ _ hm k3; refine ⟨toAt tt ((k : Int) + 1), ?_, rfl, plan_query e3 e4 (by omega) hr⟩; have e0 : ((k : Int) + 1).toNat - 1 = k := by omega
      unfold toAt; rw [e0, List.getD_eq_getElem?_getD, List.getElem?_eq_getElem (by omega)]
      rfl
/-! ### one more query -/
theorem outIn_mem {t i o : Int} {l : List Int} (h : o ∈ outIn t i l) : t ∈ l ∧ o = i + 1 := by
  unfold outIn at h
  obtain ⟨m, hm, rfl⟩ := List.mem_map.1 h
  have := List.mem_filter.1 hm
  have e : m = t := by simpa using this.2
  subst e
  exact ⟨this.1, rfl⟩
theorem outsOf_mem {t o : Int} : ∀ {l : List Nd} {i : Int}, o ∈ outsOf t l i → ∃ k : Nat, ∃ x, l[k]? = some x ∧ t ∈ x.ins ∧ o = i + k + 1
  | [], i, h => by cases h
  | x :: r, i, h => by
    rw [outsOf] at h; rcases List.mem_append.1 h with h | h
    · obtain ⟨h1, h2⟩ := outIn_mem h
      exact ⟨0, x, rfl, h1, by rw [h2]; simp⟩
    · obtain ⟨k, y, h1, h2, h3⟩ := outsOf_mem h
      exact ⟨k + 1, y, by simpa using h1, h2, by rw [h3]; push_cast; omega⟩
theorem out_ahead {p : List Nd} (hc : ndCheck p = 0) (t : Int) : ∀ o ∈ ndOut p t, t < o := by
  intro o ho
  rw [ndOut_ok hc] at ho
  obtain ⟨k, x, h1, h2, h3⟩ := outsOf_mem ho
  have := ((ndCheck_0 hc).2 k x h1).ins t h2
  omega
theorem leaf_ins {p : List Nd} (hc : ndCheck p = 0) {k : Nat} (h : k < p.length) : (p[k].ex.kind = 1 ↔ p[k].ins.length = 0) := by
  have hok := (ndCheck_0 hc).2 k p[k] (List.getElem?_eq_getElem h)
  have hlen := hok.len
  have hr := (whole_right hok).2
  have hk : kindOk p[k].ex.kind = true := by
    have h1 : rightB (p[k].ex.withKids (List.replicate (kidsOf p[k].ex.kind).toNat (standX 120))) = true := hr; rw [rightB_with, Bool.and_eq_true] at h1; exact h1.1
  generalize p[k].ex.kind = c at *
  generalize p[k].ins.length = m at *
  have hc5 : c = 1 ∨ c = 2 ∨ c = 3 ∨ c = 4 ∨ c = 5 := by
    unfold kindOk at hk
    simp at hk
    omega
  rcases hc5 with rfl | rfl | rfl | rfl | rfl
  · have : kidsOf 1 = 0 := by decide +kernel
    omega
  · have : kidsOf 2 = 1 := by decide +kernel
    omega
  · have : kidsOf 3 = 2 := by decide +kernel
    omega
  · have : kidsOf 4 = 1 := by decide +kernel
    omega
  · have : kidsOf 5 = 1 := by decide +kernel
    omega
theorem Reps.get {L : List NX} {ev : Int} : ∀ {es : List Ex} {ns : List Int}, Reps L ev es ns → ns.length = es.length ∧ ∀ (j : Nat) (e : Ex), es[j]? = some e → ∃ n, ns[j]? = some n ∧ Rep L ev e n
  | [], [], _ => ⟨rfl, fun j e h => by simp at h⟩
  | e :: es, n :: ns, h => by
    obtain ⟨h1, h2⟩ := h; obtain ⟨h3, h4⟩ := h2.get; refine ⟨by simp [h3], fun j e' he => ?_⟩; cases j with
    | zero => simp at he; subst he; exact ⟨n, rfl, h1⟩
    | succ j => simp at he; exact h4 j e' he
  | [], _ :: _, h => h.elim
  | _ :: _, [], h => h.elim
structure GrowF (l : List (Int × Ex)) (p : List Nd) (ns : List Int) (k : Nat) (q : List Nd) : Prop where
  of : planOf l = (p, ns, 0)
  first : planOf (l.take k) = (q, ns.take k, 0)
  front : ∃ R, p = q ++ R
  check : ndCheck p = 0
  thin : ThinP p
  many : p.length ≤ 1000
  len : ns.length = l.length
  root : ∀ (i : Nat) (hi : i < l.length), ∃ m : Nat, ns[i]? = some ((m : Int) + 1) ∧ ∃ hm : m < p.length, p[m].ins.length = l[i].2.kids.length ∧ ∀ (x : Nat) (hx : x < l[i].2.kids.length), ∃ n, p[m].ins[x]? = some n ∧ planOf (l ++ [(l[i].1, l[i].2.kids[x])]) = (p, ns ++ [n], 0)
theorem grow_of {l : List (Int × Ex)} (k : Nat) (hl : Lq l) (h12 : l.length ≤ 12) (h0 : firstBad l = 0) : ∃ p ns q, GrowF l p ns k q := by
  have hn : (putQs l []).1.length ≤ 1000 := by have := hl.len h12; omega
  have hL := putQs_inv l [] Inv.nil
  obtain ⟨f1, ⟨R, f2⟩, f3⟩ := plan_front h0 k
  have hnk : (putQs (l.take k) []).1.length ≤ 1000 := by rw [f2, List.length_append] at hn; omega
  refine ⟨(putQs l []).1.map NX.nd, (putQs l []).2, (putQs (l.take k) []).1.map NX.nd, of_plan h0 hn, by rw [of_plan f1 hnk, f3], ⟨R.map NX.nd, by rw [f2, List.map_append]⟩, plan_check h0 hn, thin_plan hl.thin, by rw [List.length_map]; exact hn, putQs_len2 l [], fun i hi => ?_⟩
  obtain ⟨n, h1, h2, -, -⟩ := plan_root h0 hn (List.getElem?_eq_getElem hi)
  obtain ⟨m, x, g1, rfl, g3, g4⟩ := h2
  have hm := (List.getElem?_eq_some_iff.1 g1).1
  have hx : (putQs l []).1[m] = x := (List.getElem?_eq_some_iff.1 g1).2
  have hk := hL.kids m x g1
  rw [g3, g4] at hk
  obtain ⟨k1, k2⟩ := hk.get
  have hnd : ((putQs l []).1.map NX.nd)[m]'(by rw [List.length_map]; exact hm) = x.nd := by rw [List.getElem_map, hx]
  refine ⟨m, h1, by rw [List.length_map]; exact hm, ?_, fun y hy => ?_⟩
  · rw [hnd]; exact k1
  · obtain ⟨n, n1, n2⟩ := k2 y _ (List.getElem?_eq_getElem hy)
    refine ⟨n, by rw [hnd]; exact n1, ?_⟩; exact plan_part (q := (l[i].1, l[i].2.kids[y])) h0 hn n2.drop
end Go.Proofs.YtdjdikiimhhjpaaGreatDoor
namespace Go.Proofs.YtdjdikiimhhjpaaGreatDoor
open Go.RowKit
set_option linter.unusedSimpArgs false
set_option linter.unusedVariables false
theorem kExprS (x : Ex) (cs ds : List Value) (n : Nat) (w : World) (hn : n ≤ w.heap.size) (h1 : IsEx n w x cs) (h2 : IsEx n w x ds) :
    Calls Tryz.prog 18 #[.agg cs.toArray, .agg ds.toArray] w fun e' w' => e' = .returned (.bool true) ∧ Below w.heap.size w w' :=
  (kExpr x x cs ds n w hn h1 h2).mono (by rintro e' w' ⟨rfl, hb⟩; exact ⟨by rw [decide_eq_true rfl], hb⟩)
theorem kIntsS (l : List Int) (va vb : Value) (n : Nat) (w : World) (hn : n ≤ w.heap.size) (h1 : IsInts n w va l) (h2 : IsInts n w vb l) :
    Calls Tryz.prog 9 #[va, vb] w fun e' w' => e' = .returned (.bool true) ∧ Below w.heap.size w w' :=
  (kInts l l va vb n w hn h1 h2).mono (by rintro e' w' ⟨rfl, hb⟩; exact ⟨by rw [decide_eq_true rfl], hb⟩)
theorem nd_at9 {W Y : World} {x : Nd} {pm pn pk pi : Option Addr} {cm cn ck ci b o : Nat} (hY : Below W.heap.size W Y) (hb : b < W.heap.size) (hc : ∀ j u, (ndCells x pm cm pn cn pk ck pi ci)[j]? = some u → W.cell? ⟨b, o + j, none⟩ = some u) :
    Y.cell? ⟨b, o, none⟩ = some (.int .i64 x.every) ∧ Y.cell? ⟨b, o + 1, none⟩ = some (.int .i64 x.ex.kind) ∧ Y.cell? ⟨b, o + 1 + 1, none⟩ = some (.int .i64 x.ex.fn) ∧ Y.cell? ⟨b, o + 1 + 2, none⟩ = some (.int .i64 x.ex.op) ∧ Y.cell? ⟨b, o + 1 + 3, none⟩ = some (.int .i64 x.ex.num) ∧ Y.cell? ⟨b, o + 1 + 4, none⟩ = some (.string x.ex.metric) ∧
      Y.cell? ⟨b, o + 1 + 5, none⟩ = some (.slice pm x.ex.mats.length cm) ∧ Y.cell? ⟨b, o + 1 + 6, none⟩ = some (.int .i64 x.ex.span) ∧ Y.cell? ⟨b, o + 1 + 7, none⟩ = some (.slice pn x.ex.names.length cn) ∧ Y.cell? ⟨b, o + 1 + 8, none⟩ = some (.slice pk x.ex.kids.length ck) ∧ Y.cell? ⟨b, o + 10, none⟩ = some (.slice pi x.ins.length ci) := by
  have q : ∀ j u, (ndCells x pm cm pn cn pk ck pi ci)[j]? = some u → Y.cell? ⟨b, o + j, none⟩ = some u := fun j u h => (hY.cell (p := ⟨b, o + j, none⟩) hb).trans (hc j u h)
  exact ⟨q 0 _ rfl, q 1 _ rfl, q 2 _ rfl, q 3 _ rfl, q 4 _ rfl, q 5 _ rfl, q 6 _ rfl, q 7 _ rfl, q 8 _ rfl, q 9 _ rfl, q 10 _ rfl⟩
theorem kNodes (l : List Nd) (va vb : Value) (n : Nat) (w : World) (hn : n ≤ w.heap.size) (ha : IsNds n w va l) (hb : IsNds n w vb l) :
    Calls Tryz.prog 8 #[va, vb] w fun e' w' => e' = .returned (.bool true) ∧ Below w.heap.size w w' := by
  obtain ⟨pa, ca, rfl, _, _, hla⟩ := ha.open
  obtain ⟨pb, cb, rfl, _, _, hlb⟩ := hb.open
  unfold maxLen at hla hlb
  have HA := Lib.hid ha; have HB := Lib.hid hb; clear ha hb
  go_enter Tryz.func8, Tryz.ntmps8; (try simp only [List.append_eq, List.cons_append, List.nil_append])
  go_wp2_with fail
  go_loopw [5] (fun j wr => ∃ i : Nat, i ≤ l.length ∧ j = .int .i64 i ∧ Below w.heap.size w wr) (fun j _ => l.length - (intOf j).toNat)
  case atStart => exact ⟨0, Nat.zero_le _, rfl, Below.refl _ _⟩
  case round =>
    obtain ⟨i, hi, rfl, hbw⟩ := hrel; obtain ⟨W, rfl⟩ : ∃ z, z = wr := ⟨_, rfl⟩; have HBw := Lib.hid hbw; clear hbw
    by_cases hlt : i < l.length
    · have hki : (i : Int) < (l.length : Int) := by omega
      have hnW : n ≤ W.heap.size := Nat.le_trans hn HBw.out.size; obtain ⟨b1, off1, pm, cm, pn, cn, pk, ck, pi, ci, rfl, hb1, hx1, hi1, hc1⟩ := (HA.out.mono (HBw.out.mono hn) (Nat.le_refl _)).get hlt; obtain ⟨b2, off2, qm, dm, qn, dn, qk, dk, qi, di, rfl, hb2, hx2, hi2, hc2⟩ := (HB.out.mono (HBw.out.mono hn) (Nat.le_refl _)).get hlt; generalize l[i] = x at *; have HX1 := Lib.hid hx1; have HX2 := Lib.hid hx2; have HI1 := Lib.hid hi1; have HI2 := Lib.hid hi2; have HC1 := Lib.hid hc1; have HC2 := Lib.hid hc2; have HB1 := Lib.hid (Nat.lt_of_lt_of_le hb1 hnW); have HB2 := Lib.hid (Nat.lt_of_lt_of_le hb2 hnW); clear hx1 hx2 hi1 hi2 hc1 hc2 hb1 hb2
      go_upto_region 6 with fail
      refine wp_region_held_drew (S := fun Y => Below W.heap.size W Y) (by kernel_rfl) (Below.drew (Below.refl _ _)) (fun hHeld => ?_); have HS := Lib.hid (Below.drew (Below.refl W.heap.size W))
      (refine htk 0 17 ?_ rfl ?_ ?_; rotate_left; (intro w hSw; clear hSw; go_simp); (try with_reducible rfl); simp only [lsz, lss])
      (refine htk 1 18 ?_ rfl ?_ ?_; rotate_left; (intro w hSw; clear hSw; go_simp); (try with_reducible rfl); simp only [lsz, lss])
      (refine htk 2 19 ?_ rfl ?_ ?_; rotate_left; (intro w hSw; clear hSw; go_simp); (try with_reducible rfl); simp only [lsz, lss])
      (refine htk 3 20 ?_ rfl ?_ ?_; rotate_left; (intro w hSw; clear hSw; go_simp); (try with_reducible rfl); simp only [lsz, lss])
      (refine htk 4 21 (.int .i64 x.every) rfl ?_ ?_; (intro w hSw; obtain ⟨q, q0, q1, q2, q3, q4, q5, q6, q7, q8, q10⟩ := nd_at9 hSw HB1.out HC1.out; go_simp); simp only [lsz, lss])
      (refine htk 5 22 ?_ rfl ?_ ?_; rotate_left; (intro w hSw; clear hSw; go_simp); (try with_reducible rfl); simp only [lsz, lss])
      (refine htk 6 23 ?_ rfl ?_ ?_; rotate_left; (intro w hSw; clear hSw; go_simp); (try with_reducible rfl); simp only [lsz, lss])
      (refine htk 7 24 ?_ rfl ?_ ?_; rotate_left; (intro w hSw; clear hSw; go_simp); (try with_reducible rfl); simp only [lsz, lss])
      (refine htk 8 25 ?_ rfl ?_ ?_; rotate_left; (intro w hSw; clear hSw; go_simp); (try with_reducible rfl); simp only [lsz, lss])
      (refine htk 9 26 (.int .i64 x.every) rfl ?_ ?_; (intro w hSw; obtain ⟨q, q0, q1, q2, q3, q4, q5, q6, q7, q8, q10⟩ := nd_at9 hSw HB2.out HC2.out; go_simp); simp only [lsz, lss])
      (refine htk 10 27 (.bool false) rfl ?_ ?_; (intro w hSw; clear hSw; first | rfl | go_simp); simp only [lsz, lss])
      (refine htk 11 28 ?_ rfl ?_ ?_; rotate_left; (intro w hSw; clear hSw; go_simp); (try with_reducible rfl); simp only [lsz, lss])
      (refine htk 12 29 ?_ rfl ?_ ?_; rotate_left; (intro w hSw; clear hSw; go_simp); (try with_reducible rfl); simp only [lsz, lss])
      (refine htk 13 30 ?_ rfl ?_ ?_; rotate_left; (intro w hSw; clear hSw; go_simp); (try with_reducible rfl); simp only [lsz, lss])
      (refine htk 14 31 ?_ rfl ?_ ?_; rotate_left; (intro w hSw; clear hSw; go_simp); (try with_reducible rfl); simp only [lsz, lss])
      (refine htk 15 32 ?_ rfl ?_ ?_; rotate_left; (intro w hSw; clear hSw; go_simp); (try with_reducible rfl); simp only [lsz, lss])
      (refine htk 16 33 (.agg #[.int .i64 x.ex.kind, .int .i64 x.ex.fn, .int .i64 x.ex.op, .int .i64 x.ex.num, .string x.ex.metric, .slice pm x.ex.mats.length cm, .int .i64 x.ex.span, .slice pn x.ex.names.length cn, .slice pk x.ex.kids.length ck]) rfl ?_ ?_; (intro w hSw; obtain ⟨q, q0, q1, q2, q3, q4, q5, q6, q7, q8, q10⟩ := nd_at9 hSw HB1.out HC1.out; go_simp); simp only [lsz, lss])
      (refine htk 17 34 ?_ rfl ?_ ?_; rotate_left; (intro w hSw; clear hSw; go_simp); (try with_reducible rfl); simp only [lsz, lss])
      (refine htk 18 35 ?_ rfl ?_ ?_; rotate_left; (intro w hSw; clear hSw; go_simp); (try with_reducible rfl); simp only [lsz, lss])
      (refine htk 19 36 ?_ rfl ?_ ?_; rotate_left; (intro w hSw; clear hSw; go_simp); (try with_reducible rfl); simp only [lsz, lss])
      (refine htk 20 37 ?_ rfl ?_ ?_; rotate_left; (intro w hSw; clear hSw; go_simp); (try with_reducible rfl); simp only [lsz, lss])
      (refine htk 21 38 (.agg #[.int .i64 x.ex.kind, .int .i64 x.ex.fn, .int .i64 x.ex.op, .int .i64 x.ex.num, .string x.ex.metric, .slice qm x.ex.mats.length dm, .int .i64 x.ex.span, .slice qn x.ex.names.length dn, .slice qk x.ex.kids.length dk]) rfl ?_ ?_; (intro w hSw; obtain ⟨q, q0, q1, q2, q3, q4, q5, q6, q7, q8, q10⟩ := nd_at9 hSw HB2.out HC2.out; go_simp); simp only [lsz, lss])
      refine hrd 22 rfl (fun K hK => ?_); rw [if_pos (by kernel_rfl)]
      go_simp
      refine (kExprS x.ex _ _ n _ (Nat.le_trans hnW HS.out.size) (HX1.out.mono (HS.out.mono hnW) (Nat.le_refl _)) (HX2.out.mono (HS.out.mono hnW) (Nat.le_refl _))).mono ?_; rintro e' vv ⟨rfl, hb⟩; have HS := Lib.hid (HS.out.trans (hb.mono HS.out.size)); clear hb
      dsimp only
      refine hK.out _ _ HS.out (fun hHeld => ?_); clear hK K
      (try simp only [Act.put, lsa, lsz, lss])
      (refine htk 23 40 (.bool false) rfl ?_ ?_; (intro w hSw; clear hSw; first | rfl | go_simp); simp only [lsz, lss])
      (refine htk 24 41 (.bool false) rfl ?_ ?_; (intro w hSw; clear hSw; first | rfl | go_simp); simp only [lsz, lss])
      (refine htk 25 42 (.bool false) rfl ?_ ?_; (intro w hSw; clear hSw; first | rfl | go_simp); simp only [lsz, lss])
      (refine htk 26 43 ?_ rfl ?_ ?_; rotate_left; (intro w hSw; clear hSw; go_simp); (try with_reducible rfl); simp only [lsz, lss])
      (refine htk 27 44 ?_ rfl ?_ ?_; rotate_left; (intro w hSw; clear hSw; go_simp); (try with_reducible rfl); simp only [lsz, lss])
      (refine htk 28 45 ?_ rfl ?_ ?_; rotate_left; (intro w hSw; clear hSw; go_simp); (try with_reducible rfl); simp only [lsz, lss])
      (refine htk 29 46 ?_ rfl ?_ ?_; rotate_left; (intro w hSw; clear hSw; go_simp); (try with_reducible rfl); simp only [lsz, lss])
      (refine htk 30 47 (.slice pi x.ins.length ci) rfl ?_ ?_; (intro w hSw; obtain ⟨q, q0, q1, q2, q3, q4, q5, q6, q7, q8, q10⟩ := nd_at9 hSw HB1.out HC1.out; go_simp); simp only [lsz, lss])
      (refine htk 31 48 ?_ rfl ?_ ?_; rotate_left; (intro w hSw; clear hSw; go_simp); (try with_reducible rfl); simp only [lsz, lss])
      (refine htk 32 49 ?_ rfl ?_ ?_; rotate_left; (intro w hSw; clear hSw; go_simp); (try with_reducible rfl); simp only [lsz, lss])
      (refine htk 33 50 ?_ rfl ?_ ?_; rotate_left; (intro w hSw; clear hSw; go_simp); (try with_reducible rfl); simp only [lsz, lss])
      (refine htk 34 51 ?_ rfl ?_ ?_; rotate_left; (intro w hSw; clear hSw; go_simp); (try with_reducible rfl); simp only [lsz, lss])
      (refine htk 35 52 (.slice qi x.ins.length di) rfl ?_ ?_; (intro w hSw; obtain ⟨q, q0, q1, q2, q3, q4, q5, q6, q7, q8, q10⟩ := nd_at9 hSw HB2.out HC2.out; go_simp); simp only [lsz, lss])
      refine hrd 36 rfl (fun K hK => ?_); rw [if_pos (by kernel_rfl)]
      go_simp
      refine (kIntsS x.ins _ _ n _ (Nat.le_trans hnW HS.out.size) (HI1.out.mono (HS.out.mono hnW) (Nat.le_refl _)) (HI2.out.mono (HS.out.mono hnW) (Nat.le_refl _))).mono ?_; rintro e' vv ⟨rfl, hb⟩; have HS := Lib.hid (HS.out.trans (hb.mono HS.out.size)); clear hb
      dsimp only
      refine hK.out _ _ HS.out (fun hHeld => ?_); clear hK K
      (try simp only [Act.put, lsa, lsz, lss])
      (refine htk 37 54 (.bool false) rfl ?_ ?_; (intro w hSw; clear hSw; first | rfl | go_simp); simp only [lsz, lss])
      (refine htk 38 55 (.bool false) rfl ?_ ?_; (intro w hSw; clear hSw; first | rfl | go_simp); simp only [lsz, lss])
      refine wpAnyH_done (by kernel_rfl) ?_ _; go_wp2; exact ⟨⟨i + 1, by omega, by go_num, HBw.out.trans (HS.out.mono HBw.out.size)⟩, by simp [intOf]; omega⟩
    · go_wp2
      go_ret; exact ⟨rfl, HBw.out⟩
def LightR (l : List (Int × Ex)) (w : World) (e' : Ending) (w' : World) : Prop := ∃ b : Bool, e' = .returned (.bool b) ∧ (b = true → l.length ≤ 12 ∧ ∀ q ∈ l, light q.2 60 = true) ∧ Below w.heap.size w w'
theorem LightR.of {l : List (Int × Ex)} {w w' : World} {e' : Ending} (b : Bool) (h1 : e' = .returned (.bool b)) (h2 : b = true → l.length ≤ 12 ∧ ∀ q ∈ l, light q.2 60 = true) (h3 : Below w.heap.size w w') : LightR l w e' w' := ⟨b, h1, h2, h3⟩
theorem kQueries (l : List (Int × Ex)) (v : Value) (n : Nat) (w : World) (hn : n ≤ w.heap.size) (h : IsQs n w v l) :
    Calls Tryz.prog 5 #[v] w fun e' w' => LightR l w e' w' := by
  obtain ⟨pa, ca, rfl, _, _, hla⟩ := h.open
  unfold maxLen at hla
  have HA := Lib.hid h; clear h
  go_enter Tryz.func5, Tryz.ntmps5; (try simp only [List.append_eq, List.cons_append, List.nil_append])
  go_wp2_with fail
  go_loopw [3] (fun j wr => ∃ i : Nat, i ≤ l.length ∧ i ≤ 13 ∧ j = .int .i64 i ∧ (∀ q ∈ l.take i, light q.2 60 = true) ∧ Below w.heap.size w wr) (fun j _ => l.length - (intOf j).toNat)
  case atStart => exact ⟨0, Nat.zero_le _, by omega, rfl, by simp, Below.refl _ _⟩
  case round =>
    obtain ⟨i, hi, hi13, rfl, hall, hbw⟩ := hrel; obtain ⟨W, rfl⟩ : ∃ z, z = wr := ⟨_, rfl⟩; have HBw := Lib.hid hbw; have HAll := Lib.hid hall; clear hbw hall
    by_cases hlt : i < l.length
    · have hki : (i : Int) < (l.length : Int) := by omega
      by_cases h12 : i ≤ 12
      · have h12i : (i : Int) ≤ 12 := by omega
        obtain ⟨b, off, rm, sm, rn, sn, rk, sk, rfl, hbn, hyx, c0, c1, c2, c3, c4, c5, c6, c7, c8, c9⟩ := (HA.out.mono (HBw.out.mono hn) (Nat.le_refl _)).get hlt; have HNx := Lib.hid (fun (h : light l[i].2 60 = true) (q : Int × Ex) (hq : q ∈ l.take (i + 1)) => show light q.2 60 = true from by
          rw [List.take_succ_eq_append_getElem hlt] at hq; rcases List.mem_append.1 hq with hq | hq
          · exact HAll.out q hq
          · simp at hq; subst hq; exact h)
        have HK := Lib.hid (kLight l[i].2 _ 60 n W (Nat.le_trans hn HBw.out.size) (by omega) (by omega) hyx); clear hyx c0; have e1 : W.cell? ⟨b, off + i * 10 + 1 + 1, none⟩ = some (.int .i64 l[i].2.fn) := c2; have e2 : W.cell? ⟨b, off + i * 10 + 1 + 2, none⟩ = some (.int .i64 l[i].2.op) := c3; have e3 : W.cell? ⟨b, off + i * 10 + 1 + 3, none⟩ = some (.int .i64 l[i].2.num) := c4; have e4 : W.cell? ⟨b, off + i * 10 + 1 + 4, none⟩ = some (.string l[i].2.metric) := c5; have e5 : W.cell? ⟨b, off + i * 10 + 1 + 5, none⟩ = some (.slice rm l[i].2.mats.length sm) := c6; have e6 : W.cell? ⟨b, off + i * 10 + 1 + 6, none⟩ = some (.int .i64 l[i].2.span) := c7; have e7 : W.cell? ⟨b, off + i * 10 + 1 + 7, none⟩ = some (.slice rn l[i].2.names.length sn) := c8; have e8 : W.cell? ⟨b, off + i * 10 + 1 + 8, none⟩ = some (.slice rk l[i].2.kids.length sk) := c9; generalize l[i] = q at *; obtain ⟨lt, hlt2⟩ : ∃ z, light q.2 60 = z := ⟨_, rfl⟩; rw [hlt2] at HNx HK; clear hlt2
        go_wp2_with fail
        refine HK.out.mono ?_; rintro e' w1 ⟨rfl, hb1⟩; have HBw := Lib.hid (HBw.out.trans (hb1.mono HBw.out.size)); clear hb1 e1 e2 e3 e4 e5 e6 e7 e8 c1 c2 c3 c4 c5 c6 c7 c8 c9; cases lt with
        | true =>
          go_wp2; exact ⟨⟨i + 1, by omega, by omega, by go_num, HNx.out (by first | rfl | trivial), HBw.out⟩, by simp [intOf]; omega⟩
        | false =>
          go_wp2; go_ret; exact .of _ rfl (fun h => by cases h) HBw.out
      · have h12i : ¬ (i : Int) ≤ 12 := by omega
        have hl12 : ¬ (l.length : Int) ≤ 12 := by omega
        go_wp2; go_ret; refine .of _ rfl (fun h => ?_) HBw.out
        simp at h; try omega
    · have hi2 : i = l.length := by omega
      subst hi2; have ha := HAll.out; rw [List.take_length] at ha; have HAl := Lib.hid ha; clear ha HAll; go_wp2; go_ret; refine .of _ rfl (fun h => ⟨?_, HAl.out⟩) HBw.out
      simp at h; omega
end Go.Proofs.YtdjdikiimhhjpaaGreatDoor
namespace Go.Proofs.YtdjdikiimhhjpaaGreatDoor
open Go.RowKit
set_option linter.unusedSimpArgs false
set_option linter.unusedVariables false
theorem sE_is (n : Nat) (w : World) : IsEx n w sE [.int .i64 1, .int .i64 1, .int .i64 0, .int .i64 0, .string ⟨#[99, 112, 117]⟩, .slice none 0 0, .int .i64 9, .slice none 0 0, .slice none 0 0] := win_is2 1 9 n w
theorem xDouble (w : World) : Calls Tryz.prog 20 #[] w fun e' w' => ∃ g, e' = .returned (.agg #[.int .i64 4, .int .i64 0, .int .i64 3, .int .i64 2, .string ⟨#[]⟩, .slice none 0 0, .int .i64 0, .slice none 0 0, .slice (some ⟨g, 0, none⟩) 1 1]) ∧ IsEx w'.heap.size w' dE [.int .i64 4, .int .i64 0, .int .i64 3, .int .i64 2, .string ⟨#[]⟩, .slice none 0 0, .int .i64 0, .slice none 0 0, .slice (some ⟨g, 0, none⟩) 1 1] ∧ Below w.heap.size w w' := by
  go_enter Tryz.func20, Tryz.ntmps20; (try simp only [List.append_eq, List.cons_append, List.nil_append])
  go_upto_region 1 with fail
  have HZ := Lib.hid (Blk.new w [.int .i64 0, .int .i64 0, .int .i64 0, .int .i64 0, .string ⟨#[]⟩, .slice none 0 0, .int .i64 0, .slice none 0 0, .slice none 0 0] 37)
  have HB := Lib.hid ((Below.refl w.heap.size w).alloc (Nat.le_refl _) (.cells #[.int .i64 0, .int .i64 0, .int .i64 0, .int .i64 0, .string ⟨#[]⟩, .slice none 0 0, .int .i64 0, .slice none 0 0, .slice none 0 0] 37))
  have hz : (w.alloc (.cells #[.int .i64 0, .int .i64 0, .int .i64 0, .int .i64 0, .string ⟨#[]⟩, .slice none 0 0, .int .i64 0, .slice none 0 0, .slice none 0 0] 37)).heap.size = w.heap.size + 1 := World.size_alloc _ _
  obtain ⟨X, hX⟩ : ∃ z, w.alloc (.cells #[.int .i64 0, .int .i64 0, .int .i64 0, .int .i64 0, .string ⟨#[]⟩, .slice none 0 0, .int .i64 0, .slice none 0 0, .slice none 0 0] 37) = z := ⟨_, rfl⟩
  rw [show w.alloc (.cells ([.int .i64 0, .int .i64 0, .int .i64 0, .int .i64 0, .string ⟨#[]⟩, .slice none 0 0, .int .i64 0, .slice none 0 0, .slice none 0 0] : List Value).toArray 37) = X from hX] at HZ
  rw [hX] at HB hz ⊢
  clear hX
  have HSZ := Lib.hid hz; clear hz
  go_wp2_with fail
  refine (xWin _ _ _).mono ?_
  rintro e' y ⟨rfl, hb⟩
  have HZ := Lib.hid (HZ.out.keep hb); have HSZ := Lib.hid (show w.heap.size + 1 ≤ y.heap.size from by have := HSZ.out; have := hb.size; omega)
  have HB := Lib.hid (HB.out.trans (hb.mono HB.out.size)); clear hb
  have KN := Lib.hid (Blk.new y [.int .i64 1, .int .i64 1, .int .i64 0, .int .i64 0, .string ⟨#[99, 112, 117]⟩, .slice none 0 0, .int .i64 9, .slice none 0 0, .slice none 0 0] 37)
  have HZ := Lib.hid (HZ.out.keep ((Below.refl _ _).alloc (Nat.le_refl _) (.cells #[.int .i64 1, .int .i64 1, .int .i64 0, .int .i64 0, .string ⟨#[99, 112, 117]⟩, .slice none 0 0, .int .i64 9, .slice none 0 0, .slice none 0 0] 37)))
  have HB := Lib.hid (HB.out.alloc HB.out.size (.cells #[.int .i64 1, .int .i64 1, .int .i64 0, .int .i64 0, .string ⟨#[99, 112, 117]⟩, .slice none 0 0, .int .i64 9, .slice none 0 0, .slice none 0 0] 37))
  go_wp2_with (refine wpList_store_row rfl 37 _ _ rfl w.heap.size #[.int .i64 4, .int .i64 0, .int .i64 3, .int .i64 2, .string ⟨#[]⟩, .slice none 0 0, .int .i64 0, .slice none 0 0, .slice (some ⟨y.heap.size, 0, none⟩) 1 1] rfl rfl 37 _ HZ.out (by kernel_rfl) rfl (by kernel_rfl) ?_)
  have hsz := HSZ.out
  refine bodyPost_agg (g := w.heap.size) (fr := (0, 0)) rfl rfl (setRow_at HZ.out _) Tryz.underlying37 rfl (by kernel_rfl) rfl ?_
  have hbf := below_setRow (B := w.heap.size) (g := w.heap.size) HB.out (Nat.le_refl _) #[.int .i64 4, .int .i64 0, .int .i64 3, .int .i64 2, .string ⟨#[]⟩, .slice none 0 0, .int .i64 0, .slice none 0 0, .slice (some ⟨y.heap.size, 0, none⟩) 1 1]
  have hK := (setRow_other _ w.heap.size y.heap.size #[.int .i64 4, .int .i64 0, .int .i64 3, .int .i64 2, .string ⟨#[]⟩, .slice none 0 0, .int .i64 0, .slice none 0 0, .slice (some ⟨y.heap.size, 0, none⟩) 1 1] (by omega)).trans KN.out
  refine ⟨y.heap.size, rfl, ?_, hbf⟩
  have hsf : y.heap.size < ((y.alloc (.cells #[.int .i64 1, .int .i64 1, .int .i64 0, .int .i64 0, .string ⟨#[99, 112, 117]⟩, .slice none 0 0, .int .i64 9, .slice none 0 0, .slice none 0 0] 37)).setRow w.heap.size #[.int .i64 4, .int .i64 0, .int .i64 3, .int .i64 2, .string ⟨#[]⟩, .slice none 0 0, .int .i64 0, .slice none 0 0, .slice (some ⟨y.heap.size, 0, none⟩) 1 1]).heap.size := by rw [setRow_size]; simp
  refine .mk (rows := [[.int .i64 1, .int .i64 1, .int .i64 0, .int .i64 0, .string ⟨#[99, 112, 117]⟩, .slice none 0 0, .int .i64 9, .slice none 0 0, .slice none 0 0]]) (by decide) ⟨Arr.nil _ _ _, by simp⟩ (noStrs _ _) (arrBlk (t := 37) (rows := [[.int .i64 1, .int .i64 1, .int .i64 0, .int .i64 0, .string ⟨#[99, 112, 117]⟩, .slice none 0 0, .int .i64 9, .slice none 0 0, .slice none 0 0]]) hK hsf (by simp) (by show 1 ≤ maxLen; decide)) rfl (fun k r e hr he => ?_)
  match k, hr, he with
  | 0, hr, he => simp only [List.getElem?_cons_zero, Option.some.injEq, dE, Ex.kids] at hr he; subst hr he; exact sE_is _ _
  | k + 1, hr, he => simp at hr
theorem xFirst (w : World) : Calls Tryz.prog 10 #[] w fun e' w' => ∃ v, e' = .returned v ∧ IsQs w'.heap.size w' v firstL ∧ Below w.heap.size w w' := by
  go_enter Tryz.func10, Tryz.ntmps10; (try simp only [List.append_eq, List.cons_append, List.nil_append])
  go_wp2_with fail
  refine (xWin _ _ _).mono ?_
  rintro e' y ⟨rfl, hb⟩
  have HB := Lib.hid hb; clear hb
  go_upto_region 2 with fail
  have B1 := Lib.hid (Blk.new y [.int .i64 1, .int .i64 1, .int .i64 0, .int .i64 0, .string ⟨#[99, 112, 117]⟩, .slice none 0 0, .int .i64 9, .slice none 0 0, .slice none 0 0] 37)
  have HB := Lib.hid (HB.out.alloc HB.out.size (.cells #[.int .i64 1, .int .i64 1, .int .i64 0, .int .i64 0, .string ⟨#[99, 112, 117]⟩, .slice none 0 0, .int .i64 9, .slice none 0 0, .slice none 0 0] 37))
  obtain ⟨W, hW⟩ : ∃ z, y.alloc (.cells #[.int .i64 1, .int .i64 1, .int .i64 0, .int .i64 0, .string ⟨#[99, 112, 117]⟩, .slice none 0 0, .int .i64 9, .slice none 0 0, .slice none 0 0] 37) = z := ⟨_, rfl⟩
  rw [show y.alloc (.cells ([.int .i64 1, .int .i64 1, .int .i64 0, .int .i64 0, .string ⟨#[99, 112, 117]⟩, .slice none 0 0, .int .i64 9, .slice none 0 0, .slice none 0 0] : List Value).toArray 37) = W from hW] at B1
  rw [hW] at HB ⊢
  clear hW
  refine wp_region_held_drew (S := fun Y => Below W.heap.size W Y) (by kernel_rfl) (Below.drew (Below.refl _ _)) (fun hHeld => ?_)
  have HS := Lib.hid (Below.drew (Below.refl W.heap.size W))
  (refine htk 0 3 (.agg #[.int .i64 1, .int .i64 1, .int .i64 0, .int .i64 0, .string ⟨#[99, 112, 117]⟩, .slice none 0 0, .int .i64 9, .slice none 0 0, .slice none 0 0]) rfl ?_ ?_; (intro w hSw; have b := B1.out.keep hSw; have p0 := b.cell 0 _ rfl; have p1 := b.cell 1 _ rfl; have p2 := b.cell 2 _ rfl; have p3 := b.cell 3 _ rfl; have p4 := b.cell 4 _ rfl; have p5 := b.cell 5 _ rfl; have p6 := b.cell 6 _ rfl; have p7 := b.cell 7 _ rfl; have p8 := b.cell 8 _ rfl; go_simp); simp only [lsz, lss])
  (refine htk 5 8 (.agg #[.int .i64 1, .int .i64 1, .int .i64 0, .int .i64 0, .string ⟨#[99, 112, 117]⟩, .slice none 0 0, .int .i64 9, .slice none 0 0, .slice none 0 0]) rfl ?_ ?_; (intro w hSw; have b := B1.out.keep hSw; have p0 := b.cell 0 _ rfl; have p1 := b.cell 1 _ rfl; have p2 := b.cell 2 _ rfl; have p3 := b.cell 3 _ rfl; have p4 := b.cell 4 _ rfl; have p5 := b.cell 5 _ rfl; have p6 := b.cell 6 _ rfl; have p7 := b.cell 7 _ rfl; have p8 := b.cell 8 _ rfl; go_simp); simp only [lsz, lss])
  (refine htk 6 9 ?_ rfl ?_ ?_; rotate_left; (intro w hSw; clear hSw; go_simp); (try with_reducible rfl); simp only [lsz, lss])
  refine hrd 1 rfl (fun K hK => ?_)
  rw [if_pos (by kernel_rfl)]
  go_simp
  refine (xDouble _).mono ?_
  rintro e' y1 ⟨gd, rfl, hx, hb⟩
  have HS := Lib.hid (HS.out.trans (hb.mono HS.out.size)); clear hb
  have HD := Lib.hid hx; clear hx
  dsimp only
  refine hK.out _ _ HS.out (fun hHeld => ?_)
  clear hK K
  (try simp only [Act.put, lsa, lsz, lss])
  refine hrd 2 rfl (fun K hK => ?_)
  rw [if_pos (by kernel_rfl)]
  go_simp
  have bA : Below y1.heap.size y1 (y1.alloc (.cells #[.int .i64 1, .int .i64 1, .int .i64 0, .int .i64 0, .string ⟨#[99, 112, 117]⟩, .slice none 0 0, .int .i64 9, .slice none 0 0, .slice none 0 0, .int .i64 4, .int .i64 0, .int .i64 3, .int .i64 2, .string ⟨#[]⟩, .slice none 0 0, .int .i64 0, .slice none 0 0, .slice (some ⟨gd, 0, none⟩) 1 1] 37)) := (Below.refl _ _).alloc (Nat.le_refl _) _
  have nA : Blk (y1.alloc (.cells #[.int .i64 1, .int .i64 1, .int .i64 0, .int .i64 0, .string ⟨#[99, 112, 117]⟩, .slice none 0 0, .int .i64 9, .slice none 0 0, .slice none 0 0, .int .i64 4, .int .i64 0, .int .i64 3, .int .i64 2, .string ⟨#[]⟩, .slice none 0 0, .int .i64 0, .slice none 0 0, .slice (some ⟨gd, 0, none⟩) 1 1] 37)) y1.heap.size 37 [.int .i64 1, .int .i64 1, .int .i64 0, .int .i64 0, .string ⟨#[99, 112, 117]⟩, .slice none 0 0, .int .i64 9, .slice none 0 0, .slice none 0 0, .int .i64 4, .int .i64 0, .int .i64 3, .int .i64 2, .string ⟨#[]⟩, .slice none 0 0, .int .i64 0, .slice none 0 0, .slice (some ⟨gd, 0, none⟩) 1 1] := Blk.new y1 _ _
  obtain ⟨y2, hy2⟩ : ∃ z, (y1.alloc (.cells #[.int .i64 1, .int .i64 1, .int .i64 0, .int .i64 0, .string ⟨#[99, 112, 117]⟩, .slice none 0 0, .int .i64 9, .slice none 0 0, .slice none 0 0, .int .i64 4, .int .i64 0, .int .i64 3, .int .i64 2, .string ⟨#[]⟩, .slice none 0 0, .int .i64 0, .slice none 0 0, .slice (some ⟨gd, 0, none⟩) 1 1] 37)) = z := ⟨_, rfl⟩
  rw [hy2] at bA nA ⊢
  clear hy2
  have HS := Lib.hid (HS.out.trans (bA.mono HS.out.size))
  have NK := Lib.hid nA
  have HD := Lib.hid (HD.out.mono bA bA.size)
  clear bA nA
  refine hK.out _ _ HS.out (fun hHeld => ?_)
  clear hK K
  (try simp only [Act.put, lsa, lsz, lss])
  (refine htk 3 6 ?_ rfl ?_ ?_; rotate_left; (intro w hSw; clear hSw; go_simp); (try with_reducible rfl); simp only [lsz, lss])
  (refine htk 4 7 ?_ rfl ?_ ?_; rotate_left; (intro w hSw; clear hSw; go_simp); (try with_reducible rfl); simp only [lsz, lss])
  refine hrd 7 rfl (fun K hK => ?_)
  rw [if_pos (by kernel_rfl)]
  go_simp
  have bA : Below y2.heap.size y2 (y2.alloc (.cells #[.int .i64 5, .int .i64 3, .int .i64 0, .int .i64 1, .int .i64 0, .string ⟨#[]⟩, .slice none 0 0, .int .i64 0, .slice none 0 0, .slice (some ⟨y1.heap.size, 0, none⟩) 2 2, .int .i64 5, .int .i64 1, .int .i64 1, .int .i64 0, .int .i64 0, .string ⟨#[99, 112, 117]⟩, .slice none 0 0, .int .i64 9, .slice none 0 0, .slice none 0 0] 44)) := (Below.refl _ _).alloc (Nat.le_refl _) _
  have nA : Blk (y2.alloc (.cells #[.int .i64 5, .int .i64 3, .int .i64 0, .int .i64 1, .int .i64 0, .string ⟨#[]⟩, .slice none 0 0, .int .i64 0, .slice none 0 0, .slice (some ⟨y1.heap.size, 0, none⟩) 2 2, .int .i64 5, .int .i64 1, .int .i64 1, .int .i64 0, .int .i64 0, .string ⟨#[99, 112, 117]⟩, .slice none 0 0, .int .i64 9, .slice none 0 0, .slice none 0 0] 44)) y2.heap.size 44 [.int .i64 5, .int .i64 3, .int .i64 0, .int .i64 1, .int .i64 0, .string ⟨#[]⟩, .slice none 0 0, .int .i64 0, .slice none 0 0, .slice (some ⟨y1.heap.size, 0, none⟩) 2 2, .int .i64 5, .int .i64 1, .int .i64 1, .int .i64 0, .int .i64 0, .string ⟨#[99, 112, 117]⟩, .slice none 0 0, .int .i64 9, .slice none 0 0, .slice none 0 0] := Blk.new y2 _ _
  obtain ⟨y3, hy3⟩ : ∃ z, (y2.alloc (.cells #[.int .i64 5, .int .i64 3, .int .i64 0, .int .i64 1, .int .i64 0, .string ⟨#[]⟩, .slice none 0 0, .int .i64 0, .slice none 0 0, .slice (some ⟨y1.heap.size, 0, none⟩) 2 2, .int .i64 5, .int .i64 1, .int .i64 1, .int .i64 0, .int .i64 0, .string ⟨#[99, 112, 117]⟩, .slice none 0 0, .int .i64 9, .slice none 0 0, .slice none 0 0] 44)) = z := ⟨_, rfl⟩
  rw [hy3] at bA nA ⊢
  clear hy3
  have HS := Lib.hid (HS.out.trans (bA.mono HS.out.size))
  have NK := Lib.hid (NK.out.keep bA)
  have HD := Lib.hid (HD.out.mono bA bA.size)
  have NQ := Lib.hid nA
  have hz := nA.lt
  have hz2 := bA.size
  clear bA nA
  refine hK.out _ _ HS.out (fun hHeld => ?_)
  clear hK K
  (try simp only [Act.put, lsa, lsz, lss])
  (refine htk 8 0 ?_ rfl ?_ ?_; rotate_left; (intro w hSw; clear hSw; go_simp); (try with_reducible rfl); simp only [lsz, lss])
  refine wpAnyH_done (by kernel_rfl) ?_ _
  go_wp2
  go_ret
  refine ⟨_, rfl, ⟨[[.int .i64 5, .int .i64 3, .int .i64 0, .int .i64 1, .int .i64 0, .string ⟨#[]⟩, .slice none 0 0, .int .i64 0, .slice none 0 0, .slice (some ⟨y1.heap.size, 0, none⟩) 2 2], [.int .i64 5, .int .i64 1, .int .i64 1, .int .i64 0, .int .i64 0, .string ⟨#[99, 112, 117]⟩, .slice none 0 0, .int .i64 9, .slice none 0 0, .slice none 0 0]], arrBlk (rows := [[.int .i64 5, .int .i64 3, .int .i64 0, .int .i64 1, .int .i64 0, .string ⟨#[]⟩, .slice none 0 0, .int .i64 0, .slice none 0 0, .slice (some ⟨y1.heap.size, 0, none⟩) 2 2], [.int .i64 5, .int .i64 1, .int .i64 1, .int .i64 0, .int .i64 0, .string ⟨#[99, 112, 117]⟩, .slice none 0 0, .int .i64 9, .slice none 0 0, .slice none 0 0]]) NQ.out NQ.out.lt (by simp) (by show 2 ≤ maxLen; decide), rfl, fun k r q hr hq => ?_⟩, HB.out.trans (HS.out.mono HB.out.size)⟩
  match k, hr, hq with
  | 0, hr, hq =>
    simp only [firstL, List.getElem?_cons_zero, Option.some.injEq] at hr hq; subst hr hq; refine ⟨[.int .i64 3, .int .i64 0, .int .i64 1, .int .i64 0, .string ⟨#[]⟩, .slice none 0 0, .int .i64 0, .slice none 0 0, .slice (some ⟨y1.heap.size, 0, none⟩) 2 2], rfl, .mk (rows := [[.int .i64 1, .int .i64 1, .int .i64 0, .int .i64 0, .string ⟨#[99, 112, 117]⟩, .slice none 0 0, .int .i64 9, .slice none 0 0, .slice none 0 0], [.int .i64 4, .int .i64 0, .int .i64 3, .int .i64 2, .string ⟨#[]⟩, .slice none 0 0, .int .i64 0, .slice none 0 0, .slice (some ⟨gd, 0, none⟩) 1 1]]) (by decide) ⟨Arr.nil _ _ _, by simp⟩ (noStrs _ _) (arrBlk (rows := [[.int .i64 1, .int .i64 1, .int .i64 0, .int .i64 0, .string ⟨#[99, 112, 117]⟩, .slice none 0 0, .int .i64 9, .slice none 0 0, .slice none 0 0], [.int .i64 4, .int .i64 0, .int .i64 3, .int .i64 2, .string ⟨#[]⟩, .slice none 0 0, .int .i64 0, .slice none 0 0, .slice (some ⟨gd, 0, none⟩) 1 1]]) NK.out NK.out.lt (by simp) (by show 2 ≤ maxLen; decide)) rfl (fun k r e hr he => ?_)⟩
    match k, hr, he with
    | 0, hr, he => simp only [List.getElem?_cons_zero, Option.some.injEq, jE, Ex.kids] at hr he; subst hr he; exact sE_is _ _
    | 1, hr, he => simp only [List.getElem?_cons_succ, List.getElem?_cons_zero, Option.some.injEq, jE, Ex.kids] at hr he; subst hr he; exact HD.out
    | k + 2, hr, he => simp at hr
  | 1, hr, hq =>
    simp only [firstL, List.getElem?_cons_succ, List.getElem?_cons_zero, Option.some.injEq] at hr hq; subst hr hq; exact ⟨[.int .i64 1, .int .i64 1, .int .i64 0, .int .i64 0, .string ⟨#[99, 112, 117]⟩, .slice none 0 0, .int .i64 9, .slice none 0 0, .slice none 0 0], rfl, sE_is _ _⟩
  | k + 2, hr, hq => simp at hr
end Go.Proofs.YtdjdikiimhhjpaaGreatDoor
namespace Go.Proofs.YtdjdikiimhhjpaaGreatDoor
open Go.RowKit
set_option linter.unusedSimpArgs false
set_option linter.unusedVariables false
theorem IsInts.from {n : Nat} {w : World} {b off len cap : Nat} {l : List Int} (h : IsInts n w (.slice (some ⟨b, off, none⟩) len cap) l) (k : Nat) (hk : k < l.length) :
    IsInts n w (.slice (some ⟨b, off + k, none⟩) (l.length - k) (cap - k)) (l.drop k) := by
  obtain ⟨p, c, hv, h1, h2, h3⟩ := h
  simp only [Value.slice.injEq, List.length_map] at hv h1
  obtain ⟨hp, rfl, rfl⟩ := hv
  refine ⟨_, _, by rw [List.length_map, List.length_drop], by rw [List.length_map, List.length_drop]; omega, by omega, fun _ => ?_⟩
  obtain ⟨b', off', hp', hb, hc⟩ := h3 (by intro h0; simp at h0; subst h0; simp at hk)
  rw [← hp] at hp'
  cases hp'
  refine ⟨b, off + k, rfl, hb, fun i r hr j x hx => ?_⟩
  rw [List.getElem?_map, List.getElem?_drop, ← List.getElem?_map] at hr
  have := hc (k + i) r hr j x hx
  rw [show off + k + i * 1 + j = off + (k + i) * 1 + j from by omega]
  exact this
theorem lLives (w : World) (hT : TB w.heap.size w) : Calls Tryz.prog 4 #[] w fun e' w' => e' = .returned (.bool true) ∧ Below w.heap.size w w' := by
  have HT := Lib.hid hT; clear hT
  have HB := Lib.hid (Below.refl w.heap.size w)
  go_enter Tryz.func4, Tryz.ntmps4; (try simp only [List.append_eq, List.cons_append, List.nil_append])
  go_wp2_with fail
  refine (xFirst _).mono ?_
  rintro e' y1 ⟨v0, rfl, hq, hb⟩
  have HB := Lib.hid (HB.out.trans (hb.mono HB.out.size))
  clear hb
  have HO := Lib.hid (pOf firstL v0 y1.heap.size y1 (Nat.le_refl _) hq ((HT.out.on HB.out).less HB.out.size) lq_first room_first (by decide)); clear hq
  rw [first_of] at HO
  go_wp2_with fail
  refine (HO.out).mono ?_
  rintro e' y2 ⟨vp, vr, rfl, hp, hr, hb⟩
  have HB := Lib.hid (HB.out.trans (hb.mono HB.out.size))
  clear hb
  clear HO
  have hr := hr.ints (Nat.le_refl _)
  obtain ⟨pp, cp, hv, -, hcp, -⟩ := hp.open
  rw [show P3.length = 3 from rfl] at hv
  subst hv
  obtain ⟨pr, cr, hv, hcr1, hcr, -⟩ := hr.open
  have hv : vr = .slice pr 2 cr := hv
  subst hv
  replace hcr1 : 2 ≤ cr := hcr1
  unfold maxLen at hcp hcr
  have HP : Hid (IsNds y2.heap.size y2 (.slice pp 3 cp) P3) := Lib.hid hp; have HR : Hid (IsInts y2.heap.size y2 (.slice pr 2 cr) [3, 1]) := Lib.hid hr; clear hp hr
  have HB2 := Lib.hid (Below.refl y2.heap.size y2)
  obtain ⟨b, off, pm, cm, pn, cn, pk, ck, pi, ci, hpp, hbn, -, hi, hc⟩ := HP.out.get (k := 2) (by decide : 2 < P3.length)
  subst hpp
  have HI : Hid (IsInts y2.heap.size y2 (.slice pi 2 ci) [1, 2]) := Lib.hid hi
  have hcI : y2.cell? ⟨b, off + 32, none⟩ = some (.slice pi 2 ci) := hc 10 _ rfl
  have HCI := Lib.hid (Lib.hid hcI).out; have HBN := Lib.hid hbn
  clear hc hi hbn hcI
  go_wp2_with fail
  obtain ⟨y3, hX⟩ : ∃ z, y2.alloc (.cells #[.int .i64 3, .int .i64 1] 3) = z := ⟨_, rfl⟩
  have nX : Blk y3 y2.heap.size 3 [.int .i64 3, .int .i64 1] := by rw [← hX]; exact Blk.new y2 _ _
  have bX : Below y2.heap.size y2 y3 := by rw [← hX]; exact (Below.refl _ _).alloc (Nat.le_refl _) _
  rw [hX]; clear hX
  have HN := Lib.hid (ints_blk (l := [3, 1]) nX (by simp [maxLen])); clear nX
  have HB := Lib.hid (HB.out.trans (bX.mono HB.out.size))
  have HB2 := Lib.hid (HB2.out.trans (bX.mono HB2.out.size))
  have HP := Lib.hid (HP.out.mono bX bX.size)
  have HR := Lib.hid (HR.out.mono bX bX.size)
  have HI := Lib.hid (HI.out.mono bX bX.size)
  clear bX
  refine (kIntsS [3, 1] _ _ y3.heap.size y3 (Nat.le_refl _) HR.out HN.out).mono ?_
  rintro e' y4 ⟨rfl, hb⟩
  have HB := Lib.hid (HB.out.trans (hb.mono HB.out.size))
  have HB2 := Lib.hid (HB2.out.trans (hb.mono HB2.out.size))
  have HP := Lib.hid (HP.out.mono hb hb.size)
  have HR := Lib.hid (HR.out.mono hb hb.size)
  have HI := Lib.hid (HI.out.mono hb hb.size)
  clear hb
  have cI : y4.cell? ⟨b, off + 22 + 10, none⟩ = some (.slice pi 2 ci) := (HB2.out.cell (p := ⟨b, off + 22 + 10, none⟩) HBN.out).trans HCI.out
  go_wp2_with fail
  obtain ⟨y5, hX⟩ : ∃ z, y4.alloc (.cells #[.int .i64 1, .int .i64 2] 3) = z := ⟨_, rfl⟩
  have nX : Blk y5 y4.heap.size 3 [.int .i64 1, .int .i64 2] := by rw [← hX]; exact Blk.new y4 _ _
  have bX : Below y4.heap.size y4 y5 := by rw [← hX]; exact (Below.refl _ _).alloc (Nat.le_refl _) _
  rw [hX]; clear hX
  have HN := Lib.hid (ints_blk (l := [1, 2]) nX (by simp [maxLen])); clear nX
  have HB := Lib.hid (HB.out.trans (bX.mono HB.out.size))
  have HB2 := Lib.hid (HB2.out.trans (bX.mono HB2.out.size))
  have HP := Lib.hid (HP.out.mono bX bX.size)
  have HR := Lib.hid (HR.out.mono bX bX.size)
  have HI := Lib.hid (HI.out.mono bX bX.size)
  clear bX
  refine (kIntsS [1, 2] _ _ y5.heap.size y5 (Nat.le_refl _) HI.out HN.out).mono ?_
  rintro e' y6 ⟨rfl, hb⟩
  have HB := Lib.hid (HB.out.trans (hb.mono HB.out.size))
  have HB2 := Lib.hid (HB2.out.trans (hb.mono HB2.out.size))
  have HP := Lib.hid (HP.out.mono hb hb.size)
  have HR := Lib.hid (HR.out.mono hb hb.size)
  have HI := Lib.hid (HI.out.mono hb hb.size)
  clear hb
  clear cI
  obtain ⟨br, or, hpr, -, -⟩ := HR.out.get (k := 0) (by decide : 0 < ([3, 1] : List Int).length)
  subst hpr
  have HR1 : Hid (IsInts y6.heap.size y6 (.slice (some ⟨br, or + 1, none⟩) 1 (cr - 1)) [1]) := Lib.hid (HR.out.from 1 (by decide))
  clear HI
  clear HR
  go_wp2_with fail
  refine (pUsedN P3 [1] _ _ y6.heap.size y6 (Nat.le_refl _) HP.out HR1.out (by decide)).mono ?_
  rintro e' y7 ⟨vu, rfl, hu, hb⟩
  have HB := Lib.hid (HB.out.trans (hb.mono HB.out.size))
  have HB2 := Lib.hid (HB2.out.trans (hb.mono HB2.out.size))
  have HP := Lib.hid (HP.out.mono hb hb.size)
  have HR1 := Lib.hid (HR1.out.mono hb hb.size)
  clear hb
  rw [p3_used] at hu
  have hi := hu.ints (Nat.le_refl _); clear hu
  obtain ⟨pu, cu, hv, -, -, -⟩ := hi.open
  have hv : vu = .slice pu 1 cu := hv
  subst hv
  have HU := Lib.hid hi; clear hi
  go_wp2_with fail
  obtain ⟨y8, hX⟩ : ∃ z, y7.alloc (.cells #[.int .i64 1] 3) = z := ⟨_, rfl⟩
  have nX : Blk y8 y7.heap.size 3 [.int .i64 1] := by rw [← hX]; exact Blk.new y7 _ _
  have bX : Below y7.heap.size y7 y8 := by rw [← hX]; exact (Below.refl _ _).alloc (Nat.le_refl _) _
  rw [hX]; clear hX
  have HN := Lib.hid (ints_blk (l := [1]) nX (by simp [maxLen])); clear nX
  have HB := Lib.hid (HB.out.trans (bX.mono HB.out.size))
  have HB2 := Lib.hid (HB2.out.trans (bX.mono HB2.out.size))
  have HP := Lib.hid (HP.out.mono bX bX.size)
  have HU := Lib.hid (HU.out.mono bX bX.size)
  clear bX
  refine (kIntsS [1] _ _ y8.heap.size y8 (Nat.le_refl _) HU.out HN.out).mono ?_
  rintro e' y9 ⟨rfl, hb⟩
  have HB := Lib.hid (HB.out.trans (hb.mono HB.out.size))
  have HB2 := Lib.hid (HB2.out.trans (hb.mono HB2.out.size))
  have HP := Lib.hid (HP.out.mono hb hb.size)
  have HU := Lib.hid (HU.out.mono hb hb.size)
  clear hb
  clear HU
  go_wp2_with fail
  refine (pOut P3 1 _ y9.heap.size y9 (Nat.le_refl _) HP.out).mono ?_
  rintro e' y10 ⟨vu, rfl, hu, hb⟩
  have HB := Lib.hid (HB.out.trans (hb.mono HB.out.size))
  have HB2 := Lib.hid (HB2.out.trans (hb.mono HB2.out.size))
  have HP := Lib.hid (HP.out.mono hb hb.size)
  clear hb
  rw [p3_out] at hu
  have hi := hu.ints (Nat.le_refl _); clear hu
  obtain ⟨pu, cu, hv, -, -, -⟩ := hi.open
  have hv : vu = .slice pu 2 cu := hv
  subst hv
  have HU := Lib.hid hi; clear hi
  go_wp2_with fail
  obtain ⟨y11, hX⟩ : ∃ z, y10.alloc (.cells #[.int .i64 2, .int .i64 3] 3) = z := ⟨_, rfl⟩
  have nX : Blk y11 y10.heap.size 3 [.int .i64 2, .int .i64 3] := by rw [← hX]; exact Blk.new y10 _ _
  have bX : Below y10.heap.size y10 y11 := by rw [← hX]; exact (Below.refl _ _).alloc (Nat.le_refl _) _
  rw [hX]; clear hX
  have HN := Lib.hid (ints_blk (l := [2, 3]) nX (by simp [maxLen])); clear nX
  have HB := Lib.hid (HB.out.trans (bX.mono HB.out.size))
  have HB2 := Lib.hid (HB2.out.trans (bX.mono HB2.out.size))
  have HP := Lib.hid (HP.out.mono bX bX.size)
  have HU := Lib.hid (HU.out.mono bX bX.size)
  clear bX
  refine (kIntsS [2, 3] _ _ y11.heap.size y11 (Nat.le_refl _) HU.out HN.out).mono ?_
  rintro e' y12 ⟨rfl, hb⟩
  have HB := Lib.hid (HB.out.trans (hb.mono HB.out.size))
  have HB2 := Lib.hid (HB2.out.trans (hb.mono HB2.out.size))
  have HP := Lib.hid (HP.out.mono hb hb.size)
  have HU := Lib.hid (HU.out.mono hb hb.size)
  clear hb
  go_wp2
  go_ret
  exact ⟨rfl, HB.out⟩
end Go.Proofs.YtdjdikiimhhjpaaGreatDoor
