/- AstCopy: the walk. -/
import Derived.Test.YtikaiiamoaahdaaCpy0
import Derived.Test.YtikaiiamoaahdaaFits
import Derived.Test.YtikaiiamoaahdaaLives
import Derived.Test.YtikaiiamoaahdaaKit3
import Derived.Test.YtikaiiamoaahdaaSame2
import Derived.Test.YtikaiiamoaahdaaCopy1
import Derived.Test.YtikaiiamoaahdaaSpoil1
import Derived.Test.YtikaiiamoaahdaaCpd
import Derived.Deep.RegionHeld3
import Derived.Deep.RegionWith
import Derived.Deep.DrawnRows
import Derived.IntWalk
namespace Go.Proofs.Ytikaiiamoaahdaa
open Go.RowKit
set_option linter.unusedSimpArgs false
set_option linter.unusedVariables false
attribute [local go_sem ↓] Go.wp_at_zero Go.wp_at_succ

theorem wrap_in' {x : Int} (h : -9223372036854775808 ≤ x ∧ x ≤ 9223372036854775807) : IntKind.i64.wrap x = x := IntWalk.i64_in _ h
theorem Own.slice3 {n base : Nat} {w : World} {v : Value} {l : List Ex} (h : Own n base w v l) : ∃ A c, v = .slice A l.length c := by
  obtain ⟨rows, h1, _⟩ := h
  exact ownsRow_slice h1
theorem deep_le_deeps {l : List Ex} {x : Ex} (h : x ∈ l) : x.deep ≤ deeps l := by
  induction l with
  | nil => cases h
  | cons y l ih =>
    simp only [deeps]
    rcases List.mem_cons.1 h with rfl | h
    · omega
    · have := ih h; omega
theorem flat_sub {e x : Ex} (h : x ∈ e.kids) : ∀ y ∈ x.flat, y ∈ e.flat := by
  intro y hy
  rw [Ex.flat_eq]
  refine List.mem_cons_of_mem _ ?_
  have : ∀ l : List Ex, x ∈ l → y ∈ flats l := by
    intro l
    induction l with
    | nil => intro h; cases h
    | cons z l ih =>
      intro h
      simp only [flats, List.mem_append]
      rcases List.mem_cons.1 h with rfl | h
      · exact .inl hy
      · exact .inr (ih h)
  exact this _ h
theorem kid_ok {e : Ex} (hs : e.size ≤ 200) (hd : e.deep ≤ 16) (hr : e.flat.all rightB = true) {x : Ex} (h : x ∈ e.kids) : checkExpr x = 0 := by
  refine checkExpr_ok ?_ ?_
  · have h1 := size_le_sizes h
    have h2 := e.size_eq
    have h3 := deep_le_deeps h
    have h4 := e.deep_eq
    omega
  · rw [List.all_eq_true] at hr ⊢
    exact fun y hy => hr y (flat_sub h y hy)
theorem right_self {e : Ex} (hr : e.flat.all rightB = true) : rightB e = true := by
  rw [Ex.flat_eq, List.all_cons, Bool.and_eq_true] at hr
  exact hr.1
theorem window_kids {e : Ex} (h : rightB e = true) (hk : e.kind = 1) : e.kids = [] ∧ 1 ≤ e.span := by
  unfold rightB at h
  rw [Bool.and_eq_true, hk] at h
  have := (rightH_1 _ _ _ _ _ _ _ _).1 h.2
  exact ⟨List.eq_nil_of_length_eq_zero this.1, this.2.2.2.2.2.2.1⟩
theorem leavesTo_step {l : List Ex} {k : Nat} (h : k < l.length) : horTo (leavess (l.take (k + 1))) = max (horTo (leavess (l.take k))) l[k].hor := by
  rw [leavess_step h, horTo_append]; rfl

set_option maxRecDepth 100000 in
set_option maxHeartbeats 8000000 in
theorem wCopyLaw (e : Ex) (cs : List Value) (n : Nat) (w : World) (hn : n ≤ w.heap.size) (he : IsEx n w e cs) :
    Calls Try.prog 7 #[.agg cs.toArray] w fun e' w' => e' = .returned (.bool true) ∧ Below w.heap.size w w' := by
  obtain ⟨pm, cm, pn, cn, pk, ck, rfl, -, -, -, hka⟩ := he.cellsE
  obtain ⟨_, _, hv, _, _, hlk⟩ := hka.open
  clear hv
  unfold maxLen at hlk
  have Hka := Lib.hid hka; clear hka
  have He := Lib.hid he; clear he
  go_enter Try.func7, Try.ntmps7; (try simp only [List.append_eq, List.cons_append, List.nil_append])
  go_upto_region 0 with fail
  go_cut [1, 2] (fun s1 s2 wx => s1 = .pointer (some ⟨w.heap.size, 0, none⟩) ∧ Below w.heap.size w wx ∧ Blk wx w.heap.size 26 [.int .i64 e.kind, .int .i64 e.fn, .int .i64 e.op, .int .i64 e.num, .string e.metric, .slice pm e.mats.length cm, .int .i64 e.span, .slice pn e.names.length cn, .slice pk e.kids.length ck])
  case first =>
    go_wp2
    go_meet
    exact ⟨rfl, (Below.refl _ _).alloc (Nat.le_refl _) _, Blk.new _ _ _⟩
  case rest =>
    obtain ⟨rfl, hbw, hbox⟩ := hcut
    obtain ⟨W, rfl⟩ : ∃ W : World, W = wc := ⟨_, rfl⟩
    have hlt := hbox.lt
    have hsw := hbw.size
    have Hbox := Lib.hid hbox; clear hbox
    have Hbw := Lib.hid hbw; clear hbw
    have HEx := Lib.hid (fun X (h : Below W.heap.size W X) => He.out.mono (Hbw.out.mono hn |>.trans (h.mono (by omega))) (Nat.le_refl n))
    go_wp2_with fail
    refine (wLives _).mono ?_
    rintro e' W1 ⟨rfl, hb1⟩
    have HX1 := Lib.hid hb1
    have hs1 := hb1.size
    have hx1 := Hbox.out.keep hb1
    clear hb1
    have c0 := hx1.cell 0 _ rfl
    have c1 := hx1.cell 1 _ rfl
    have c2 := hx1.cell 2 _ rfl
    have c3 := hx1.cell 3 _ rfl
    have c4 := hx1.cell 4 _ rfl
    have c5 := hx1.cell 5 _ rfl
    have c6 := hx1.cell 6 _ rfl
    have c7 := hx1.cell 7 _ rfl
    have c8 := hx1.cell 8 _ rfl
    clear hx1
    go_wp2_with fail
    refine (kLight e _ 400 n _ (by omega) (by decide) (by decide) (HEx.out _ HX1.out)).mono ?_
    rintro e' W2 ⟨rfl, hb2⟩
    have HX2 := Lib.hid (HX1.out.trans (hb2.mono hs1))
    have hs2 := hb2.size
    clear hb2 c0 c1 c2 c3 c4 c5 c6 c7 c8
    cases hla : light e 400 with
    | false =>
      go_wp2
      go_ret
      exact ⟨rfl, Hbw.out.trans (HX2.out.mono hsw)⟩
    | true =>
      have hsz := light_size hla (by decide)
      have Hth := Lib.hid (light_thin hla)
      clear hla
      have hx2 := Hbox.out.keep HX2.out
      have c0 := hx2.cell 0 _ rfl
      have c1 := hx2.cell 1 _ rfl
      have c2 := hx2.cell 2 _ rfl
      have c3 := hx2.cell 3 _ rfl
      have c4 := hx2.cell 4 _ rfl
      have c5 := hx2.cell 5 _ rfl
      have c6 := hx2.cell 6 _ rfl
      have c7 := hx2.cell 7 _ rfl
      have c8 := hx2.cell 8 _ rfl
      clear hx2
      go_wp2_with fail
      refine (aCheckExpr e _ n _ (by omega) (HEx.out _ HX2.out) (by omega)).mono ?_
      rintro e' W3 ⟨rfl, hb3⟩
      have HX3 := Lib.hid (HX2.out.trans (hb3.mono (by omega)))
      have hs3 := hb3.size
      clear hb3 c0 c1 c2 c3 c4 c5 c6 c7 c8
      by_cases hca : checkExpr e = 0
      · rw [hca]
        obtain ⟨sa, da, pa⟩ := ok_parts hca
        have Pa := Lib.hid pa; clear pa hca
        go_upto_region 6 with fail
        obtain ⟨W4, hW4⟩ : ∃ W4, W3.alloc (.cells #[.int .i64 0] 3) = W4 := ⟨_, rfl⟩
        have hb4 : Below W3.heap.size W3 W4 := by rw [← hW4]; exact (Below.refl _ _).alloc (Nat.le_refl _) _
        have hs4 : W4.heap.size = W3.heap.size + 1 := by rw [← hW4]; simp
        have hn4 : Boxed W4 W3.heap.size 3 (.int .i64 0) := by rw [← hW4]; exact Boxed.new _ _ _
        rw [hW4]
        clear hW4
        have HX4 := Lib.hid (HX3.out.trans (hb4.mono (by omega)))
        have hx4 := Hbox.out.keep HX4.out
        have c0 := hx4.cell 0 _ rfl
        have c1 := hx4.cell 1 _ rfl
        have c2 := hx4.cell 2 _ rfl
        have c3 := hx4.cell 3 _ rfl
        have c4 := hx4.cell 4 _ rfl
        have c5 := hx4.cell 5 _ rfl
        have c6 := hx4.cell 6 _ rfl
        have c7 := hx4.cell 7 _ rfl
        have c8 := hx4.cell 8 _ rfl
        clear hx4
        have hJ0 : CntJ W3.heap.size W3.heap.size W4 true [] W4 := ⟨rfl, hn4, Below.refl _ _, hb4.size⟩
        have HJ0 := Lib.hid hJ0; clear hJ0 hn4
        have Hb4 := Lib.hid hb4; clear hb4
        have Hs4 := Lib.hid hs4; clear hs4
        have hW4' : W3.heap.size < W4.heap.size := by have := Hs4.out; omega
        have hWk := Lib.hid (fun X (hX : X = W4 ∨ X = W4.drew) => by
          have hXs : X.heap.size = W4.heap.size := by rcases hX with rfl | rfl <;> rfl
          have hXb : Below W4.heap.size W4 X := by
            rcases hX with rfl | rfl
            · exact Below.refl _ _
            · exact (Below.refl _ _).drew
          have hJX : CntJ W3.heap.size W3.heap.size W4 true [] X := by 
            rcases hX with rfl | rfl
            · exact HJ0.out
            · exact ⟨HJ0.out.1, HJ0.out.2.1, HJ0.out.2.2.1.drew, HJ0.out.2.2.2⟩
          exact aWalk e [.int .i64 e.kind, .int .i64 e.fn, .int .i64 e.op, .int .i64 e.num, .string e.metric, .slice pm e.mats.length cm, .int .i64 e.span, .slice pn e.names.length cn, .slice pk e.kids.length ck] n X (by omega) (HEx.out _ (HX4.out.trans (hXb.mono HX4.out.size))) (cntWatch (by omega) (Nat.le_refl _) (by omega)) 34 #[.pointer (some ⟨W3.heap.size, 0, none⟩)] (enters_of Try.func34 (by kernel_rfl) rfl) hJX (fun pre x r Y hj hx _ _ hp => cntEach (N := e.size) (Nat.le_refl _) (by omega) pre x r Y hj hx hp))
        go_cut [36] (fun s36 wx => s36 = .bool false ∧ Below W3.heap.size W3 wx)
        case first =>
          go_region_with (first
            | (go_at_call 12; refine (hWk.out _ (by first | exact .inl rfl | exact .inr rfl)).mono ?_; rintro e' w5 ⟨b, l, rfl, ⟨rfl, p2, p3, p4⟩, q1, -⟩; have hl := q1 rfl; subst hl; rw [flat_length] at p2; have n5 := p2.cell; have hw5 := p2.lt; have HP5 := Lib.hid (Hb4.out.trans p3); clear q1 p3; have hx5 := Hbox.out.keep (HX3.out.trans (HP5.out.mono (by omega))); have g0 := hx5.cell 0 _ rfl; have g1 := hx5.cell 1 _ rfl; have g2 := hx5.cell 2 _ rfl; have g3 := hx5.cell 3 _ rfl; have g4 := hx5.cell 4 _ rfl; have g5 := hx5.cell 5 _ rfl; have g6 := hx5.cell 6 _ rfl; have g7 := hx5.cell 7 _ rfl; have g8 := hx5.cell 8 _ rfl; have HP2 := Lib.hid p2; clear hx5 p2)
            | (go_at_call 19; refine (aSize e _ n _ (by first | omega | (simp; omega)) (HEx.out _ (HX3.out.trans ((by first | exact HP5.out | exact HP5.out.drew : Below W3.heap.size W3 _).mono (by omega)))) (by omega)).mono ?_; rintro e' w6 ⟨rfl, hb6⟩; have HP6 := Lib.hid (HP5.out.trans (hb6.mono (by first | omega | (simp; omega)))); have n6 := (Boxed.keepB HP2.out hb6).cell; have hs6 := hb6.size; clear hb6; have hx6 := Hbox.out.keep (HX3.out.trans (HP6.out.mono (by omega))); have i0 := hx6.cell 0 _ rfl; have i1 := hx6.cell 1 _ rfl; have i2 := hx6.cell 2 _ rfl; have i3 := hx6.cell 3 _ rfl; have i4 := hx6.cell 4 _ rfl; have i5 := hx6.cell 5 _ rfl; have i6 := hx6.cell 6 _ rfl; have i7 := hx6.cell 7 _ rfl; have i8 := hx6.cell 8 _ rfl; clear hx6)
            | (go_at_call 23; refine (aSame e e _ _ n _ (by first | omega | (simp; omega)) (HEx.out _ (HX3.out.trans ((by first | exact HP6.out | exact HP6.out.drew : Below W3.heap.size W3 _).mono (by omega)))) (HEx.out _ (HX3.out.trans ((by first | exact HP6.out | exact HP6.out.drew : Below W3.heap.size W3 _).mono (by omega))))).mono ?_; rintro e' w7 ⟨rfl, hb7⟩; have HP7 := Lib.hid (HP6.out.trans (hb7.mono (by first | omega | (simp; omega)))); clear hb7))
          all_goals go_wp2
          all_goals go_meet
          all_goals exact ⟨rfl, HP7.out⟩
        case rest =>
          obtain ⟨rfl, hb6⟩ := hcut
          obtain ⟨W6, rfl⟩ : ∃ W6 : World, W6 = wc := ⟨_, rfl⟩
          have hs6 := hb6.size
          have HX6 := Lib.hid (HX3.out.trans (hb6.mono (by omega)))
          clear hb6 c0 c1 c2 c3 c4 c5 c6 c7 c8 HJ0 hWk Hb4 HX4 Hs4 hW4'
          have hx6 := Hbox.out.keep HX6.out
          have c8 := hx6.cell 8 _ rfl
          clear hx6
          have hszk : sizes e.kids ≤ 199 := by have := e.size_eq; omega
          have hllk := leavess_length e.kids
          go_wp2
          go_loopw [4, 5, 6, 7, 8] (fun i4 i5 i6 i7 i8 wr => ∃ k : Nat, k ≤ e.kids.length ∧ i4 = .int .i64 (leavess (e.kids.take k)).length ∧ i5 = .int .i64 (horTo (leavess (e.kids.take k))) ∧ i6 = .int .i64 (1 + (sizes (e.kids.take k) : Int)) ∧ i7 = .int .i64 (deeps (e.kids.take k)) ∧ i8 = .int .i64 k ∧ Below W6.heap.size W6 wr) (fun i4 i5 i6 i7 i8 _ => e.kids.length - (intOf i8).toNat)
          case atStart => exact ⟨0, Nat.zero_le _, rfl, rfl, rfl, rfl, rfl, Below.refl _ _⟩
          case round =>
            obtain ⟨k, hk, rfl, rfl, rfl, rfl, rfl, hbr⟩ := hrel
            have hszr := hbr.size
            have HXr := Lib.hid (HX6.out.trans (hbr.mono (by omega)))
            have Hbr := Lib.hid hbr; clear hbr
            have hxr := Hbox.out.keep HXr.out
            have d0 := hxr.cell 0 _ rfl
            have d1 := hxr.cell 1 _ rfl
            have d2 := hxr.cell 2 _ rfl
            have d3 := hxr.cell 3 _ rfl
            have d4 := hxr.cell 4 _ rfl
            have d5 := hxr.cell 5 _ rfl
            have d6 := hxr.cell 6 _ rfl
            have d7 := hxr.cell 7 _ rfl
            have d8 := hxr.cell 8 _ rfl
            clear hxr c8
            by_cases hlt : k < e.kids.length
            · obtain ⟨b, off, qm, dm, qn, dn, qk, dk, rfl, hbn, hei, g0, g1, g2, g3, g4, g5, g6, g7, g8⟩ := (Hka.out.mono ((Hbw.out.trans (HXr.out.mono hsw)).mono hn) (Nat.le_refl _)).getE (Cells.refl _ _) hlt
              have hi1 : (0 : Int) ≤ (k : Int) := by omega
              have hi2 : (k : Int) < (e.kids.length : Int) := by omega
              have hkm : e.kids[k] ∈ e.kids := List.getElem_mem _
              have hks := size_le_sizes hkm
              have hkl := leaves_length e.kids[k]
              have hkd := deep_le_size e.kids[k]
              have hok := kid_ok sa da Pa.out hkm
              have ht1 := leavess_length (e.kids.take k)
              have ht2 := sizes_take_le e.kids k
              have Hei := Lib.hid hei; clear hei
              have hKb := Lib.hid (fun X (hX : Below wr.heap.size wr X) (o : Nat) => hX.cell (p := ⟨b, o, none⟩) (by simp; omega))
              go_wp2_with fail
              refine (aCheckExpr _ _ n _ (by omega) Hei.out (by omega)).mono ?_
              rintro e' W7 ⟨rfl, hb7⟩
              have hs7 := hb7.size
              have HX7 := Lib.hid (HXr.out.trans (hb7.mono (by omega)))
              have hx7 := Hbox.out.keep HX7.out
              have x8 := hx7.cell 8 _ rfl
              have p0 := (hKb.out _ hb7 _).trans g0
              have p1 := (hKb.out _ hb7 _).trans g1
              have p2 := (hKb.out _ hb7 _).trans g2
              have p3 := (hKb.out _ hb7 _).trans g3
              have p4 := (hKb.out _ hb7 _).trans g4
              have p5 := (hKb.out _ hb7 _).trans g5
              have p6 := (hKb.out _ hb7 _).trans g6
              have p7 := (hKb.out _ hb7 _).trans g7
              have p8 := (hKb.out _ hb7 _).trans g8
              clear hx7 d0 d1 d2 d3 d4 d5 d6 d7 d8 g0 g1 g2 g3 g4 g5 g6 g7 g8
              have HE7 := Lib.hid (fun X (h : Below W7.heap.size W7 X) => Hei.out.mono ((hb7.trans (h.mono hs7)).mono (by omega)) (Nat.le_refl n))
              have hK1 := Lib.hid (keepCalls (W := W7) (R := fun e' w' => ∃ A c, e' = .returned (.slice A e.kids[k].leaves.length c)) (fun X hX => (aLeaves e.kids[k] _ n X (by have := hX.size; omega) (HE7.out X hX) (by omega)).mono (fun e' w' ⟨v, h1, h2, h3⟩ => by
                obtain ⟨A, c, rfl⟩ := h2.slice3
                exact ⟨⟨A, c, h1⟩, h3⟩)))
              have hK2 := Lib.hid (keepCalls (W := W7) (R := fun e' w' => e' = .returned (.int .i64 e.kids[k].size)) (fun X hX => aSize e.kids[k] _ n X (by have := hX.size; omega) (HE7.out X hX) (by omega)))
              have hK3 := Lib.hid (keepCalls (W := W7) (R := fun e' w' => e' = .returned (.int .i64 e.kids[k].hor)) (fun X hX => aHorizon e.kids[k] _ n X (by have := hX.size; omega) (HE7.out X hX) (by omega)))
              have hK4 := Lib.hid (keepCalls (W := W7) (R := fun e' w' => e' = .returned (.int .i64 e.kids[k].deep)) (fun X hX => aDeep e.kids[k] _ n X (by have := hX.size; omega) (HE7.out X hX) (by omega)))
              have hW0 := Below.refl W7.heap.size W7
              have Hb7 := Lib.hid hb7; clear hb7
              have hw1 : IntKind.i64.wrap (((leavess (e.kids.take k)).length : Int) + (e.kids[k].leaves.length : Int)) = ((leavess (e.kids.take k)).length : Int) + (e.kids[k].leaves.length : Int) := wrap_in' ⟨by omega, by omega⟩
              have hw2 : IntKind.i64.wrap (1 + (sizes (e.kids.take k) : Int) + (e.kids[k].size : Int)) = 1 + (sizes (e.kids.take k) : Int) + (e.kids[k].size : Int) := wrap_in' ⟨by omega, by omega⟩
              have hm1 : (if horTo (leavess (e.kids.take k)) < e.kids[k].hor then e.kids[k].hor else horTo (leavess (e.kids.take k))) = max (horTo (leavess (e.kids.take k))) e.kids[k].hor := by split <;> omega
              have hm2 : (if (deeps (e.kids.take k) : Int) < (e.kids[k].deep : Int) then (e.kids[k].deep : Int) else (deeps (e.kids.take k) : Int)) = (deeps (e.kids.take (k + 1)) : Int) := by rw [deeps_step hlt]; split <;> omega
              rw [hok]
              go_upto_region 14 with fail
              go_region_held3 (fun w' => w'.cell? ⟨w.heap.size, 8, none⟩ = some (.slice (some ⟨b, off, none⟩) e.kids.length ck) ∧ w'.cell? ⟨b, off + k * 9, none⟩ = some (.int .i64 e.kids[k].kind) ∧ w'.cell? ⟨b, off + k * 9 + 1, none⟩ = some (.int .i64 e.kids[k].fn) ∧ w'.cell? ⟨b, off + k * 9 + 2, none⟩ = some (.int .i64 e.kids[k].op) ∧ w'.cell? ⟨b, off + k * 9 + 3, none⟩ = some (.int .i64 e.kids[k].num) ∧ w'.cell? ⟨b, off + k * 9 + 4, none⟩ = some (.string e.kids[k].metric) ∧ w'.cell? ⟨b, off + k * 9 + 5, none⟩ = some (.slice qm e.kids[k].mats.length dm) ∧ w'.cell? ⟨b, off + k * 9 + 6, none⟩ = some (.int .i64 e.kids[k].span) ∧ w'.cell? ⟨b, off + k * 9 + 7, none⟩ = some (.slice qn e.kids[k].names.length dn) ∧ w'.cell? ⟨b, off + k * 9 + 8, none⟩ = some (.slice qk e.kids[k].kids.length dk)) (go_keep)
                (first
                  | ((go_at_call 18; refine (hK1.out _ (by first | assumption | exact (Below.refl _ _).drew | exact Below.drew (by assumption))).mono ?_; rintro e' w8 ⟨⟨A1, c1, rfl⟩, hB8, hb8, hk8⟩; have ka8 := fun o => hk8 w.heap.size o (by omega); have kg8 := fun o => hk8 b o (by omega); clear hk8))
                  | ((go_at_call 19; refine (hK2.out _ (by first | assumption | exact (Below.refl _ _).drew | exact Below.drew (by assumption))).mono ?_; rintro e' w9 ⟨rfl, hB9, hb9, hk9⟩; have ka9 := fun o => hk9 w.heap.size o (by omega); have kg9 := fun o => hk9 b o (by omega); clear hk9)))
              have hx9 := Hbox.out.keep (HX7.out.trans (hB9.mono (by omega)))
              have y8 := hx9.cell 8 _ rfl
              have hk9 := fun o => hB9.cell (p := ⟨b, o, none⟩) (by simp; omega)
              have q0 := (hk9 _).trans p0
              have q1 := (hk9 _).trans p1
              have q2 := (hk9 _).trans p2
              have q3 := (hk9 _).trans p3
              have q4 := (hk9 _).trans p4
              have q5 := (hk9 _).trans p5
              have q6 := (hk9 _).trans p6
              have q7 := (hk9 _).trans p7
              have q8 := (hk9 _).trans p8
              clear hx9 hk9 x8 p0 p1 p2 p3 p4 p5 p6 p7 p8 ka8 kg8 ka9 kg9 hB8 hb8 hb9 hW0 hw1 hw2
              go_upto_region 15 with fail
              go_region_held3 (fun w' => w'.cell? ⟨w.heap.size, 8, none⟩ = some (.slice (some ⟨b, off, none⟩) e.kids.length ck) ∧ w'.cell? ⟨b, off + k * 9, none⟩ = some (.int .i64 e.kids[k].kind) ∧ w'.cell? ⟨b, off + k * 9 + 1, none⟩ = some (.int .i64 e.kids[k].fn) ∧ w'.cell? ⟨b, off + k * 9 + 2, none⟩ = some (.int .i64 e.kids[k].op) ∧ w'.cell? ⟨b, off + k * 9 + 3, none⟩ = some (.int .i64 e.kids[k].num) ∧ w'.cell? ⟨b, off + k * 9 + 4, none⟩ = some (.string e.kids[k].metric) ∧ w'.cell? ⟨b, off + k * 9 + 5, none⟩ = some (.slice qm e.kids[k].mats.length dm) ∧ w'.cell? ⟨b, off + k * 9 + 6, none⟩ = some (.int .i64 e.kids[k].span) ∧ w'.cell? ⟨b, off + k * 9 + 7, none⟩ = some (.slice qn e.kids[k].names.length dn) ∧ w'.cell? ⟨b, off + k * 9 + 8, none⟩ = some (.slice qk e.kids[k].kids.length dk)) (go_keep)
                (first
                  | ((go_at_call 21; refine (hK3.out _ (by first | assumption | exact (Below.drew (by assumption)))).mono ?_; rintro e' w10 ⟨rfl, hB10, hb10, hk10⟩; have ka10 := fun o => hk10 w.heap.size o (by omega); have kg10 := fun o => hk10 b o (by omega); clear hk10))
                  | ((go_at_call 20; refine (hK4.out _ (by first | assumption | exact (Below.drew (by assumption)))).mono ?_; rintro e' w11 ⟨rfl, hB11, hb11, hk11⟩; have ka11 := fun o => hk11 w.heap.size o (by omega); have kg11 := fun o => hk11 b o (by omega); clear hk11)))
              all_goals (try go_wp2)
              all_goals exact ⟨⟨k + 1, by omega, by rw [leavess_step hlt, List.length_append]; congr 1, by rw [leavesTo_step hlt], by rw [sizes_step hlt]; congr 1; push_cast; omega, by rw [deeps_step hlt]; congr 1; split <;> omega, by go_num, Hbr.out.trans ((Hb7.out.trans (hB11.mono hs7)).mono hszr)⟩, by simp [intOf]; omega⟩
            · have hke : k = e.kids.length := by omega
              have hte : e.kids.take k = e.kids := List.take_of_length_le (by omega)
              rw [hte]
              have hsz1 : (1 + (sizes e.kids : Int)) = (e.size : Int) := by have := e.size_eq; omega
              rw [hsz1]
              go_upto_if 86 with fail
              go_cut [4, 5] (fun s4 s5 wx => s4 = .int .i64 e.leaves.length ∧ s5 = .int .i64 e.hor ∧ Below wr.heap.size wr wx)
              case first =>
                by_cases hk1 : e.kind = 1
                · have hkb : (e.kind == 1) = true := by simpa using hk1
                  obtain ⟨z1, z2⟩ := window_kids (right_self Pa.out) hk1
                  go_upto_region 17 with fail
                  go_quiet (fail)
                  go_wp2
                  go_meet
                  have zl : e.leaves = [e] := by rw [Ex.leaves_eq, if_pos hk1, z1]; rfl
                  refine ⟨by rw [zl]; rfl, ?_, below_drewN (Below.refl _ _) _⟩
                  rw [Ex.hor, zl]
                  simp only [horTo, List.foldl_cons, List.foldl_nil]
                  congr 1; omega
                · have hkb : (e.kind == 1) = false := by simpa using hk1
                  go_wp2
                  go_meet
                  have zl : e.leaves = leavess e.kids := by rw [Ex.leaves_eq, if_neg hk1]; rfl
                  exact ⟨by rw [zl], by rw [Ex.hor, zl], Below.refl _ _⟩
              case rest =>
                obtain ⟨rfl, rfl, hb8⟩ := hcut
                obtain ⟨W8, rfl⟩ : ∃ W8 : World, W8 = wc := ⟨_, rfl⟩
                have hs8 := hb8.size
                have HX8 := Lib.hid (HXr.out.trans (hb8.mono (by omega)))
                clear hb8 d0 d1 d2 d3 d4 d5 d6 d7 d8
                have hx8 := Hbox.out.keep HX8.out
                have c0 := hx8.cell 0 _ rfl
                have c1 := hx8.cell 1 _ rfl
                have c2 := hx8.cell 2 _ rfl
                have c3 := hx8.cell 3 _ rfl
                have c4 := hx8.cell 4 _ rfl
                have c5 := hx8.cell 5 _ rfl
                have c6 := hx8.cell 6 _ rfl
                have c7 := hx8.cell 7 _ rfl
                have c8 := hx8.cell 8 _ rfl
                clear hx8
                have hwd : IntKind.i64.wrap ((deeps e.kids : Int) + 1) = (e.deep : Int) := by have := e.deep_eq; rw [wrap_in' ⟨by omega, by omega⟩]; omega
                go_wp2_with fail
                refine (aLeaves e _ n _ (by omega) (HEx.out _ HX8.out) (by omega)).mono ?_
                rintro e' W9 ⟨v, rfl, ho, hb9⟩
                obtain ⟨A9, c9, rfl⟩ := ho.slice3
                clear ho
                have HX9 := Lib.hid (HX8.out.trans (hb9.mono (by omega)))
                have hs9 := hb9.size
                have hx9 := Hbox.out.keep HX9.out
                clear hb9 c0 c1 c2 c3 c4 c5 c6 c7 c8
                have c0 := hx9.cell 0 _ rfl
                have c1 := hx9.cell 1 _ rfl
                have c2 := hx9.cell 2 _ rfl
                have c3 := hx9.cell 3 _ rfl
                have c4 := hx9.cell 4 _ rfl
                have c5 := hx9.cell 5 _ rfl
                have c6 := hx9.cell 6 _ rfl
                have c7 := hx9.cell 7 _ rfl
                have c8 := hx9.cell 8 _ rfl
                clear hx9
                go_wp2_with fail
                refine (aHorizon e _ n _ (by omega) (HEx.out _ HX9.out) (by omega)).mono ?_
                rintro e' W10 ⟨rfl, hb10⟩
                have HX10 := Lib.hid (HX9.out.trans (hb10.mono (by omega)))
                have hs10 := hb10.size
                have hx10 := Hbox.out.keep HX10.out
                clear hb10 c0 c1 c2 c3 c4 c5 c6 c7 c8
                have c0 := hx10.cell 0 _ rfl
                have c1 := hx10.cell 1 _ rfl
                have c2 := hx10.cell 2 _ rfl
                have c3 := hx10.cell 3 _ rfl
                have c4 := hx10.cell 4 _ rfl
                have c5 := hx10.cell 5 _ rfl
                have c6 := hx10.cell 6 _ rfl
                have c7 := hx10.cell 7 _ rfl
                have c8 := hx10.cell 8 _ rfl
                clear hx10
                go_wp2_with fail
                refine (aSize e _ n _ (by omega) (HEx.out _ HX10.out) (by omega)).mono ?_
                rintro e' W11 ⟨rfl, hb11⟩
                have HX11 := Lib.hid (HX10.out.trans (hb11.mono (by omega)))
                have hs11 := hb11.size
                have hx11 := Hbox.out.keep HX11.out
                clear hb11 c0 c1 c2 c3 c4 c5 c6 c7 c8
                have c0 := hx11.cell 0 _ rfl
                have c1 := hx11.cell 1 _ rfl
                have c2 := hx11.cell 2 _ rfl
                have c3 := hx11.cell 3 _ rfl
                have c4 := hx11.cell 4 _ rfl
                have c5 := hx11.cell 5 _ rfl
                have c6 := hx11.cell 6 _ rfl
                have c7 := hx11.cell 7 _ rfl
                have c8 := hx11.cell 8 _ rfl
                clear hx11
                go_wp2_with fail
                refine (aDeep e _ n _ (by omega) (HEx.out _ HX11.out) (by omega)).mono ?_
                rintro e' W12 ⟨rfl, hb12⟩
                have HX12 := Lib.hid (HX11.out.trans (hb12.mono (by omega)))
                have hs12 := hb12.size
                clear hb12 c0 c1 c2 c3 c4 c5 c6 c7 c8
                have hx12 := Hbox.out.keep HX12.out
                have c0 := hx12.cell 0 _ rfl
                have c1 := hx12.cell 1 _ rfl
                have c2 := hx12.cell 2 _ rfl
                have c3 := hx12.cell 3 _ rfl
                have c4 := hx12.cell 4 _ rfl
                have c5 := hx12.cell 5 _ rfl
                have c6 := hx12.cell 6 _ rfl
                have c7 := hx12.cell 7 _ rfl
                have c8 := hx12.cell 8 _ rfl
                have Hbx := Lib.hid hx12; clear hx12
                have hCp := Lib.hid (fun X (h : Below W12.heap.size W12 X) => aCopy e [.int .i64 e.kind, .int .i64 e.fn, .int .i64 e.op, .int .i64 e.num, .string e.metric, .slice pm e.mats.length cm, .int .i64 e.span, .slice pn e.names.length cn, .slice pk e.kids.length ck] n X (by have := h.size; omega) (HEx.out _ (HX12.out.trans (h.mono (by omega)))) Hth.out (by omega))
                go_upto_region 20 with fail
                go_cut [9, 10] (fun s9 s10 wx => ∃ (g h : Nat) (cs ds : List Value), s9 = .pointer (some ⟨g, 0, none⟩) ∧ s10 = .pointer (some ⟨h, 0, none⟩) ∧ Cpd 26 e W12 cs ds (some cs) (some ds) (some g) (some h) wx)
                case first =>
                  refine wp_region_held_drew (S := fun X => Below W12.heap.size W12 X) (by kernel_rfl) (Below.refl _ _).drew (fun hS => ?_)
                  have St := Cpd.start (T := 26) (e := e) (z1 := [.int .i64 0, .int .i64 0, .int .i64 0, .int .i64 0, .string ⟨#[]⟩, .slice none 0 0, .int .i64 0, .slice none 0 0, .slice none 0 0]) (z2 := [.int .i64 0, .int .i64 0, .int .i64 0, .int .i64 0, .string ⟨#[]⟩, .slice none 0 0, .int .i64 0, .slice none 0 0, .slice none 0 0]) hS
                  generalize W12.drew = X0 at St hS ⊢
                  refine wpAnyH_take (i := 0) (v := .agg ([.int .i64 e.kind, .int .i64 e.fn, .int .i64 e.op, .int .i64 e.num, .string e.metric, .slice pm e.mats.length cm, .int .i64 e.span, .slice pn e.names.length cn, .slice pk e.kids.length ck]).toArray) rfl (by kernel_rfl) (by decide +kernel) (by decide +kernel) (fun _ _ _ h => h) (Or.inl ⟨by rfl, ?_⟩) hS ?_
                  · intro X hX
                    have hx := Hbx.out.keep hX
                    have d0 := hx.cell 0 _ rfl
                    have d1 := hx.cell 1 _ rfl
                    have d2 := hx.cell 2 _ rfl
                    have d3 := hx.cell 3 _ rfl
                    have d4 := hx.cell 4 _ rfl
                    have d5 := hx.cell 5 _ rfl
                    have d6 := hx.cell 6 _ rfl
                    have d7 := hx.cell 7 _ rfl
                    have d8 := hx.cell 8 _ rfl
                    clear hx
                    go_simp
                  refine wpAnyH_take (i := 2) (v := .agg ([.int .i64 e.kind, .int .i64 e.fn, .int .i64 e.op, .int .i64 e.num, .string e.metric, .slice pm e.mats.length cm, .int .i64 e.span, .slice pn e.names.length cn, .slice pk e.kids.length ck]).toArray) rfl (by kernel_rfl) (by decide +kernel) (by decide +kernel) (fun _ _ _ h => h) (Or.inl ⟨by rfl, ?_⟩) hS ?_
                  · intro X hX
                    have hx := Hbx.out.keep hX
                    have d0 := hx.cell 0 _ rfl
                    have d1 := hx.cell 1 _ rfl
                    have d2 := hx.cell 2 _ rfl
                    have d3 := hx.cell 3 _ rfl
                    have d4 := hx.cell 4 _ rfl
                    have d5 := hx.cell 5 _ rfl
                    have d6 := hx.cell 6 _ rfl
                    have d7 := hx.cell 7 _ rfl
                    have d8 := hx.cell 8 _ rfl
                    clear hx
                    go_simp
                  simp only [Act.put, List.setIfInBounds_toArray, List.set_cons_zero, List.set_cons_succ]
                  clear c0 c1 c2 c3 c4 c5 c6 c7 c8
                  iterate 4
                    all_goals (first
                      | (refine wpAnyH_ready (rs := [1, 4, 5]) (by decide +kernel) (by simp) ?_)
                      | (refine wpAnyH_ready (rs := [3, 4, 5]) (by decide +kernel) (by simp) ?_)
                      | (refine wpAnyH_ready (rs := [4, 5]) (by decide +kernel) (by simp) ?_)
                      | (refine wpAnyH_ready (rs := [1, 5]) (by decide +kernel) (by simp) ?_)
                      | (refine wpAnyH_ready (rs := [1, 4]) (by decide +kernel) (by simp) ?_)
                      | (refine wpAnyH_ready (rs := [3, 5]) (by decide +kernel) (by simp) ?_)
                      | (refine wpAnyH_ready (rs := [3, 4]) (by decide +kernel) (by simp) ?_)
                      | (refine wpAnyH_ready (rs := [1]) (by decide +kernel) (by simp) ?_)
                      | (refine wpAnyH_ready (rs := [3]) (by decide +kernel) (by simp) ?_)
                      | (refine wpAnyH_ready (rs := [4]) (by decide +kernel) (by simp) ?_)
                      | (refine wpAnyH_ready (rs := [5]) (by decide +kernel) (by simp) ?_))
                    all_goals (repeat' (first
                      | with_reducible exact AllReadyH.nil
                      | (with_reducible refine AllReadyH.cons rfl (fun K hK => ?_) ?_)))
                    all_goals (go_simp; (first
                      | (go_at_call 33; refine (hCp.out _ St.1).mono ?_; rintro e' X1 ⟨cs1, rfl, hf1, hb1⟩; replace St := Cpd.c St hf1 hb1; have hl1 := hf1.length; have ha1 := hf1.all; clear hf1 hb1; go_simp; refine hK.out _ _ St.1 (fun hS => ?_); clear hK K)
                      | (go_at_call 33; refine (hCp.out _ St.1).mono ?_; rintro e' X2 ⟨cs2, rfl, hf2, hb2⟩; replace St := Cpd.d St hf2 hb2; have hl2 := hf2.length; have ha2 := hf2.all; clear hf2 hb2; go_simp; refine hK.out _ _ St.1 (fun hS => ?_); clear hK K)
                      | (refine hK.out _ _ (Cpd.g St).1 (fun hS => ?_); clear hK K; refine genG St (fun Y St => ?_))
                      | (refine hK.out _ _ (Cpd.h St).1 (fun hS => ?_); clear hK K; refine genH St (fun Y St => ?_))))
                  all_goals (refine wpAnyH_ready (rs := [6]) (by decide +kernel) (by simp) ?_)
                  all_goals (refine AllReadyH.cons rfl (fun K hK => ?_) AllReadyH.nil)
                  all_goals (rw [if_pos (by rfl)])
                  all_goals (refine wp_store_row _ _ _ rfl _ cs1.toArray rfl rfl _ _ (by first | exact St.blkG | exact St.blkH) (by rw [infoSz9]; simp [hl1]) (by simp [hl1]) ha1 ?_)
                  all_goals (first
                    | (refine hK.out _ _ (Cpd.setG St cs1).1 (fun hS => ?_); replace St := Cpd.setG St cs1)
                    | (refine hK.out _ _ (Cpd.setH St cs1).1 (fun hS => ?_); replace St := Cpd.setH St cs1))
                  all_goals clear hK K
                  all_goals (refine wpAnyH_ready (rs := [7]) (by decide +kernel) (by simp) ?_)
                  all_goals (refine AllReadyH.cons rfl (fun K hK => ?_) AllReadyH.nil)
                  all_goals (rw [if_pos (by rfl)])
                  all_goals (refine wp_store_row _ _ _ rfl _ cs2.toArray rfl rfl _ _ (by first | exact St.blkG | exact St.blkH) (by rw [infoSz9]; simp [hl2]) (by simp [hl2]) ha2 ?_)
                  all_goals (first
                    | (refine hK.out _ _ (Cpd.setH St cs2).1 (fun hS => ?_); replace St := Cpd.setH St cs2)
                    | (refine hK.out _ _ (Cpd.setG St cs2).1 (fun hS => ?_); replace St := Cpd.setG St cs2))
                  all_goals clear hK K
                  all_goals (refine wpAnyH_done (by decide +kernel) ?_ _)
                  all_goals go_wp2
                  all_goals go_meet
                  all_goals (first | exact ⟨_, _, cs1, cs2, rfl, rfl, St⟩ | exact ⟨_, _, cs1, cs2, rfl, rfl, St.swap⟩)
                case rest =>
                  obtain ⟨g, h, cs1, cs2, rfl, rfl, hcp⟩ := hcut
                  obtain ⟨W13, rfl⟩ : ∃ W13 : World, W13 = wc := ⟨_, rfl⟩
                  obtain ⟨hb13, lo, hi, lo2, hi2, q1, q2, q3, q4, q5⟩ := hcp
                  obtain ⟨b1, b2, b3⟩ := q1 _ rfl
                  obtain ⟨d1, d2, d3, d4⟩ := q2 _ rfl
                  obtain ⟨a1, a2, -, -⟩ := q3 _ rfl
                  obtain ⟨e1, e2, e3, -⟩ := q4 _ rfl
                  have x3 := e3 (by simp)
                  clear e3
                  clear q1 q2 q3 q4 q5 hCp c0 c1 c2 c3 c4 c5 c6 c7 c8
                  have hshp := b3.shp e _ Hth.out (by omega)
                  obtain ⟨vm, vn, vk, rows, hcse, -⟩ := b3.cells
                  obtain ⟨um, un, uk, rows2, hdse, -⟩ := d4.cells
                  subst hcse hdse
                  have hlt := e2.lt
                  have hsz13 := hb13.size
                  have g0 := a2.cell 0 _ rfl
                  have g1 := a2.cell 1 _ rfl
                  have g2 := a2.cell 2 _ rfl
                  have g3 := a2.cell 3 _ rfl
                  have g4 := a2.cell 4 _ rfl
                  have g5 := a2.cell 5 _ rfl
                  have g6 := a2.cell 6 _ rfl
                  have g7 := a2.cell 7 _ rfl
                  have g8 := a2.cell 8 _ rfl
                  have Hshp := Lib.hid hshp; clear hshp
                  have Hb13 := Lib.hid hb13; clear hb13
                  have D4 := Lib.hid d4; clear d4
                  have E2 := Lib.hid e2; clear e2
                  clear a2 b3
                  go_wp2_with fail
                  refine (spoilC lo hi _ _ _ Hshp.out b2).mono ?_
                  rintro e' W14 ⟨⟨u, rfl⟩, hsp⟩
                  have hs14 := hsp.size
                  have hb14 : Below W12.heap.size W12 W14 := by
                    refine ⟨hsp.os.trans Hb13.out.os, hsp.tape.trans Hb13.out.tape, hsp.output.trans Hb13.out.output, Nat.le_trans hsz13 hs14, fun k hk => ?_⟩
                    exact (hsp.out k (by omega) (.inl (by omega))).trans (Hb13.out.block k hk)
                  have HX14 := Lib.hid (HX12.out.trans (hb14.mono (by omega))); clear hb14
                  have hh : Blk W14 h 26 _ := (hsp.out h hlt x3).trans E2.out
                  have D14 := Lib.hid (D4.out.keep (w' := W14) (fun j h1 h2 => hsp.out j (by omega) (.inr (by omega))))
                  clear hsp g0 g1 g2 g3 g4 g5 g6 g7 g8
                  have i0 := hh.cell 0 _ rfl
                  have i1 := hh.cell 1 _ rfl
                  have i2 := hh.cell 2 _ rfl
                  have i3 := hh.cell 3 _ rfl
                  have i4 := hh.cell 4 _ rfl
                  have i5 := hh.cell 5 _ rfl
                  have i6 := hh.cell 6 _ rfl
                  have i7 := hh.cell 7 _ rfl
                  have i8 := hh.cell 8 _ rfl
                  have hx14 := Hbox.out.keep HX14.out
                  have c0 := hx14.cell 0 _ rfl
                  have c1 := hx14.cell 1 _ rfl
                  have c2 := hx14.cell 2 _ rfl
                  have c3 := hx14.cell 3 _ rfl
                  have c4 := hx14.cell 4 _ rfl
                  have c5 := hx14.cell 5 _ rfl
                  have c6 := hx14.cell 6 _ rfl
                  have c7 := hx14.cell 7 _ rfl
                  have c8 := hx14.cell 8 _ rfl
                  clear hx14
                  have Hh := Lib.hid hh; clear hh
                  go_wp2_with fail
                  refine (kExpr e e _ _ W14.heap.size _ (Nat.le_refl _) (D14.out.isEx (by omega)) ((HEx.out _ HX14.out).mono (Below.refl _ _) (by omega))).mono ?_
                  rintro e' W15 ⟨rfl, hb15⟩
                  have hs15 := hb15.size
                  have HX15 := Lib.hid (HX14.out.trans (hb15.mono (by omega)))
                  have hh := Hh.out.keep hb15
                  have D15 := Lib.hid (D14.out.keep (w' := W15) (fun j h1 h2 => hb15.block j (by omega)))
                  clear hb15 c0 c1 c2 c3 c4 c5 c6 c7 c8 i0 i1 i2 i3 i4 i5 i6 i7 i8
                  have i0 := hh.cell 0 _ rfl
                  have i1 := hh.cell 1 _ rfl
                  have i2 := hh.cell 2 _ rfl
                  have i3 := hh.cell 3 _ rfl
                  have i4 := hh.cell 4 _ rfl
                  have i5 := hh.cell 5 _ rfl
                  have i6 := hh.cell 6 _ rfl
                  have i7 := hh.cell 7 _ rfl
                  have i8 := hh.cell 8 _ rfl
                  have hx15 := Hbox.out.keep HX15.out
                  have c0 := hx15.cell 0 _ rfl
                  have c1 := hx15.cell 1 _ rfl
                  have c2 := hx15.cell 2 _ rfl
                  have c3 := hx15.cell 3 _ rfl
                  have c4 := hx15.cell 4 _ rfl
                  have c5 := hx15.cell 5 _ rfl
                  have c6 := hx15.cell 6 _ rfl
                  have c7 := hx15.cell 7 _ rfl
                  have c8 := hx15.cell 8 _ rfl
                  clear hx15 hh
                  have hself : decide (e = e) = true := by simp
                  rw [hself]
                  go_wp2_with fail
                  refine (aSame e e _ _ W15.heap.size _ (Nat.le_refl _) (D15.out.isEx (by omega)) ((HEx.out _ HX15.out).mono (Below.refl _ _) (by omega))).mono ?_
                  rintro e' W16 ⟨rfl, hb16⟩
                  have HX16 := Lib.hid (HX15.out.trans (hb16.mono (by omega)))
                  clear hb16
                  go_wp2
                  go_ret
                  exact ⟨by simp, Hbw.out.trans (HX16.out.mono hsw)⟩
      · have hd : (checkExpr e != 0) = true := by simpa using hca
        go_wp2
        go_ret
        exact ⟨rfl, Hbw.out.trans (HX3.out.mono hsw)⟩

end Go.Proofs.Ytikaiiamoaahdaa

