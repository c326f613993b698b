/- ast.Copy. -/
import Derived.Test.YtdjdikiimhhjpaaGreatDoorK11
import Derived.Deep.RegionHeld3
import Derived.Deep.DrawnRows
set_option maxRecDepth 100000
set_option maxHeartbeats 16000000
namespace Go.Proofs.YtdjdikiimhhjpaaGreatDoor
open Go.RowKit
set_option linter.unusedSimpArgs false
set_option linter.unusedVariables false
attribute [local go_sem ↓] Go.wp_at_zero Go.wp_at_succ
theorem oneCell_own {w : World} {base e sz n : Nat} {v : Value} {xs : List Value} (h : w.ownsRow base e sz v n xs) : v.oneCell' = true := by
  obtain ⟨A, c, rfl⟩ := ownsRow_slice h
  rfl
theorem ownsRow_cells' {w : World} {base e sz n : Nat} {v : Value} {xs : List Value} (h : w.ownsRow base e sz v n xs) : ∀ k, v.ownBlock = some k → ∃ cs, w.heap[k]? = some (.cells cs e (0, 0)) := by
  intro k hk
  rcases h.2 with ⟨rfl, _⟩ | ⟨g, cap, cur, rfl, hg, hh, _⟩
  · simp [Value.ownBlock] at hk
  · simp [Value.ownBlock] at hk
    subst hk; exact ⟨_, hh⟩
theorem own_types {w : World} {base base' e e' sz sz' n n' b : Nat} {v v' : Value} {xs xs' : List Value} (h : w.ownsRow base e sz v n xs) (h' : w.ownsRow base' e' sz' v' n' xs') (hne : e ≠ e') (hb : v.ownBlock = some b) (hb' : v'.ownBlock = some b) : False := by
  obtain ⟨cs, h1⟩ := ownsRow_cells' h b hb
  obtain ⟨cs', h2⟩ := ownsRow_cells' h' b hb'
  rw [h1] at h2
  simp only [Option.some.injEq, Obj.cells.injEq] at h2
  exact hne h2.2.1
theorem own_of_some {w : World} {base e sz n c : Nat} {A : Option Addr} {xs : List Value} (h : w.ownsRow base e sz (.slice A n c) n xs) {g : Addr} (hg : A = some g) : (Value.slice (some g) n c).ownBlock = some g.block := by
  rcases h.2 with ⟨hv, _⟩ | ⟨g', cap, cur, hv, _⟩
  · rw [hg] at hv; cases hv
  · rw [hg] at hv
    simp only [Value.slice.injEq, Option.some.injEq] at hv; rw [hv.1]
    rfl
theorem regPhase3 {P : Program} {md : Region.Mode} {ops : Array Oper} {Q : Exit → Act → World → Prop} {fuel : Nat} {listed : Array Bool} {a : Act} {w : World} (n9 : Nat) (l9 : Array Bool) (upd : Array Value → Option Addr → Option Addr → Option Addr → Nat → Nat → Nat → Array Value)
    (Fs : Option Addr → Option Addr → Option Addr → Nat → Nat → Nat → World → Prop)
    (h9 : ∀ A B C q r s wx, Fs A B C q r s wx → wpAny P md ops Q n9 l9 { a with tmps := upd a.tmps A B C q r s } wx) (h : (∀ f l A B C q r s wx, f = n9 → l = l9 → Fs A B C q r s wx → wpAny P md ops Q f l { a with tmps := upd a.tmps A B C q r s } wx) → wpAny P md ops Q fuel listed a w) :
    wpAny P md ops Q fuel listed a w := h (fun f l A B C q r s wx hf hl hx => by rw [hf, hl]; exact h9 A B C q r s wx hx)
theorem aCopy : ∀ (e : Ex) (cs : List Value) (n : Nat) (w : World), n ≤ w.heap.size → IsEx n w e cs → e.thin → e.size ≤ 1000000 →
    Calls Tryz.prog 29 #[.agg cs.toArray] w fun e' w' => ∃ cs' : List Value, e' = .returned (.agg cs'.toArray) ∧ Fresh w.heap.size w'.heap.size w' e cs' ∧ Below w.heap.size w w' := by
  refine Ex.ind fun e ih => ?_
  intro cs n w hn he hth hsz
  obtain ⟨pm, cm, pn, cn, pk, ck, rfl, hms, hma, hna, hka⟩ := he.cellsE
  obtain ⟨hth1, hth2⟩ := e.thin_self hth
  have hkl : e.kids.length ≤ 1000000 := by have := length_le_sizes e.kids; have := e.size_eq; omega
  have Hth := Lib.hid hth; clear hth
  have Hma := Lib.hid hma; clear hma
  have Hna := Lib.hid hna; clear hna
  have Hka := Lib.hid hka; clear hka
  have Hih := Lib.hid ih; clear ih
  have He := Lib.hid he; clear he
  go_enter Tryz.func29, Tryz.ntmps29; (try simp only [List.append_eq, List.cons_append, List.nil_append])
  go_upto_region 0 with fail
  go_cut [1, 2] (fun s1 s2 wx => s1 = .pointer (some ⟨w.heap.size, 0, none⟩) ∧ s2 = .pointer (some ⟨w.heap.size + 1, 0, none⟩) ∧ Below w.heap.size w wx ∧ Blk wx w.heap.size 37 [.int .i64 e.kind, .int .i64 e.fn, .int .i64 e.op, .int .i64 e.num, .string e.metric, .slice pm e.mats.length cm, .int .i64 e.span, .slice pn e.names.length cn, .slice pk e.kids.length ck] ∧
    Blk wx (w.heap.size + 1) 37 [.int .i64 0, .int .i64 0, .int .i64 0, .int .i64 0, .string ⟨#[]⟩, .slice none 0 0, .int .i64 0, .slice none 0 0, .slice none 0 0])
  case first =>
    go_wp2
    go_meet
    refine ⟨rfl, rfl, ((Below.refl _ _).alloc (Nat.le_refl _) _).alloc (by simp) _, (Blk.new _ _ _).keep ((Below.refl _ _).alloc (Nat.le_refl _) _), ?_⟩; have := Blk.new (w.alloc (.cells ([.int .i64 e.kind, .int .i64 e.fn, .int .i64 e.op, .int .i64 e.num, .string e.metric, .slice pm e.mats.length cm, .int .i64 e.span, .slice pn e.names.length cn, .slice pk e.kids.length ck]).toArray 37)) [.int .i64 0, .int .i64 0, .int .i64 0, .int .i64 0, .string ⟨#[]⟩, .slice none 0 0, .int .i64 0, .slice none 0 0, .slice none 0 0] 37
    simpa using this
  case rest =>
    obtain ⟨rfl, rfl, hbw, hbox, hres⟩ := hcut; obtain ⟨W, rfl⟩ : ∃ W : World, W = wc := ⟨_, rfl⟩; have c5 := hbox.cell 5 _ rfl; have c7 := hbox.cell 7 _ rfl; have c8 := hbox.cell 8 _ rfl; have f0 := hbox.free; have hszr := hres.lt; have Hbox := Lib.hid hbox; clear hbox; have Hres := Lib.hid hres; clear hres; have Hbw := Lib.hid hbw; clear hbw; have hM : ∀ X, Below W.heap.size W X → Calls Tryz.prog 43 #[.slice pm e.mats.length cm] X fun e' w' => ∃ A c, e' = .returned (.slice A e.mats.length c) ∧ w'.ownsRow W.heap.size 77 3 (.slice A e.mats.length c) e.mats.length (e.mats.map Mat.cells).flatten ∧ Below X.heap.size X w' ∧ Below W.heap.size W w' ∧ (∀ o, w'.cell? ⟨w.heap.size, o, none⟩ = X.cell? ⟨w.heap.size, o, none⟩) ∧ (∀ o, w'.frozen? ⟨w.heap.size, o, none⟩ = X.frozen? ⟨w.heap.size, o, none⟩) := by
      intro X hX; have h0 : w.heap.size < X.heap.size := by have := hX.size; omega
      refine (cloneM (e.mats.map Mat.cells) _ n X (by omega) ((Hma.out.mono ((Hbw.out.trans (hX.mono (by omega))).mono hn) (Nat.le_refl _)).1 |> fun h => by simpa using h) (mats_len _) (mats_one _) (by simpa using hth1)).mono ?_; rintro e' w' ⟨v', rfl, h1, h2⟩; obtain ⟨A, c, rfl⟩ := ownsRow_slice h1; simp only [List.length_map] at h1 ⊢; exact ⟨A, c, rfl, ownsRow_base h1 hX.size, h2, hX.trans (h2.mono hX.size), fun o => h2.cell (p := ⟨_, o, none⟩) h0, fun o => h2.frozen (p := ⟨_, o, none⟩) h0⟩
    have hN : ∀ X, Below W.heap.size W X → Calls Tryz.prog 44 #[.slice pn e.names.length cn] X fun e' w' => ∃ A c, e' = .returned (.slice A e.names.length c) ∧ w'.ownsRow W.heap.size 9 1 (.slice A e.names.length c) e.names.length (e.names.map fun s => [Value.string s]).flatten ∧ Below X.heap.size X w' ∧ Below W.heap.size W w' ∧ (∀ o, w'.cell? ⟨w.heap.size, o, none⟩ = X.cell? ⟨w.heap.size, o, none⟩) ∧ (∀ o, w'.frozen? ⟨w.heap.size, o, none⟩ = X.frozen? ⟨w.heap.size, o, none⟩) := by
      intro X hX; have h0 : w.heap.size < X.heap.size := by have := hX.size; omega
      refine (cloneS (e.names.map fun s => [Value.string s]) _ n X (by omega) ((Hna.out.mono ((Hbw.out.trans (hX.mono (by omega))).mono hn) (Nat.le_refl _)).1 |> fun h => by simpa using h) (names_len _) (names_one _) (by simpa using hth2)).mono ?_; rintro e' w' ⟨v', rfl, h1, h2⟩; obtain ⟨A, c, rfl⟩ := ownsRow_slice h1; simp only [List.length_map] at h1 ⊢; exact ⟨A, c, rfl, ownsRow_base h1 hX.size, h2, hX.trans (h2.mono hX.size), fun o => h2.cell (p := ⟨_, o, none⟩) h0, fun o => h2.frozen (p := ⟨_, o, none⟩) h0⟩
    obtain ⟨rows, ⟨qk, ck', hkv, hk1, hk2, hk3⟩, hrl, hri⟩ := Hka.out; have hE : ∀ X, Below W.heap.size W X → Calls Tryz.prog 45 #[.slice pk e.kids.length ck] X fun e' w' => ∃ A c, e' = .returned (.slice A e.kids.length c) ∧ w'.ownsRow W.heap.size 37 9 (.slice A e.kids.length c) e.kids.length rows.flatten ∧ Below X.heap.size X w' ∧ Below W.heap.size W w' ∧ (∀ o, w'.cell? ⟨w.heap.size, o, none⟩ = X.cell? ⟨w.heap.size, o, none⟩) ∧ (∀ o, w'.frozen? ⟨w.heap.size, o, none⟩ = X.frozen? ⟨w.heap.size, o, none⟩) := by
      intro X hX; have h0 : w.heap.size < X.heap.size := by have := hX.size; omega
      have ha : Arr n w (.slice pk e.kids.length ck) 9 rows := ⟨qk, ck', hkv, hk1, hk2, hk3⟩; refine (cloneE rows _ n X (by omega) (ha.mono ((Hbw.out.trans (hX.mono (by omega))).mono hn) (Nat.le_refl _)) ?_ (rows_oneCells hrl hri) (by omega)).mono ?_
      · intro r hr
        obtain ⟨k, hk, rfl⟩ := List.getElem_of_mem hr; exact (hri k _ (e.kids[k]'(by omega)) (by simp) (by simp)).length
      rintro e' w' ⟨v', rfl, h1, h2⟩; rw [hrl] at h1; obtain ⟨A, c, rfl⟩ := ownsRow_slice h1; exact ⟨A, c, rfl, ownsRow_base h1 hX.size, h2, hX.trans (h2.mono hX.size), fun o => h2.cell (p := ⟨_, o, none⟩) h0, fun o => h2.frozen (p := ⟨_, o, none⟩) h0⟩
    have HM := Lib.hid hM; clear hM; have HN := Lib.hid hN; clear hN; have HE := Lib.hid hE; clear hE; clear hkv hk1 hk2 hk3; have Hrl := Lib.hid hrl; clear hrl; have Hri := Lib.hid hri; clear hri; have hW0 := Below.refl W.heap.size W
    go_upto_region 1 with fail
    go_cut [4] (fun s4 wx => ∃ vm vn vk, Blk wx w.heap.size 37 [.int .i64 e.kind, .int .i64 e.fn, .int .i64 e.op, .int .i64 e.num, .string e.metric, vm, .int .i64 e.span, vn, vk] ∧ Blk wx (w.heap.size + 1) 37 [.int .i64 0, .int .i64 0, .int .i64 0, .int .i64 0, .string ⟨#[]⟩, .slice none 0 0, .int .i64 0, .slice none 0 0, .slice none 0 0] ∧
      wx.ownsRow W.heap.size 77 3 vm e.mats.length (e.mats.map Mat.cells).flatten ∧ wx.ownsRow W.heap.size 9 1 vn e.names.length (e.names.map fun s => [Value.string s]).flatten ∧ wx.ownsRow W.heap.size 37 9 vk e.kids.length rows.flatten ∧ Below w.heap.size w wx)
    case first =>
      refine wp_region_any (by kernel_rfl) ?_
      change wpAny _ _ _ _ _ _ _ (World.drew _)
      refine regPhase3 5 #[true, true, true, true, true, true, true, true, true, true, false, false, false, false, false] (fun t (A7 A10 A13 : Option Addr) (q7 q10 q13 : Nat) => (((((((((t.setIfInBounds 5 (.pointer (some ⟨w.heap.size, 5, none⟩))).setIfInBounds 6 (.slice pm e.mats.length cm)).setIfInBounds 7 (.slice A7 e.mats.length q7)).setIfInBounds 8 (.pointer (some ⟨w.heap.size, 7, none⟩))).setIfInBounds 9 (.slice pn e.names.length cn)).setIfInBounds 10 (.slice A10 e.names.length q10)).setIfInBounds 11 (.pointer (some ⟨w.heap.size, 8, none⟩))).setIfInBounds 12 (.slice pk e.kids.length ck)).setIfInBounds 13 (.slice A13 e.kids.length q13)).setIfInBounds 14 (.pointer (some ⟨w.heap.size, 5, none⟩))) (fun A7 A10 A13 q7 q10 q13 wx => wx.ownsRow W.heap.size 77 3 (.slice A7 e.mats.length q7) e.mats.length (e.mats.map Mat.cells).flatten ∧ wx.ownsRow W.heap.size 9 1 (.slice A10 e.names.length q10) e.names.length (e.names.map fun s => [Value.string s]).flatten ∧ wx.ownsRow W.heap.size 37 9 (.slice A13 e.kids.length q13) e.kids.length rows.flatten ∧ Below W.heap.size W wx) ?h9 (fun H9 => ?_)
      case h9 =>
        rintro A7 A10 A13 q7 q10 q13 wx ⟨x1, x2, x3, x4⟩; have hbx := Hbox.out.keep x4; have hrs := Hres.out.keep x4; clear c5 c7 c8 f0; have c5 := hbx.cell 5 _ rfl; have c7 := hbx.cell 7 _ rfl; have c8 := hbx.cell 8 _ rfl; have f0 := hbx.free; have Hbx := Lib.hid hbx; clear hbx; have Hrs := Lib.hid hrs; clear hrs; have X1 := Lib.hid x1; clear x1; have X2 := Lib.hid x2; clear x2; have X3 := Lib.hid x3; clear x3; simp only [List.setIfInBounds_toArray, List.set_cons_succ, List.set_cons_zero]; refine wpAny_ready (rs := [10]) (by decide +kernel) (by simp) ?_; refine AllReady.cons rfl (fun K hK => ?_) AllReady.nil
        go_simp
        refine hK _ _ ?_; clear hK K; refine wpAny_ready (rs := [11]) (by decide +kernel) (by simp) ?_; refine AllReady.cons rfl (fun K hK => ?_) AllReady.nil
        go_simp
        refine hK _ _ ?_; clear hK K; refine wpAny_ready (rs := [12]) (by decide +kernel) (by simp) ?_; refine AllReady.cons rfl (fun K hK => ?_) AllReady.nil
        go_simp
        refine hK _ _ ?_; clear hK K; refine wpAny_ready (rs := [13]) (by decide +kernel) (by simp) ?_; refine AllReady.cons rfl (fun K hK => ?_) AllReady.nil
        go_simp
        refine hK _ _ ?_; clear hK K; refine wpAny_ready (rs := [14]) (by decide +kernel) (by simp) ?_; refine AllReady.cons rfl (fun K hK => ?_) AllReady.nil
        go_simp
        refine hK _ _ ?_; clear hK K; refine wpAny_done (by decide +kernel) ?_ _; go_wp2
        go_meet
        refine ⟨.slice A7 e.mats.length q7, .slice A10 e.names.length q10, .slice A13 e.kids.length q13, ((Hbx.out.set 5 _).set 7 _).set 8 _, ((Hrs.out.other (by simp) _).other (by simp) _).other (by simp) _,
          ownsRow_setCell_below (ownsRow_setCell_below (ownsRow_setCell_below X1.out (by simp; omega) _) (by simp; omega) _) (by simp; omega) _,
          ownsRow_setCell_below (ownsRow_setCell_below (ownsRow_setCell_below X2.out (by simp; omega) _) (by simp; omega) _) (by simp; omega) _,
          ownsRow_setCell_below (ownsRow_setCell_below (ownsRow_setCell_below X3.out (by simp; omega) _) (by simp; omega) _) (by simp; omega) _,
          (((Hbw.out.trans (x4.mono (by omega))).setCell (p := ⟨_, 5, none⟩) (by simp) _).setCell (p := ⟨_, 7, none⟩) (by simp) _).setCell (p := ⟨_, 8, none⟩) (by simp) _⟩
      simp only [List.setIfInBounds_toArray, List.set_cons_succ, List.set_cons_zero] at H9
      iterate 3 (first
        | (refine wpAny_take (i := 0) (v := ?_) rfl (by kernel_rfl) (by decide +kernel) (by decide +kernel) (fun _ _ _ h => h) (Or.inl ⟨by rfl, ?_⟩) ?_; rotate_left; (intro w; go_simp; try with_reducible rfl))
        | (refine wpAny_take (i := 3) (v := ?_) rfl (by kernel_rfl) (by decide +kernel) (by decide +kernel) (fun _ _ _ h => h) (Or.inl ⟨by rfl, ?_⟩) ?_; rotate_left; (intro w; go_simp; try with_reducible rfl))
        | (refine wpAny_take (i := 6) (v := ?_) rfl (by kernel_rfl) (by decide +kernel) (by decide +kernel) (fun _ _ _ h => h) (Or.inl ⟨by rfl, ?_⟩) ?_; rotate_left; (intro w; go_simp; try with_reducible rfl)))
      iterate 6
        all_goals (first
          | (refine wpAny_take (i := 9) (v := ?_) rfl (by kernel_rfl) (by decide +kernel) (by decide +kernel) (fun _ _ _ h => h) (Or.inl ⟨by rfl, ?_⟩) ?_; rotate_left; (intro w; go_simp; try with_reducible rfl))
          | skip)
        all_goals (first
          | (refine wpAny_ready (rs := [1, 4, 7]) (by decide +kernel) (by simp) ?_)
          | (refine wpAny_ready (rs := [1, 4, 8]) (by decide +kernel) (by simp) ?_)
          | (refine wpAny_ready (rs := [1, 5, 7]) (by decide +kernel) (by simp) ?_)
          | (refine wpAny_ready (rs := [1, 5, 8]) (by decide +kernel) (by simp) ?_)
          | (refine wpAny_ready (rs := [2, 4, 7]) (by decide +kernel) (by simp) ?_)
          | (refine wpAny_ready (rs := [2, 4, 8]) (by decide +kernel) (by simp) ?_)
          | (refine wpAny_ready (rs := [2, 5, 7]) (by decide +kernel) (by simp) ?_)
          | (refine wpAny_ready (rs := [2, 5, 8]) (by decide +kernel) (by simp) ?_)
          | (refine wpAny_ready (rs := [4, 7]) (by decide +kernel) (by simp) ?_)
          | (refine wpAny_ready (rs := [4, 8]) (by decide +kernel) (by simp) ?_)
          | (refine wpAny_ready (rs := [5, 7]) (by decide +kernel) (by simp) ?_)
          | (refine wpAny_ready (rs := [5, 8]) (by decide +kernel) (by simp) ?_)
          | (refine wpAny_ready (rs := [1, 7]) (by decide +kernel) (by simp) ?_)
          | (refine wpAny_ready (rs := [1, 8]) (by decide +kernel) (by simp) ?_)
          | (refine wpAny_ready (rs := [1, 4]) (by decide +kernel) (by simp) ?_)
          | (refine wpAny_ready (rs := [1, 5]) (by decide +kernel) (by simp) ?_)
          | (refine wpAny_ready (rs := [2, 7]) (by decide +kernel) (by simp) ?_)
          | (refine wpAny_ready (rs := [2, 8]) (by decide +kernel) (by simp) ?_)
          | (refine wpAny_ready (rs := [2, 4]) (by decide +kernel) (by simp) ?_)
          | (refine wpAny_ready (rs := [2, 5]) (by decide +kernel) (by simp) ?_)
          | (refine wpAny_ready (rs := [7]) (by decide +kernel) (by simp) ?_)
          | (refine wpAny_ready (rs := [8]) (by decide +kernel) (by simp) ?_)
          | (refine wpAny_ready (rs := [4]) (by decide +kernel) (by simp) ?_)
          | (refine wpAny_ready (rs := [5]) (by decide +kernel) (by simp) ?_)
          | (refine wpAny_ready (rs := [1]) (by decide +kernel) (by simp) ?_)
          | (refine wpAny_ready (rs := [2]) (by decide +kernel) (by simp) ?_)
          | skip)
        all_goals (repeat' (first
          | with_reducible exact AllReady.nil
          | (with_reducible refine AllReady.cons rfl (fun K hK => ?_) ?_)))
        all_goals (go_simp; (first
          | (go_at_call 43; refine (HM.out _ (by first | assumption | exact (Below.refl _ _).drew | exact Below.drew (by assumption))).mono ?_; rintro e' w7 ⟨A7, q7, rfl, hm7, hb7, hB7, hc7, hf7⟩; go_simp)
          | (go_at_call 44; refine (HN.out _ (by first | assumption | exact (Below.refl _ _).drew | exact Below.drew (by assumption))).mono ?_; rintro e' w10 ⟨A10, q10, rfl, hm10, hb10, hB10, hc10, hf10⟩; go_simp)
          | (go_at_call 45; refine (HE.out _ (by first | assumption | exact (Below.refl _ _).drew | exact Below.drew (by assumption))).mono ?_; rintro e' w13 ⟨A13, q13, rfl, hm13, hb13, hB13, hc13, hf13⟩; go_simp)
          | skip); (try (refine hK _ _ ?_; clear hK K)))
      all_goals ((with_reducible refine H9 _ _ _ _ _ _ _ _ _ ?_ ?_ ?_) <;> (first | decide +kernel | skip))
      all_goals exact ⟨ownsRow_keep (ownsRow_keep hm7 hb10) hb13, ownsRow_keep hm10 hb13, hm13, hB13⟩
    case rest =>
      obtain ⟨vm, vn, vk, hbox2, hres2, hom, hon, hok, hbw2⟩ := hcut; obtain ⟨W2, rfl⟩ : ∃ W2 : World, W2 = wc := ⟨_, rfl⟩; clear c5 c7 c8 f0; obtain ⟨Am, qm, rfl⟩ := ownsRow_slice hom; obtain ⟨An, qn, rfl⟩ := ownsRow_slice hon; obtain ⟨Ak, qk2, rfl⟩ := ownsRow_slice hok; have c8 := hbox2.cell 8 _ rfl; have hs2 := hres2.lt; have Hbox2 := Lib.hid hbox2; clear hbox2; have Hres2 := Lib.hid hres2; clear hres2; have Hom := Lib.hid hom; clear hom; have Hon := Lib.hid hon; clear hon; have Hbw2 := Lib.hid hbw2; clear hbw2; clear hW0; go_wp2
      go_loopw [20] (fun i wr => ∃ (k : Nat) (rs : List (List Value)), k ≤ e.kids.length ∧ i = .int .i64 k ∧ rs.length = e.kids.length ∧ wr.ownsRow W.heap.size 37 9 (.slice Ak e.kids.length qk2) e.kids.length rs.flatten ∧
          (∀ (j : Nat) (r : List Value) (e' : Ex), rs[j]? = some r → e.kids[j]? = some e' → (j < k → Fresh W2.heap.size wr.heap.size wr e' r) ∧ (k ≤ j → IsEx n w e' r)) ∧
          (∀ j, j < W2.heap.size → (∀ g, Ak = some g → j ≠ g.block) → wr.heap[j]? = W2.heap[j]?) ∧ Below w.heap.size w wr ∧ W2.heap.size ≤ wr.heap.size) (fun i _ => e.kids.length - (intOf i).toNat)
      case atStart => exact ⟨0, rows, Nat.zero_le _, rfl, Hrl.out, hok, fun j r e' hr he => ⟨fun h => absurd h (by omega), fun _ => Hri.out j r e' hr he⟩, fun _ _ _ => rfl, Hbw2.out, Nat.le_refl _⟩
      case round =>
        obtain ⟨k, rs, hk, rfl, hrsl, hown, hrows, hfr, hbr, hszw⟩ := hrel
        by_cases hlt : k < e.kids.length
        · obtain ⟨gk, hgk, hgw, hgl⟩ : ∃ gk, Ak = some ⟨gk, 0, none⟩ ∧ W.heap.size ≤ gk ∧ gk < W2.heap.size := by
            rcases hok.2 with ⟨_, h0⟩ | ⟨gk, cap, cur, hv, hg, hh, _⟩
            · omega
            · simp only [Value.slice.injEq] at hv
              exact ⟨gk, hv.1, hg, (Array.getElem?_eq_some_iff.1 hh).1⟩
          subst hgk; have hkr : k < rs.length := by omega
          have hrk := (hrows k rs[k] e.kids[k] (by simp) (by simp)).2 (Nat.le_refl _); obtain ⟨pm', cm', pn', cn', pk', ck', hrow, -⟩ := hrk.cellsE; rw [hrow] at hrk; have hlen : ∀ r ∈ rs, r.length = 9 := by
            intro r hr; obtain ⟨j, hj, rfl⟩ := List.getElem_of_mem hr; obtain ⟨h1, h2⟩ := hrows j rs[j] (e.kids[j]'(by omega)) (by simp) (by simp)
            by_cases hjk : j < k
            · exact (h1 hjk).length
            · exact (h2 (by omega)).length
          have hrowq : rs[k]? = some [.int .i64 e.kids[k].kind, .int .i64 e.kids[k].fn, .int .i64 e.kids[k].op, .int .i64 e.kids[k].num, .string e.kids[k].metric, .slice pm' e.kids[k].mats.length cm', .int .i64 e.kids[k].span, .slice pn' e.kids[k].names.length cn', .slice pk' e.kids[k].kids.length ck'] := by rw [List.getElem?_eq_getElem hkr, hrow]
          have cz : ∀ j x, [Value.int .i64 e.kids[k].kind, .int .i64 e.kids[k].fn, .int .i64 e.kids[k].op, .int .i64 e.kids[k].num, .string e.kids[k].metric, .slice pm' e.kids[k].mats.length cm', .int .i64 e.kids[k].span, .slice pn' e.kids[k].names.length cn', .slice pk' e.kids[k].kids.length ck'][j]? = some x → wr.cell? ⟨gk, k * 9 + j, none⟩ = some x := by
            intro j x hx; have hj : j < 9 := (List.getElem?_eq_some_iff.1 hx).1; rw [hown.cellAt (k * 9 + j) (by omega)]; exact flatten_at hlen hrowq hx
          have cz0 : wr.cell? ⟨gk, k * 9, none⟩ = _ := cz 0 _ rfl; have cz1 := cz 1 _ rfl; have cz2 := cz 2 _ rfl; have cz3 := cz 3 _ rfl; have cz4 := cz 4 _ rfl; have cz5 := cz 5 _ rfl; have cz6 := cz 6 _ rfl; have cz7 := cz 7 _ rfl; have cz8 := cz 8 _ rfl; clear cz; have c8' : wr.cell? ⟨w.heap.size, 8, none⟩ = some (.slice (some ⟨gk, 0, none⟩) e.kids.length qk2) := by
            rw [World.cell?_of_block (w := W2) (hfr w.heap.size (by omega) (fun g hg => by cases hg; simp; omega))]; exact c8
          have fz : ∀ o, wr.frozen? ⟨gk, o, none⟩ = false := fun o => hown.frozenAt o
          clear c8; have Hok := Lib.hid hok; clear hok; have Hown := Lib.hid hown; clear hown; have Hrows := Lib.hid hrows; clear hrows; have Hfr := Lib.hid hfr; clear hfr; have Hrowq := Lib.hid hrowq; clear hrowq; have Hrow := Lib.hid hrow; clear hrow; have Hrk := Lib.hid hrk; clear hrk; have Hrsl := Lib.hid hrsl; clear hrsl; have Hbr := Lib.hid hbr; clear hbr
          go_upto_region 5 with fail
          obtain ⟨W4, hW4⟩ : ∃ W4, wr.alloc (.cells ([.int .i64 e.kids[k].kind, .int .i64 e.kids[k].fn, .int .i64 e.kids[k].op, .int .i64 e.kids[k].num, .string e.kids[k].metric, .slice pm' e.kids[k].mats.length cm', .int .i64 e.kids[k].span, .slice pn' e.kids[k].names.length cn', .slice pk' e.kids[k].kids.length ck']).toArray 37) = W4 := ⟨_, rfl⟩; have hB4 : Blk W4 wr.heap.size 37 [.int .i64 e.kids[k].kind, .int .i64 e.kids[k].fn, .int .i64 e.kids[k].op, .int .i64 e.kids[k].num, .string e.kids[k].metric, .slice pm' e.kids[k].mats.length cm', .int .i64 e.kids[k].span, .slice pn' e.kids[k].names.length cn', .slice pk' e.kids[k].kids.length ck'] := by rw [← hW4]; exact Blk.new _ _ _
          have hb4 : Below wr.heap.size wr W4 := by rw [← hW4]; exact (Below.refl _ _).alloc (Nat.le_refl _) _
          have hs4 : W4.heap.size = wr.heap.size + 1 := by rw [← hW4]; simp
          have d8 : W4.cell? ⟨w.heap.size, 8, none⟩ = _ := (hb4.cell (p := ⟨w.heap.size, 8, none⟩) (by simp; omega)).trans c8'; have d4 := fun j x h => hB4.cell j x h
          have g0 : W4.cell? ⟨gk, k * 9, none⟩ = _ := (hb4.cell (p := ⟨gk, k * 9, none⟩) (by simp; omega)).trans cz0; have g1 : W4.cell? ⟨gk, k * 9 + 1, none⟩ = _ := (hb4.cell (p := ⟨gk, k * 9 + 1, none⟩) (by simp; omega)).trans cz1; have g2 : W4.cell? ⟨gk, k * 9 + 2, none⟩ = _ := (hb4.cell (p := ⟨gk, k * 9 + 2, none⟩) (by simp; omega)).trans cz2; have g3 : W4.cell? ⟨gk, k * 9 + 3, none⟩ = _ := (hb4.cell (p := ⟨gk, k * 9 + 3, none⟩) (by simp; omega)).trans cz3; have g4 : W4.cell? ⟨gk, k * 9 + 4, none⟩ = _ := (hb4.cell (p := ⟨gk, k * 9 + 4, none⟩) (by simp; omega)).trans cz4; have g5 : W4.cell? ⟨gk, k * 9 + 5, none⟩ = _ := (hb4.cell (p := ⟨gk, k * 9 + 5, none⟩) (by simp; omega)).trans cz5; have g6 : W4.cell? ⟨gk, k * 9 + 6, none⟩ = _ := (hb4.cell (p := ⟨gk, k * 9 + 6, none⟩) (by simp; omega)).trans cz6; have g7 : W4.cell? ⟨gk, k * 9 + 7, none⟩ = _ := (hb4.cell (p := ⟨gk, k * 9 + 7, none⟩) (by simp; omega)).trans cz7; have g8 : W4.cell? ⟨gk, k * 9 + 8, none⟩ = _ := (hb4.cell (p := ⟨gk, k * 9 + 8, none⟩) (by simp; omega)).trans cz8; have gf : ∀ o, W4.frozen? ⟨gk, o, none⟩ = false := fun o => (hb4.frozen (p := ⟨gk, o, none⟩) (by simp; omega)).trans (fz o)
          have e0 := d4 0 _ rfl; have e1 := d4 1 _ rfl; have e2 := d4 2 _ rfl; have e3 := d4 3 _ rfl; have e4 := d4 4 _ rfl; have e5 := d4 5 _ rfl; have e6 := d4 6 _ rfl; have e7 := d4 7 _ rfl; have e8 := d4 8 _ rfl; clear d4 c8' fz cz0 cz1 cz2 cz3 cz4 cz5 cz6 cz7 cz8; have hC : ∀ X, (X = W4 ∨ X = W4.drew) → Calls Tryz.prog 29 #[.agg ([.int .i64 e.kids[k].kind, .int .i64 e.kids[k].fn, .int .i64 e.kids[k].op, .int .i64 e.kids[k].num, .string e.kids[k].metric, .slice pm' e.kids[k].mats.length cm', .int .i64 e.kids[k].span, .slice pn' e.kids[k].names.length cn', .slice pk' e.kids[k].kids.length ck']).toArray] X fun e' w' => ∃ (A5 A7 A8 : Option Addr) (t5 t7 t8 : Nat), e' = .returned (.agg #[.int .i64 e.kids[k].kind, .int .i64 e.kids[k].fn, .int .i64 e.kids[k].op, .int .i64 e.kids[k].num, .string e.kids[k].metric, .slice A5 e.kids[k].mats.length t5, .int .i64 e.kids[k].span, .slice A7 e.kids[k].names.length t7, .slice A8 e.kids[k].kids.length t8]) ∧ Fresh W2.heap.size w'.heap.size w' e.kids[k] [.int .i64 e.kids[k].kind, .int .i64 e.kids[k].fn, .int .i64 e.kids[k].op, .int .i64 e.kids[k].num, .string e.kids[k].metric, .slice A5 e.kids[k].mats.length t5, .int .i64 e.kids[k].span, .slice A7 e.kids[k].names.length t7, .slice A8 e.kids[k].kids.length t8] ∧ Below W4.heap.size W4 w' ∧ (∀ o, w'.cell? ⟨w.heap.size, o, none⟩ = X.cell? ⟨w.heap.size, o, none⟩) ∧ (∀ o, w'.cell? ⟨wr.heap.size, o, none⟩ = X.cell? ⟨wr.heap.size, o, none⟩) ∧
              (∀ o, w'.cell? ⟨gk, o, none⟩ = X.cell? ⟨gk, o, none⟩) ∧ (∀ o, w'.frozen? ⟨gk, o, none⟩ = X.frozen? ⟨gk, o, none⟩) := by
            intro X hX; have hXb : Below W4.heap.size W4 X := by
              rcases hX with rfl | rfl
              · exact Below.refl _ _
              · exact (Below.refl _ _).drew
            have hXs := hXb.size; refine (Hih.out e.kids[k] (List.getElem_mem hlt) _ n X (by omega) (Hrk.out.mono ((Hbr.out.mono hn).trans ((hb4.mono (by omega)).trans (hXb.mono (by omega)))) (Nat.le_refl _)) (e.thin_kid Hth.out hlt) (by have := size_le_sizes (List.getElem_mem hlt); have := e.size_eq; omega)).mono ?_; rintro e' w' ⟨cs', rfl, hf, hb⟩; obtain ⟨vm, vn, vk, rows', rfl, h1, h2, h3, -, -⟩ := hf.cells; obtain ⟨A5, t5, rfl⟩ := ownsRow_slice h1.1; obtain ⟨A7, t7, rfl⟩ := ownsRow_slice h2.1; obtain ⟨A8, t8, rfl⟩ := ownsRow_slice h3.1; refine ⟨A5, A7, A8, t5, t7, t8, rfl, hf.more (by omega) (Nat.le_refl _), hXb.trans (hb.mono hXs), fun o => hb.cell (p := ⟨_, o, none⟩) (by simp; omega), fun o => hb.cell (p := ⟨_, o, none⟩) (by simp; omega), fun o => hb.cell (p := ⟨_, o, none⟩) (by simp; omega), fun o => hb.frozen (p := ⟨_, o, none⟩) (by simp; omega)⟩
          rw [hW4]; have HC := Lib.hid hC; clear hC; have HW4 := Lib.hid hW4; clear hW4; have Hs4 := Lib.hid hs4; clear hs4; have HB4 := Lib.hid hB4; clear hB4; have Hb4 := Lib.hid hb4; clear hb4; have ng1 : gk ≠ w.heap.size := by omega
          have ng2 : gk ≠ wr.heap.size := by omega
          go_region_held3 (fun w' => w'.cell? ⟨w.heap.size, 8, none⟩ = some (.slice (some ⟨gk, 0, none⟩) e.kids.length qk2) ∧ w'.cell? ⟨wr.heap.size, 0, none⟩ = some (.int .i64 e.kids[k].kind) ∧ w'.cell? ⟨wr.heap.size, 1, none⟩ = some (.int .i64 e.kids[k].fn) ∧ w'.cell? ⟨wr.heap.size, 2, none⟩ = some (.int .i64 e.kids[k].op) ∧ w'.cell? ⟨wr.heap.size, 3, none⟩ = some (.int .i64 e.kids[k].num) ∧ w'.cell? ⟨wr.heap.size, 4, none⟩ = some (.string e.kids[k].metric) ∧ w'.cell? ⟨wr.heap.size, 5, none⟩ = some (.slice pm' e.kids[k].mats.length cm') ∧ w'.cell? ⟨wr.heap.size, 6, none⟩ = some (.int .i64 e.kids[k].span) ∧ w'.cell? ⟨wr.heap.size, 7, none⟩ = some (.slice pn' e.kids[k].names.length cn') ∧ w'.cell? ⟨wr.heap.size, 8, none⟩ = some (.slice pk' e.kids[k].kids.length ck')) (go_keep)
            ((go_at_call 29; refine (HC.out _ (by first | exact .inl rfl | exact .inr rfl)).mono ?_; rintro e' w5 ⟨A5, A7, A8, t5, t7, t8, rfl, hfr5, hb5, k1, k2, k3, k4⟩))
          have hw5s := hb5.size; have hs4' := Hs4.out; have own5 := ownsRow_keep (ownsRow_keep Hown.out Hb4.out) hb5; have h9 := put9m (c0 := .int .i64 e.kids[k].kind) (c1 := .int .i64 e.kids[k].fn) (c2 := .int .i64 e.kids[k].op) (c3 := .int .i64 e.kids[k].num) (c4 := .string e.kids[k].metric) (c5 := .slice A5 e.kids[k].mats.length t5) (c6 := .int .i64 e.kids[k].span) (c7 := .slice A7 e.kids[k].names.length t7) (c8 := .slice A8 e.kids[k].kids.length t8) hlen hkr Hrowq.out own5; have hbel : Below w.heap.size w _ := (((((((((Hbr.out.trans ((Hb4.out.mono (by omega)).trans (hb5.mono (by omega)))).setCell (p := ⟨gk, k * 9, none⟩) (by simp; omega) (.int .i64 e.kids[k].kind)).setCell (p := ⟨gk, k * 9 + 1, none⟩) (by simp; omega) (.int .i64 e.kids[k].fn)).setCell (p := ⟨gk, k * 9 + 2, none⟩) (by simp; omega) (.int .i64 e.kids[k].op)).setCell (p := ⟨gk, k * 9 + 3, none⟩) (by simp; omega) (.int .i64 e.kids[k].num)).setCell (p := ⟨gk, k * 9 + 4, none⟩) (by simp; omega) (.string e.kids[k].metric)).setCell (p := ⟨gk, k * 9 + 5, none⟩) (by simp; omega) (.slice A5 e.kids[k].mats.length t5)).setCell (p := ⟨gk, k * 9 + 6, none⟩) (by simp; omega) (.int .i64 e.kids[k].span)).setCell (p := ⟨gk, k * 9 + 7, none⟩) (by simp; omega) (.slice A7 e.kids[k].names.length t7)).setCell (p := ⟨gk, k * 9 + 8, none⟩) (by simp; omega) (.slice A8 e.kids[k].kids.length t8); generalize hW6 : (((((((((w5.setCell ⟨gk, k * 9, none⟩ (.int .i64 e.kids[k].kind)).setCell ⟨gk, k * 9 + 1, none⟩ (.int .i64 e.kids[k].fn)).setCell ⟨gk, k * 9 + 2, none⟩ (.int .i64 e.kids[k].op)).setCell ⟨gk, k * 9 + 3, none⟩ (.int .i64 e.kids[k].num)).setCell ⟨gk, k * 9 + 4, none⟩ (.string e.kids[k].metric)).setCell ⟨gk, k * 9 + 5, none⟩ (.slice A5 e.kids[k].mats.length t5)).setCell ⟨gk, k * 9 + 6, none⟩ (.int .i64 e.kids[k].span)).setCell ⟨gk, k * 9 + 7, none⟩ (.slice A7 e.kids[k].names.length t7)).setCell ⟨gk, k * 9 + 8, none⟩ (.slice A8 e.kids[k].kids.length t8)) = W6 at h9 hbel ⊢; obtain ⟨h9a, h9b, h9c⟩ := h9; have hsame : ∀ j, j < wr.heap.size → j ≠ gk → W6.heap[j]? = wr.heap[j]? := fun j hj hne => (h9c j hne).trans ((hb5.block j (by omega)).trans (Hb4.out.block j hj))
          have Hrows' := Hrows.out; have Hfr' := Hfr.out; have hfin : ∃ rs' : List (List Value), rs'.length = e.kids.length ∧ W6.ownsRow W.heap.size 37 9 (.slice (some ⟨gk, 0, none⟩) e.kids.length qk2) e.kids.length rs'.flatten ∧
              (∀ (j : Nat) (r : List Value) (e' : Ex), rs'[j]? = some r → e.kids[j]? = some e' → (j < k + 1 → Fresh W2.heap.size W6.heap.size W6 e' r) ∧ (k + 1 ≤ j → IsEx n w e' r)) ∧
              (∀ j, j < W2.heap.size → (∀ g, (some ⟨gk, 0, none⟩ : Option Addr) = some g → j ≠ g.block) → W6.heap[j]? = W2.heap[j]?) ∧ Below w.heap.size w W6 ∧ W2.heap.size ≤ W6.heap.size := by
            refine ⟨_, by simpa using Hrsl.out, h9a, fun j r e' hr he => ?_, fun j hj hne => ?_, hbel, by omega⟩
            · rw [List.getElem?_set] at hr
              by_cases hjk : k = j
              · subst hjk
                rw [if_pos rfl, if_pos hkr] at hr; cases hr; rw [List.getElem?_eq_getElem hlt] at he; cases he; refine ⟨fun _ => ?_, fun h => absurd h (by omega)⟩; rw [h9b]; exact hfr5.keep fun m h1 h2 => h9c m (by omega)
              · rw [if_neg hjk] at hr
                refine ⟨fun h => ?_, fun h => (Hrows' j r e' hr he).2 (by omega)⟩; exact ((Hrows' j r e' hr he).1 (by omega)).keep (fun m h1 h2 => hsame m h2 (by omega)) |>.more (Nat.le_refl _) (by omega)
            · rw [hsame j (by omega) (hne _ rfl)]
              exact Hfr' j hj hne
          clear own5 h9a h9b h9c hsame Hrows' Hfr' hbel k1 k2 k3 k4 d8 e0 e1 e2 e3 e4 e5 e6 e7 e8 g0 g1 g2 g3 g4 g5 g6 g7 g8 gf hW6; have Hfin := Lib.hid hfin; clear hfin; have Hfr5 := Lib.hid hfr5; clear hfr5; go_wp2; obtain ⟨rs', f1, f2, f3, f4, f5, f6⟩ := Hfin.out; exact ⟨⟨k + 1, rs', by omega, by go_num, f1, f2, f3, f4, f5, f6⟩, by simp [intOf]; omega⟩
        · have hA : ∀ j, j < W.heap.size → ∀ g, Ak = some g → j ≠ g.block := by
            intro j hj g hg; subst hg; rcases hok.2 with ⟨hv, _⟩ | ⟨gk, cap, cur, hv, hg, hh, _⟩
            · cases hv
            · simp only [Value.slice.injEq, Option.some.injEq] at hv
              rw [hv.1]; simp; omega
          have hbr1 : Blk wr w.heap.size 37 _ := (hfr _ (by omega) (hA _ (by omega))).trans Hbox2.out; have hbr2 : Blk wr (w.heap.size + 1) 37 _ := (hfr _ (by omega) (hA _ (by omega))).trans Hres2.out; clear c8; have d0 := hbr1.cell 0 _ rfl; have d1 := hbr1.cell 1 _ rfl; have d2 := hbr1.cell 2 _ rfl; have d3 := hbr1.cell 3 _ rfl; have d4 := hbr1.cell 4 _ rfl; have d5 := hbr1.cell 5 _ rfl; have d6 := hbr1.cell 6 _ rfl; have d7 := hbr1.cell 7 _ rfl; have d8 := hbr1.cell 8 _ rfl; have r0 := hbr2.cell 0 _ rfl; have r1 := hbr2.cell 1 _ rfl; have r2 := hbr2.cell 2 _ rfl; have r3 := hbr2.cell 3 _ rfl; have r4 := hbr2.cell 4 _ rfl; have r5 := hbr2.cell 5 _ rfl; have r6 := hbr2.cell 6 _ rfl; have r7 := hbr2.cell 7 _ rfl; have r8 := hbr2.cell 8 _ rfl; have rf := hbr2.free; have Hbr2 := Lib.hid hbr2; clear hbr2 hbr1; have Hown := Lib.hid hown; clear hown; have Hrows := Lib.hid hrows; clear hrows; have Hfr := Lib.hid hfr; clear hfr; have Hrsl := Lib.hid hrsl; clear hrsl; have Hbr := Lib.hid hbr; clear hbr; have Hok := Lib.hid hok; clear hok; have HA := Lib.hid hA; clear hA; go_wp2; have hblk : Blk (((((((((wr.setCell ⟨w.heap.size + 1, 0, none⟩ (.int .i64 e.kind)).setCell ⟨w.heap.size + 1, 1, none⟩ (.int .i64 e.fn)).setCell ⟨w.heap.size + 1, 2, none⟩ (.int .i64 e.op)).setCell ⟨w.heap.size + 1, 3, none⟩ (.int .i64 e.num)).setCell ⟨w.heap.size + 1, 4, none⟩ (.string e.metric)).setCell ⟨w.heap.size + 1, 5, none⟩ (.slice Am e.mats.length qm)).setCell ⟨w.heap.size + 1, 6, none⟩ (.int .i64 e.span)).setCell ⟨w.heap.size + 1, 7, none⟩ (.slice An e.names.length qn)).setCell ⟨w.heap.size + 1, 8, none⟩ (.slice Ak e.kids.length qk2)) (w.heap.size + 1) 37 [.int .i64 e.kind, .int .i64 e.fn, .int .i64 e.op, .int .i64 e.num, .string e.metric, .slice Am e.mats.length qm, .int .i64 e.span, .slice An e.names.length qn, .slice Ak e.kids.length qk2] := (((((((((Hbr2.out.set 0 (.int .i64 e.kind)).set 1 (.int .i64 e.fn)).set 2 (.int .i64 e.op)).set 3 (.int .i64 e.num)).set 4 (.string e.metric)).set 5 (.slice Am e.mats.length qm)).set 6 (.int .i64 e.span)).set 7 (.slice An e.names.length qn)).set 8 (.slice Ak e.kids.length qk2)); have hne : ∀ j, j ≠ w.heap.size + 1 → (((((((((wr.setCell ⟨w.heap.size + 1, 0, none⟩ (.int .i64 e.kind)).setCell ⟨w.heap.size + 1, 1, none⟩ (.int .i64 e.fn)).setCell ⟨w.heap.size + 1, 2, none⟩ (.int .i64 e.op)).setCell ⟨w.heap.size + 1, 3, none⟩ (.int .i64 e.num)).setCell ⟨w.heap.size + 1, 4, none⟩ (.string e.metric)).setCell ⟨w.heap.size + 1, 5, none⟩ (.slice Am e.mats.length qm)).setCell ⟨w.heap.size + 1, 6, none⟩ (.int .i64 e.span)).setCell ⟨w.heap.size + 1, 7, none⟩ (.slice An e.names.length qn)).setCell ⟨w.heap.size + 1, 8, none⟩ (.slice Ak e.kids.length qk2)).heap[j]? = wr.heap[j]? := fun j hj => by iterate 9 rw [Below.heap_setCell _ _ _ _ hj]
          have hsz6 : (((((((((wr.setCell ⟨w.heap.size + 1, 0, none⟩ (.int .i64 e.kind)).setCell ⟨w.heap.size + 1, 1, none⟩ (.int .i64 e.fn)).setCell ⟨w.heap.size + 1, 2, none⟩ (.int .i64 e.op)).setCell ⟨w.heap.size + 1, 3, none⟩ (.int .i64 e.num)).setCell ⟨w.heap.size + 1, 4, none⟩ (.string e.metric)).setCell ⟨w.heap.size + 1, 5, none⟩ (.slice Am e.mats.length qm)).setCell ⟨w.heap.size + 1, 6, none⟩ (.int .i64 e.span)).setCell ⟨w.heap.size + 1, 7, none⟩ (.slice An e.names.length qn)).setCell ⟨w.heap.size + 1, 8, none⟩ (.slice Ak e.kids.length qk2)).heap.size = wr.heap.size := by simp
          have hbel : Below w.heap.size w (((((((((wr.setCell ⟨w.heap.size + 1, 0, none⟩ (.int .i64 e.kind)).setCell ⟨w.heap.size + 1, 1, none⟩ (.int .i64 e.fn)).setCell ⟨w.heap.size + 1, 2, none⟩ (.int .i64 e.op)).setCell ⟨w.heap.size + 1, 3, none⟩ (.int .i64 e.num)).setCell ⟨w.heap.size + 1, 4, none⟩ (.string e.metric)).setCell ⟨w.heap.size + 1, 5, none⟩ (.slice Am e.mats.length qm)).setCell ⟨w.heap.size + 1, 6, none⟩ (.int .i64 e.span)).setCell ⟨w.heap.size + 1, 7, none⟩ (.slice An e.names.length qn)).setCell ⟨w.heap.size + 1, 8, none⟩ (.slice Ak e.kids.length qk2)) := (((((((((Hbr.out.setCell (p := ⟨w.heap.size + 1, 0, none⟩) (by simp) (.int .i64 e.kind)).setCell (p := ⟨w.heap.size + 1, 1, none⟩) (by simp) (.int .i64 e.fn)).setCell (p := ⟨w.heap.size + 1, 2, none⟩) (by simp) (.int .i64 e.op)).setCell (p := ⟨w.heap.size + 1, 3, none⟩) (by simp) (.int .i64 e.num)).setCell (p := ⟨w.heap.size + 1, 4, none⟩) (by simp) (.string e.metric)).setCell (p := ⟨w.heap.size + 1, 5, none⟩) (by simp) (.slice Am e.mats.length qm)).setCell (p := ⟨w.heap.size + 1, 6, none⟩) (by simp) (.int .i64 e.span)).setCell (p := ⟨w.heap.size + 1, 7, none⟩) (by simp) (.slice An e.names.length qn)).setCell (p := ⟨w.heap.size + 1, 8, none⟩) (by simp) (.slice Ak e.kids.length qk2)); generalize hW6 : (((((((((wr.setCell ⟨w.heap.size + 1, 0, none⟩ (.int .i64 e.kind)).setCell ⟨w.heap.size + 1, 1, none⟩ (.int .i64 e.fn)).setCell ⟨w.heap.size + 1, 2, none⟩ (.int .i64 e.op)).setCell ⟨w.heap.size + 1, 3, none⟩ (.int .i64 e.num)).setCell ⟨w.heap.size + 1, 4, none⟩ (.string e.metric)).setCell ⟨w.heap.size + 1, 5, none⟩ (.slice Am e.mats.length qm)).setCell ⟨w.heap.size + 1, 6, none⟩ (.int .i64 e.span)).setCell ⟨w.heap.size + 1, 7, none⟩ (.slice An e.names.length qn)).setCell ⟨w.heap.size + 1, 8, none⟩ (.slice Ak e.kids.length qk2)) = W6 at hblk hne hsz6 hbel ⊢; clear hW6; have hwid : wr.heap.size ≤ W6.heap.size := by omega
          have hAm : ∀ g, (Value.slice Am e.mats.length qm).ownBlock = some g → W.heap.size ≤ g ∧ g < W2.heap.size := ownsRow_block Hom.out; have hAn : ∀ g, (Value.slice An e.names.length qn).ownBlock = some g → W.heap.size ≤ g ∧ g < W2.heap.size := ownsRow_block Hon.out; have hAk : ∀ g, (Value.slice Ak e.kids.length qk2).ownBlock = some g → W.heap.size ≤ g ∧ g < W2.heap.size := ownsRow_block Hok.out; have keepOld : ∀ (e0 sz m : Nat) (v : Value) (xs : List Value), W2.ownsRow W.heap.size e0 sz v m xs → (∀ g, Ak = some g → v.ownBlock ≠ some g.block) → OwnIn w.heap.size W6.heap.size W6 e0 sz v m xs := by
            intro e0 sz m v xs h hv; refine ⟨⟨h.1, ?_⟩, fun g hg => by have := (ownsRow_block h g hg).2; omega⟩; rcases h.2 with h' | ⟨g, cap, cur, rfl, hg, hh, h1⟩
            · exact .inl h'
            · refine .inr ⟨g, cap, cur, rfl, by omega, ?_, h1⟩
              have hgl := (Array.getElem?_eq_some_iff.1 hh).1; rw [hne g (by omega), Hfr.out g hgl (fun a ha e => hv a ha (by simp [Value.ownBlock, e]))]; exact hh
          have hfresh := Fresh.mk (lo := w.heap.size) (hi := W6.heap.size) (w := W6) (kind := e.kind) (fn := e.fn) (op := e.op) (num := e.num) (span := e.span) (rows := rs) hms Hma.out.2 Hna.out.2
            (keepOld _ _ _ _ _ Hom.out (fun g hg hv => ?q1)) (keepOld _ _ _ _ _ Hon.out (fun g hg hv => ?q2)) (kids := e.kids) (vk := .slice Ak e.kids.length qk2) ?q3 Hrsl.out ?q4
          case q1 => exact own_types Hom.out Hok.out (by decide) hv (by rw [hg]; exact own_of_some Hok.out hg)
          case q2 => exact own_types Hon.out Hok.out (by decide) hv (by rw [hg]; exact own_of_some Hok.out hg)
          case q3 =>
            refine ⟨⟨Hown.out.1, ?_⟩, fun g hg => by have := (hAk g hg).2; omega⟩; rcases Hown.out.2 with h' | ⟨g, cap, cur, hv, hg, hh, h1⟩
            · exact .inl h'
            · exact .inr ⟨g, cap, cur, hv, by omega, (hne g (by omega)).trans hh, h1⟩
          case q4 =>
            intro j r e' hr he; exact (((Hrows.out j r e' hr he).1 (by have := (List.getElem?_eq_some_iff.1 he).1; omega)).keep (fun m h1 h2 => hne m (by omega))).more (by omega) (by omega)
          rw [← Ex.eq_mk e] at hfresh; exact bodyPost_agg (g := w.heap.size + 1) (fr := (0, 0)) rfl rfl hblk Tryz.underlying37 rfl (by kernel_rfl) rfl ⟨_, rfl, hfresh, hbel⟩
end Go.Proofs.YtdjdikiimhhjpaaGreatDoor
