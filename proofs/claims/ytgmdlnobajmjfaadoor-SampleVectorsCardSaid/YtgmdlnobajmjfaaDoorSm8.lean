/- slices.SortFunc at results off the shelf; sample.Sort. -/
import Derived.Test.YtgmdlnobajmjfaaDoorSm7
namespace Go.Proofs.YtgmdlnobajmjfaaDoor
open Go.RowKit
set_option linter.unusedSimpArgs false
set_option linter.unusedVariables false

/-- A result with where its labels lie; its labels may be. -/
def Sel (n : Nat) (W : World) : Type := { p : Rs × (Option Addr × Nat) // IsLabs n W (.slice p.2.1 p.1.labs.length p.2.2) p.1.labs ∧ checkL p.1.labs = 0 ∧ i64 p.1.n }
instance (n : Nat) (W : World) : Inhabited (Sel n W) := ⟨⟨(⟨[], 0, false⟩, (none, 0)), IsLabs.nil n W, rfl, by constructor <;> decide⟩⟩
def Sel.cells {n : Nat} {W : World} (x : Sel n W) : List Value := [.slice x.1.2.1 x.1.1.labs.length x.1.2.2, .int .i64 x.1.1.n, .bool x.1.1.over]
def Sel.cf {n : Nat} {W : World} (x y : Sel n W) : Int := orderL x.1.1.labs y.1.1.labs
theorem sel_lt {n : Nat} {W : World} (x y : Sel n W) : Go.Proofs.ltOf Sel.cf x y = decide (orderL x.1.1.labs y.1.1.labs < 0) := rfl
theorem sel_swo (n : Nat) (W : World) : Go.Sort.SWO (Go.Proofs.ltOf (Sel.cf (n := n) (W := W))) where
  irrefl x := by
    rw [sel_lt, orderL_zero.2 rfl]; rfl
  trans x y z h1 h2 := by
    rw [sel_lt] at *
    simp only [decide_eq_true_eq] at *
    exact orderL_trans h1 h2
  ntrans x y z h1 h2 := by
    rw [sel_lt] at *
    simp only [decide_eq_false_iff_not] at *
    intro h3
    have e1 := orderL_swap x.1.1.labs y.1.1.labs
    have e2 := orderL_swap y.1.1.labs z.1.1.labs
    by_cases h4 : orderL x.1.1.labs y.1.1.labs = 0
    · rw [orderL_zero.1 h4] at h3; exact h2 h3
    · exact h2 (orderL_trans (show orderL y.1.1.labs x.1.1.labs < 0 by omega) h3)
theorem sortWorld_below {n n0 k : Nat} {W0 W : World} {enc : Sel n0 W0 → List Value} {blk off m : Nat} {dk : Array (Sel n0 W0)} {os : Array Obj} (h : n ≤ blk) (hb : blk < W.heap.size) : Below n W (Go.Proofs.sortWorldK enc k W blk off m dk os) := by
  have hs := Go.Proofs.size_sortWorldK_c enc k W blk off m dk os
  refine ⟨rfl, rfl, rfl, hs, fun j hj => ?_⟩
  unfold Go.Proofs.sortWorldK Go.Sort.grow Go.Sort.putRowK Go.Sort.putRow Go.Sort.mapBlock
  show ((W.heap.modify blk _) ++ os)[j]? = _
  rw [Array.getElem?_append_left (by simp; omega), Array.getElem?_modify, if_neg (by omega)]
set_option maxHeartbeats 1000000 in
theorem sel_lays {n : Nat} {W0 W : World} (hb : Below n W0 W) {blk off size : Nat} (h : n ≤ blk) (hblk : blk < W.heap.size) : Go.Proofs.CmpLays Tryd.prog 26 #[] (Sel.cells (n := n) (W := W0)) 3 Sel.cf blk off size W := by
  intro m os dk hdk x y
  have hS := sortWorld_below (k := 3) (enc := Sel.cells) (off := off) (m := m) (dk := dk) (os := os) h hblk
  have hsz := Go.Proofs.size_sortWorldK_c (Sel.cells (n := n) (W := W0)) 3 W blk off m dk os
  obtain ⟨X, hX⟩ : ∃ z, Go.Proofs.sortWorldK (Sel.cells (n := n) (W := W0)) 3 W blk off m dk os = z := ⟨_, rfl⟩
  rw [hX] at hS hsz ⊢
  obtain ⟨⟨r, p, c⟩, hx1, hx2, hx3⟩ := x
  obtain ⟨⟨s, q, d⟩, hy1, hy2, hy3⟩ := y
  have hl1 := hx1.mono (hb.trans hS) (Nat.le_refl n)
  have hl2 := hy1.mono (hb.trans hS) (Nat.le_refl n)
  have hc := sortCl (r := r) (s := s) (p := p) (q := q) (c := c) (d := d) (n := n) (W := X) (by omega) hl1 hl2
  refine Calls.mono (by simpa [Sel.cells] using hc) ?_
  rintro e w' ⟨rfl, hw⟩
  obtain ⟨q9, os9, hq⟩ := hw.grow
  refine ⟨?_, q9, os9, hq⟩
  rw [compareL_ok hx2 hy2]
  rfl
theorem sel_of {n : Nat} {W : World} : ∀ (rows : List (List Value)) (l : List Rs), rows.length = l.length → (∀ (k : Nat) (row : List Value) (r : Rs), rows[k]? = some row → l[k]? = some r → RsRow n W r row) → (∀ r ∈ l, checkL r.labs = 0) →
    ∃ d : List (Sel n W), d.map Sel.cells = rows ∧ d.map (fun x => x.1.1) = l
  | [], [], _, _, _ => ⟨[], rfl, rfl⟩
  | [], _ :: _, h, _, _ => by simp at h
  | _ :: _, [], h, _, _ => by simp at h
  | row :: rows, r :: l, h, hr, hc => by
    obtain ⟨d, h1, h2⟩ := sel_of rows l (by simpa using h) (fun k row r a b => hr (k + 1) row r (by simpa using a) (by simpa using b)) (fun r hr => hc r (by simp [hr]))
    obtain ⟨p, c, e, h3, h4⟩ := hr 0 row r rfl rfl
    obtain ⟨x, hx1, hx2⟩ : ∃ x : Sel n W, x.cells = row ∧ x.1.1 = r := ⟨⟨(r, (p, c)), h3, hc r (by simp), h4⟩, e.symm, rfl⟩
    exact ⟨x :: d, by rw [List.map_cons, h1, hx1], by rw [List.map_cons, h2, hx2]⟩
theorem sel_len {n : Nat} {W : World} (x : Sel n W) : x.cells.length = 3 := rfl
theorem sel_holds {n base : Nat} {W0 W : World} {g cap N : Nat} (d : List (Sel n W0)) (h : W.ownsRow base 39 3 (.slice (some ⟨g, 0, none⟩) N cap) N (d.map Sel.cells).flatten) (hN : d.length = N) : Go.Sort.HoldsK Sel.cells 3 W g 0 d.toArray := by
  intro j hj
  rw [Go.Sort.size_flatK] at hj
  have hj' : j < d.length * 3 := by simpa using hj
  have h1 : j / 3 < d.length := by omega
  rw [Go.Sort.get_flatK _ _ _ j hj]
  have hrow : (d.map Sel.cells)[j / 3]? = some (d[j / 3]).cells := by rw [List.getElem?_map, List.getElem?_eq_getElem h1]; rfl
  have hlen : ∀ r ∈ d.map Sel.cells, r.length = 3 := by
    intro r hr
    obtain ⟨x, -, rfl⟩ := List.mem_map.1 hr
    rfl
  have hm : j % 3 < (d[j / 3]).cells.length := by rw [sel_len]; omega
  have hfl := flatten_at hlen hrow (List.getElem?_eq_getElem hm)
  rw [show j / 3 * 3 + j % 3 = j by omega] at hfl
  have hc := World.ownsRow.cells h (g := g) rfl j _ hfl
  rw [show (⟨g, 0, none⟩ : Addr).add j = ⟨g, 0 + j, none⟩ by unfold Addr.add; split <;> simp <;> omega] at hc
  refine ⟨?_, ?_⟩
  · rw [hc]
    congr 1
    rw [getElem!_pos d.toArray (j / 3) (by simpa using h1), getElem!_pos _ _ (by simpa using hm)]
    rfl
  · rcases h.2 with ⟨hv, _⟩ | ⟨g1, c1, u1, hv, _, hh, _⟩
    · cases hv
    · cases hv
      simp [World.frozen?, hh]
def SortO (l : List Rs) (v : Value) (base : Nat) (W : World) (e : Ending) (w' : World) : Prop :=
  e = .returned (.tuple #[]) ∧ ∃ l' : List Rs, l'.Perm l ∧ (l'.Pairwise fun a b => ¬ (orderL b.labs a.labs < 0)) ∧ IsRes w'.heap.size w' v l' ∧ Below base W w'
theorem sSortF {l : List Rs} {v : Value} {n base : Nat} {W0 W : World} (hb : Below n W0 W) (hnb : n ≤ base) (h : OwnRs n W0 base W v l) (hc : ∀ r ∈ l, checkL r.labs = 0) (hlen : l.length ≤ 1000000) :
    Calls Tryd.prog 25 #[v, .func (.func 26) #[] #[]] W (SortO l v base W) := by
  obtain ⟨rows, h1, h2, h3⟩ := h
  obtain ⟨d, hd1, hd2⟩ := sel_of rows l h1 h2 hc
  have hdl : d.length = l.length := by rw [← hd2, List.length_map]
  subst hd1
  by_cases h0 : l.length = 0
  · have hl : l = [] := List.eq_nil_of_length_eq_zero h0
    subst hl
    obtain ⟨p, cap, rfl⟩ := ownsRow_slice h3
    have hcon := AnyF.slices_SortFunc_none Tryd.sortR p cap (.func (.func 26) #[] #[]) W
    change Calls Tryd.prog 25 _ _ _ at hcon
    refine hcon.mono ?_
    rintro e w' ⟨rfl, rfl⟩
    refine ⟨rfl, [], List.Perm.refl _, List.Pairwise.nil, ?_, Below.refl _ _⟩
    have hA : ∃ p cap, (Value.slice p 0 cap = .slice p 0 cap) := ⟨p, cap, rfl⟩
    refine ⟨[], ⟨p, cap, rfl, Nat.zero_le _, ?_, fun h => (h rfl).elim⟩, rfl, fun k row r h => by simp at h⟩
    rcases h3.2 with ⟨hv, _⟩ | ⟨g1, c1, u1, hv, _, _, _, hm, _⟩
    · cases hv; exact Nat.zero_le _
    · cases hv; exact hm
  · rcases h3.2 with ⟨hv, hz⟩ | ⟨g, cap, cur, rfl, hg, hh, hc1, hc2, hc3, hc4⟩
    · exact absurd hz h0
    · have hgl : g < W.heap.size := (Array.getElem?_eq_some_iff.1 hh).1
      have hH := sel_holds d h3 hdl
      have eg : ∀ args w, (callFunc 26 args).run Tryd.prog w = .ok (.enter 26 args) w := enters_of Tryd.func26 (by kernel_rfl) rfl
      have hcon := AnyQ.slices_SortFunc Tryd.sortR 3 Tryd.isAgg39 Tryd.sizeOf39 (Sel.cells (n := n) (W := W0)) (fun _ => rfl) (fun x v hv => by simp [Sel.cells] at hv; rcases hv with rfl | rfl | rfl <;> rfl) Sel.cf (sel_swo n W0) 26 #[] g 0 cap d.toArray W eg (sel_lays hb (Nat.le_trans hnb hg) hgl) hH hgl (by simp; omega)
      change Calls Tryd.prog 25 _ _ _ at hcon
      rw [show d.toArray.size = l.length by simpa using hdl] at hcon
      refine hcon.mono ?_
      rintro e w' ⟨rfl, d', m, os, hp, hs, rfl⟩
      obtain ⟨hp1, -, hp3⟩ := hp
      have hsz : d'.size = l.length := by rw [hp1]; simpa using hdl
      have hperm : d'.toList.Perm d := by
        have h9 := hp3
        rw [show l.length = d'.size from hsz.symm] at h9
        have e1 : (d'.extract 0 d'.size) = d' := by simp
        have e2 : (d.toArray.extract 0 d'.size) = d.toArray := by rw [hp1]; simp
        rw [e1, e2] at h9
        simpa using h9
      have hH' := Go.Proofs.holdsK_sortWorldK_c Sel.cells 3 W g 0 d.toArray d' m os hH hgl hp1
      have hbw := sortWorld_below (n := base) (k := 3) (enc := Sel.cells (n := n) (W := W0)) (off := 0) (m := m) (dk := d') (os := os) hg hgl
      have hbn := sortWorld_below (n := n) (k := 3) (enc := Sel.cells (n := n) (W := W0)) (off := 0) (m := m) (dk := d') (os := os) (Nat.le_trans hnb hg) hgl
      have hsw := Go.Proofs.size_sortWorldK_c (Sel.cells (n := n) (W := W0)) 3 W g 0 m d' os
      obtain ⟨X, hX⟩ : ∃ z, Go.Proofs.sortWorldK (Sel.cells (n := n) (W := W0)) 3 W g 0 m d' os = z := ⟨_, rfl⟩
      rw [hX] at hH' hbw hbn hsw ⊢
      refine ⟨rfl, d'.toList.map (fun x => x.1.1), ?_, ?_, ?_, hbw⟩
      · have := hperm.map (fun x : Sel n W0 => x.1.1)
        rwa [hd2] at this
      · rw [List.pairwise_map]
        rw [List.pairwise_iff_getElem]
        intro i j hi hj hij
        have := hs i j (Nat.zero_le _) hij (by simpa [hsz] using hj)
        rw [sel_lt] at this
        simp only [decide_eq_false_iff_not] at this
        have hi' : i < d'.size := by simpa using hi
        have hj' : j < d'.size := by simpa using hj
        rw [getElem!_pos d' i hi', getElem!_pos d' j hj'] at this
        simpa using this
      · refine ⟨d'.toList.map Sel.cells, ⟨_, cap, by simp [hsz], by simp [hsz]; exact hc1, hc2, fun _ => ⟨g, 0, rfl, by omega, fun k row hrow j u hu => ?_⟩⟩, by simp, fun k row r hr hl => ?_⟩
        · rw [List.getElem?_map] at hrow
          cases hk : d'.toList[k]? with
          | none => rw [hk] at hrow; cases hrow
          | some x =>
            rw [hk] at hrow
            simp only [Option.map_some, Option.some.injEq] at hrow
            subst hrow
            obtain ⟨hk1, hk2⟩ := List.getElem?_eq_some_iff.1 hk
            have hks : k < d'.size := by simpa using hk1
            have hj3 : j < 3 := by have := (List.getElem?_eq_some_iff.1 hu).1; rw [sel_len] at this; exact this
            have hcell := (Go.Sort.HoldsK.cell hH' hks hj3).1
            rw [hcell, getElem!_pos d' k hks]
            have hx : d'[k] = x := by rw [← hk2]; simp
            rw [hx]
            obtain ⟨hu1, hu2⟩ := List.getElem?_eq_some_iff.1 hu
            rw [getElem!_pos _ j hu1, hu2]
        · rw [List.getElem?_map] at hr hl
          cases hk : d'.toList[k]? with
          | none => rw [hk] at hr; cases hr
          | some x =>
            rw [hk] at hr hl
            simp only [Option.map_some, Option.some.injEq] at hr hl
            subst hr hl
            obtain ⟨⟨r, p, c⟩, hx1, hx2, hx3⟩ := x
            exact ⟨p, c, rfl, hx1.mono (hb.trans hbn) (by omega), hx3⟩
end Go.Proofs.YtgmdlnobajmjfaaDoor
