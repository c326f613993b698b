/- label.Text; the kit's Set. -/
import Derived.Test.YtgmdlnobajmjfaaDoorLa5
import Derived.Test.YtgmdlnobajmjfaaDoorLa7
import Derived.Test.YtgmdlnobajmjfaaDoorStl
namespace Go.Proofs.YtgmdlnobajmjfaaDoor
open Go.RowKit
set_option linter.unusedSimpArgs false
set_option linter.unusedVariables false

/-- One label's text, a set's text. -/
def partT (x : Lab) : ByteArray := x.name ++ ⟨#[61]⟩ ++ ⟨(quoteL x.text.data.toList).toArray⟩
def textB (l : List Lab) : ByteArray := ⟨#[123]⟩ ++ ⟨(Lib.join (l.map fun x => (partT x).data.toList) [44]).toArray⟩ ++ ⟨#[125]⟩

def OwnS (base : Nat) (w : World) (v : Value) (l : List ByteArray) : Prop := w.ownsRow base 9 1 v l.length (l.map fun s => .string s)
theorem infoStr : (Tryd.prog.info? 9).map (fun i => (i.zero, i.size, i.bytes)) = some (some (.string ⟨#[]⟩), 1, 16) := by kernel_rfl
theorem one_at (w : World) (x : Value) (t g : Nat) (hg : g = w.heap.size) : ∀ j u, [x][j]? = some u → (w.alloc (.cells #[x] t)).cell? ((⟨g, 0, none⟩ : Addr).add j) = some u := by
  intro j u hu
  subst hg
  have e : (⟨w.heap.size, 0, none⟩ : Addr).add j = ⟨w.heap.size, j, none⟩ := by
    unfold Addr.add; split <;> simp
  rw [e, World.cell?_alloc_new]
  match j, hu with
  | 0, hu => simpa using hu
  | j + 1, hu => simp at hu

theorem concat_run (a b : ByteArray) (w : World) (h : a.size + b.size ≤ 1000000) : (binOp BinOp.add 9 (.string a) (.string b)).run Tryd.prog w = .ok (.string (a ++ b)) w := by
  have h1 : ¬ (IntKind.i64.max < ((a.size + b.size : Nat) : Int)) := by
    show ¬ ((9223372036854775807 : Int) < _)
    omega
  simp [binOp, go_sem, Op.stringOp, h1]
  omega
theorem grown_cell {w w' : World} {row : Option Nat} (h : w.grownBy w' row) {k : Nat} (hk : k < w.heap.size) (hne : some k ≠ row) (o : Nat) : w'.cell? ⟨k, o, none⟩ = w.cell? ⟨k, o, none⟩ := by
  exact World.cell?_of_block (h.block k hk hne)
set_option maxRecDepth 100000 in
set_option maxHeartbeats 4000000 in
theorem lText (l : List Lab) (v : Value) (n : Nat) (w : World) (hn : n ≤ w.heap.size) (h : IsLabs n w v l) (hck : checkL l = 0) (hsz : ∀ x ∈ l, x.text.size ≤ 64 ∧ x.name.size ≤ 24) (hjl : (Lib.join (l.map fun x => (partT x).data.toList) [44]).length ≤ 100000) :
    Calls Tryd.prog 39 #[v] w fun e w' => e = .returned (.string (textB l)) ∧ Below w.heap.size w w' := by
  obtain ⟨i0, hi, hz0, hz1, hz2⟩ := info_parts infoStr
  have HCk := Lib.hid (lCheck l v n w hn h)
  obtain ⟨p, cap, rfl, _, _, hll⟩ := h.open
  unfold maxLen at hll
  have H := Lib.hid h; clear h
  have HZ := Lib.hid hsz; clear hsz
  have HJ := Lib.hid hjl; clear hjl
  have h8 : l.length ≤ 8 := by
    rcases Nat.lt_or_ge 8 l.length with h | h
    · rw [checkL_long h] at hck; cases hck
    · exact h
  go_enter Tryd.func39, Tryd.ntmps39; (try simp only [List.append_eq, List.cons_append, List.nil_append])
  go_upto_region 5 with (go_at_call 31; refine HCk.out.mono ?_; rintro e w1 ⟨rfl, hb⟩; rw [hck]; have HB := Lib.hid hb; clear hb)
  have HB0 := HB; clear HB
  go_loopw [3, 11] (fun s3 i wr => ∃ k : Nat, k ≤ l.length ∧ i = .int .i64 k ∧ OwnS w.heap.size wr s3 ((l.take k).map partT) ∧ Below w.heap.size w wr) (fun _ i _ => l.length - (intOf i).toNat)
  case atStart => exact ⟨0, Nat.zero_le _, rfl, World.ownsRow_nil _ _ _ _, HB0.out⟩
  case round =>
    obtain ⟨k, hk, rfl, ho, hb⟩ := hrel
    have HO := Lib.hid ho; clear ho
    have HB := Lib.hid hb; clear hb
    have hsb := HB.out.size
    by_cases hlt : k < l.length
    · have hstep : (l.take (k + 1)).map partT = (l.take k).map partT ++ [partT l[k]] := by rw [List.take_succ_eq_append_getElem hlt, List.map_append]; rfl
      have Hstep := Lib.hid hstep; clear hstep
      have hfl : ((l.take k).map partT).length ≤ l.length := by simp; omega
      obtain ⟨F, hF⟩ : ∃ F, (l.take k).map partT = F := ⟨_, rfl⟩
      rw [hF] at HO Hstep hfl
      clear hF
      have hx64 := (HZ.out _ (List.getElem_mem hlt)).1
      have hx24 := (HZ.out _ (List.getElem_mem hlt)).2
      obtain ⟨b, off, rfl, hbn, h1, h2, hs1, hs2⟩ := (H.out.mono (HB.out.mono hn) (Nat.le_refl _)).get hlt
      generalize l[k] = x at *
      have HPx : Hid (partT x = x.name ++ ⟨#[61]⟩ ++ ⟨(quoteL x.text.data.toList).toArray⟩) := rfl
      go_upto_region 7 with fail
      have hblk := Blk.new wr [.string x.name, .string x.text] 43
      have hb2 : Below w.heap.size w (wr.alloc (.cells #[.string x.name, .string x.text] 43)) := HB.out.alloc hsb _
      have ho2 : OwnS w.heap.size (wr.alloc (.cells #[.string x.name, .string x.text] 43)) _ F := ownsRow_keep HO.out ((Below.refl _ _).alloc (Nat.le_refl _) _)
      obtain ⟨W1, hW1⟩ : ∃ W1, wr.alloc (.cells #[.string x.name, .string x.text] 43) = W1 := ⟨_, rfl⟩
      have hblk' : Blk W1 wr.heap.size 43 [.string x.name, .string x.text] := by rw [← hW1]; exact hblk
      rw [hW1] at hb2 ho2 ⊢
      clear hblk hW1
      have HQ := Lib.hid hblk'; clear hblk'
      have HB2 := Lib.hid hb2; clear hb2
      have HO2 := Lib.hid ho2; clear ho2
      have hX := Below.refl W1.heap.size W1
      have hsz1 := HB2.out.size
      have hql : (quoteL x.text.data.toList).length ≤ 300 := by
        have := qs_length x.text.data.toList
        have h2 : x.text.data.toList.length = x.text.size := by simp
        unfold quoteL
        simp only [List.length_append, List.length_cons, List.length_nil]
        omega
      have r1 : ∀ w, (binOp BinOp.add 9 (.string x.name) (.string ⟨#[61]⟩)).run Tryd.prog w = .ok (.string (x.name ++ ⟨#[61]⟩)) w := fun w => concat_run _ _ w (by have e : (⟨#[61]⟩ : ByteArray).size = 1 := rfl; rw [e]; omega)
      have r2 : ∀ w, (binOp BinOp.add 9 (.string (x.name ++ ⟨#[61]⟩)) (.string ⟨(quoteL x.text.data.toList).toArray⟩)).run Tryd.prog w = .ok (.string (x.name ++ ⟨#[61]⟩ ++ ⟨(quoteL x.text.data.toList).toArray⟩)) w := fun w => concat_run _ _ w (by
        have e : (⟨#[61]⟩ : ByteArray).size = 1 := rfl
        have e2 : (⟨(quoteL x.text.data.toList).toArray⟩ : ByteArray).size = (quoteL x.text.data.toList).length := by simp [ByteArray.size]
        rw [ByteArray.size_append, e, e2]; omega)
      have HS := Lib.hid (fun X (h : Below W1.heap.size W1 X) => show X.cell? ⟨wr.heap.size, 0, none⟩ = some (.string x.name) ∧ X.cell? ⟨wr.heap.size, 1, none⟩ = some (.string x.text) from
        ⟨(HQ.out.mono h HQ.out.lt).cell 0 _ rfl, (HQ.out.mono h HQ.out.lt).cell 1 _ rfl⟩)
      have hnb : some wr.heap.size ≠ Value.ownBlock u3 := fun e => by have := (ownsRow_block HO.out wr.heap.size e.symm).2; omega
      have HSg := Lib.hid (fun X X3 (h : Below W1.heap.size W1 X) (hg : (X.alloc (.cells #[.string (x.name ++ ⟨#[61]⟩ ++ ⟨(quoteL x.text.data.toList).toArray⟩)] 9)).grownBy X3 (Value.ownBlock u3)) => show X3.cell? ⟨wr.heap.size, 0, none⟩ = some (.string x.name) ∧ X3.cell? ⟨wr.heap.size, 1, none⟩ = some (.string x.text) from by
        have hs := h.size
        have hlt := HQ.out.lt
        have h1 := HS.out _ (h.alloc hs (.cells #[.string (x.name ++ ⟨#[61]⟩ ++ ⟨(quoteL x.text.data.toList).toArray⟩)] 9))
        exact ⟨(grown_cell hg (by simp; omega) hnb 0).trans h1.1, (grown_cell hg (by simp; omega) hnb 1).trans h1.2⟩)
      have CQ := Lib.hid (fun X (h : Below W1.heap.size W1 X) => show Calls Tryd.prog 56 #[.string x.text] X (fun e' w' => e' = .returned (.string ⟨(quoteL x.text.data.toList).toArray⟩) ∧ Below W1.heap.size W1 w') from (lQuoted x.text X (by omega)).mono (fun e' w' ⟨h1, h2⟩ => ⟨h1, h.trans (h2.mono h.size)⟩))
      have hql : (quoteL x.text.data.toList).length ≤ 300 := by
        have := qs_length x.text.data.toList
        have h2 : x.text.data.toList.length = x.text.size := by simp
        unfold quoteL
        simp only [List.length_append, List.length_cons, List.length_nil]
        omega
      refine wp_region_held_drew (S := (fun w' => w'.cell? ⟨wr.heap.size, 0, none⟩ = some (.string x.name) ∧ w'.cell? ⟨wr.heap.size, 1, none⟩ = some (.string x.text))) (by kernel_rfl) ?_ (fun hHeld => ?_)
      · exact HS.out _ (Below.drew hX)
      (refine held_take 0 15 ?_ rfl (by kernel_rfl) (by kernel_rfl) (by kernel_rfl) (by kernel_rfl) (fun _ _ _ h => h) (by kernel_rfl) ?_ (by assumption) ?_; rotate_left; (intro w hSw; clear hSw; go_simp); (try with_reducible rfl); simp only [List.set_cons_zero, List.set_cons_succ])
      (refine held_take 1 16 ?_ rfl (by kernel_rfl) (by kernel_rfl) (by kernel_rfl) (by kernel_rfl) (fun _ _ _ h => h) (by kernel_rfl) ?_ (by assumption) ?_; rotate_left; (intro w hSw; clear hSw; go_simp); (try with_reducible rfl); simp only [List.set_cons_zero, List.set_cons_succ])
      (refine held_take 2 17 (.string x.name) rfl (by kernel_rfl) (by kernel_rfl) (by kernel_rfl) (by kernel_rfl) (fun _ _ _ h => h) (by kernel_rfl) ?_ (by assumption) ?_; (intro w hSw; obtain ⟨g0, g1⟩ := hSw; go_simp); simp only [List.set_cons_zero, List.set_cons_succ])
      (refine held_take 4 19 ?_ rfl (by kernel_rfl) (by kernel_rfl) (by kernel_rfl) (by kernel_rfl) (fun _ _ _ h => h) (by kernel_rfl) ?_ (by assumption) ?_; rotate_left; (intro w hSw; clear hSw; go_simp); (try with_reducible rfl); simp only [List.set_cons_zero, List.set_cons_succ])
      (refine held_take 5 20 (.string x.text) rfl (by kernel_rfl) (by kernel_rfl) (by kernel_rfl) (by kernel_rfl) (fun _ _ _ h => h) (by kernel_rfl) ?_ (by assumption) ?_; (intro w hSw; obtain ⟨g0, g1⟩ := hSw; go_simp); simp only [List.set_cons_zero, List.set_cons_succ])
      (refine held_take 3 18 (.string (x.name ++ ⟨#[61]⟩)) rfl (by kernel_rfl) (by kernel_rfl) (by kernel_rfl) (by kernel_rfl) (fun _ _ _ h => h) (by kernel_rfl) ?_ (by assumption) ?_; (intro w hSw; clear hSw; go_simp; omega); simp only [List.set_cons_zero, List.set_cons_succ])
      (refine wpAnyH_ready (rs := [6]) (by kernel_rfl) (by simp) (.cons rfl (fun K hK => ?_) .nil))
      rw [if_pos (by kernel_rfl)]
      go_simp
      refine (CQ.out _ (Below.drew hX)).mono ?_
      rintro e' X2 ⟨rfl, hA1⟩
      dsimp only
      refine hK.out _ _ (HS.out _ hA1) (fun hHeld => ?_)
      clear hK K
      (try simp only [Act.put, List.setIfInBounds_toArray, List.set_cons_zero, List.set_cons_succ])
      (refine held_take 7 22 (.string (x.name ++ ⟨#[61]⟩ ++ ⟨(quoteL x.text.data.toList).toArray⟩)) rfl (by kernel_rfl) (by kernel_rfl) (by kernel_rfl) (by kernel_rfl) (fun _ _ _ h => h) (by kernel_rfl) ?_ (by assumption) ?_; (intro w hSw; clear hSw; go_simp; omega); simp only [List.set_cons_zero, List.set_cons_succ])
      (refine wpAnyH_ready (rs := [8]) (by kernel_rfl) (by simp) (.cons rfl (fun K hK => ?_) .nil))
      rw [if_pos (by kernel_rfl)]
      go_simp
      refine hK.out _ _ (HS.out _ (Below.alloc hA1 hA1.size _)) (fun hHeld => ?_)
      clear hK K
      (try simp only [Act.put, List.setIfInBounds_toArray, List.set_cons_zero, List.set_cons_succ])
      (refine wpAnyH_ready (rs := [9]) (by kernel_rfl) (by simp) (.cons rfl (fun K hK => ?_) .nil))
      rw [if_pos (by kernel_rfl)]
      refine wp_append_src _ _ _ _ rfl w.heap.size 9 i0 _ 1 16 Tryd.underlying78 hi hz0 hz1 hz2 rfl (by decide) _ _ _ rfl (ownsRow_keep HO2.out (Below.alloc hA1 hA1.size _)) _ 1 [.string (x.name ++ ⟨#[61]⟩ ++ ⟨(quoteL x.text.data.toList).toArray⟩)] rfl (.inr ⟨_, 1, rfl, rfl, one_at X2 _ _ X2.heap.size rfl⟩) (by intro u hu; simp at hu; subst hu; rfl) (by unfold maxLen; omega) (by omega) (Nat.le_trans hsz1 (Nat.le_trans hA1.size (by simp))) ?_
      intro v3 w3 hown3 hgr3 _
      have hS4 := HSg.out X2 w3 hA1 hgr3
      have hA5 := below_app ((HB2.out.trans (hA1.mono hsz1)).alloc (Nat.le_trans hsz1 hA1.size) _) (ownsRow_keep HO2.out (Below.alloc hA1 hA1.size _)) hgr3 (Nat.le_refl _) (Nat.le_trans hsz1 (Nat.le_trans hA1.size (by simp)))
      refine hK.out _ _ hS4 (fun hHeld => ?_)
      clear hK K
      (try simp only [Act.put, List.setIfInBounds_toArray, List.set_cons_zero, List.set_cons_succ])
      (refine held_take 10 3 ?_ rfl (by kernel_rfl) (by kernel_rfl) (by kernel_rfl) (by kernel_rfl) (fun _ _ _ h => h) (by kernel_rfl) ?_ (by assumption) ?_; rotate_left; (intro w hSw; clear hSw; go_simp); (try with_reducible rfl); simp only [List.set_cons_zero, List.set_cons_succ])
      refine wpAnyH_done (by kernel_rfl) ?_ _
      all_goals go_wp2
      all_goals refine ⟨⟨k + 1, by omega, by go_num, ?_, hA5⟩, by simp [intOf]; omega⟩
      all_goals
        rw [Hstep.out]
        unfold OwnS
        rw [List.length_append, List.map_append]
        exact hown3
    · have hk' : k = l.length := by omega
      subst hk'
      rw [List.take_length] at HO
      have HJr : Hid (textB l = ⟨#[123]⟩ ++ ⟨(Lib.join (l.map fun x => (partT x).data.toList) [44]).toArray⟩ ++ ⟨#[125]⟩) := rfl
      have HJc : ∀ X v, OwnS w.heap.size X v (l.map partT) → Calls Tryd.prog 57 #[v, .string ⟨#[44]⟩] X fun e w' => e = .returned (.string ⟨(Lib.join (l.map fun x => (partT x).data.toList) [44]).toArray⟩) ∧ Below X.heap.size X w' := by
        intro X v hO
        rcases hO.2 with ⟨rfl, h0⟩ | ⟨g, cap, cur, rfl, hg, hh, hc1, hc2, hc3, hc4⟩
        · have hl0 : l = [] := List.eq_nil_of_length_eq_zero (by simpa using h0)
          subst hl0
          exact (Tryd.strings_Join_none none 0 ⟨#[44]⟩ X).mono fun e w' ⟨h1, h2⟩ => ⟨by rw [h1]; rfl, by rw [h2]; exact Below.refl _ _⟩
        · have hcell := World.ownsRow.cells hO (g := g) rfl
          have hlt := (World.ownsRow.lt hO g rfl).2
          have hlen : (l.map partT).length = l.length := by simp
          have := Tryd.strings_Join g 0 cap (l.map partT) ⟨#[44]⟩ X (fun j x hx => by
            have h1 := hcell j (.string x) (by rw [List.getElem?_map, hx]; rfl)
            have e0 : (⟨g, 0, none⟩ : Addr).add j = ⟨g, 0 + j, none⟩ := by unfold Addr.add; split <;> simp
            rw [e0] at h1; exact h1) hlt (by rw [hlen]; omega) hc1 (by
              have := HJ.out
              rw [List.map_map]
              exact Nat.le_trans this (by decide))
          rw [List.map_map] at this
          exact this
      have HJ2 := Lib.hid (HJc _ _ HO.out); clear HJc
      have hs1 : (⟨(Lib.join (l.map fun x => (partT x).data.toList) [44]).toArray⟩ : ByteArray).size ≤ 100000 := by
        have e2 : (⟨(Lib.join (l.map fun x => (partT x).data.toList) [44]).toArray⟩ : ByteArray).size = (Lib.join (l.map fun x => (partT x).data.toList) [44]).length := by simp [ByteArray.size]
        rw [e2]; exact HJ.out
      obtain ⟨J, hJ⟩ : ∃ J : ByteArray, ⟨(Lib.join (l.map fun x => (partT x).data.toList) [44]).toArray⟩ = J := ⟨_, rfl⟩
      rw [hJ] at HJ2 HJr hs1
      clear hJ
      have r1 : ∀ w, (binOp BinOp.add 9 (.string ⟨#[123]⟩) (.string J)).run Tryd.prog w = .ok (.string (⟨#[123]⟩ ++ J)) w := fun w => concat_run _ _ w (by have e : (⟨#[123]⟩ : ByteArray).size = 1 := rfl; rw [e]; omega)
      have r2 : ∀ w, (binOp BinOp.add 9 (.string (⟨#[123]⟩ ++ J)) (.string ⟨#[125]⟩)).run Tryd.prog w = .ok (.string (⟨#[123]⟩ ++ J ++ ⟨#[125]⟩)) w := fun w => concat_run _ _ w (by
        have e : (⟨#[123]⟩ : ByteArray).size = 1 := rfl
        have e2 : (⟨#[125]⟩ : ByteArray).size = 1 := rfl
        rw [ByteArray.size_append, e, e2]; omega)
      go_wp2_with (go_at_call 57; refine HJ2.out.mono ?_; rintro e w2 ⟨rfl, hb⟩; have HB2 := Lib.hid (HB.out.trans (hb.mono hsb)); clear hb)
      go_ret
      exact ⟨ret_string HJr.out.symm, HB2.out⟩
end Go.Proofs.YtgmdlnobajmjfaaDoor
