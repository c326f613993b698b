/- Told times (without results) copied. -/
import Derived.Test.YtfmolimnnheaoaaBb7
namespace Go.Proofs.Ytfmolimnnheaoaa
open Go.RowKit
set_option linter.unusedSimpArgs false
set_option linter.unusedVariables false
open Go.Maps

theorem cloneR0 (w : World) : Calls Try.prog 48 #[.slice none 0 0] w fun e' w' => e' = .returned (.slice none 0 0) ∧ w' = w := by
  have hnil : ∀ w, (binOp .eql 34 (.slice none 0 0) (.slice none 0 0)).run Try.prog w = .ok (.bool true) w := fun w => Lib.run_eql_slice_nil (P := Try.prog) w 34 _ none 0 0 0 0 Try.underlying34
  go_enter Try.func48, Try.ntmps48; (try simp only [List.append_eq, List.cons_append, List.nil_append])
  go_wp2
  go_ret
  exact ⟨rfl, rfl⟩
theorem app_told {ops : Array Oper} {rest : List Oper} {o : Oper} {a : Act} {w : World} {Q : Exit → Act → World → Prop} (hgd : o.guard = none) (s x : Operand)
    (ho : o.op = .call { callee := .builtin .append, args := #[s, x], argTypes := #[41, 41] }) (base : Nat) (v : Value) (l : List Int) (i : Int) (g : Nat)
    (hs : a.eval s = v) (hx : a.eval x = .slice (some ⟨g, 0, none⟩) 1 1) (hown : OwnT base w v l) (hc : w.cell? ⟨g, 0, none⟩ = some (.int .i64 i)) (hc1 : w.cell? ⟨g, 1, none⟩ = some (.slice none 0 0)) (hl : l.length ≤ 1000000) (hbase : base ≤ w.heap.size)
    (h : ∀ v' w', OwnT base w' v' (l ++ [i]) → w.grownBy w' v.ownBlock → (v'.ownBlock = v.ownBlock ∨ v'.ownBlock = some w.heap.size) → wpList Try.prog ops Q rest (a.put o.dst v') w') :
    wpList Try.prog ops Q (o :: rest) a w := by
  obtain ⟨i0, hi, hz0, hz1, hz2⟩ := info_parts infoTold
  refine wpList_append_src _ hgd s x 41 ho base 36 i0 (.agg #[.int .i64 0, .slice none 0 0]) 2 32 Try.underlying41 hi hz0 hz1 hz2 rfl (by decide) v l.length _ hs hown _ 1 (toldC i) hx (.inr ⟨⟨g, 0, none⟩, 1, rfl, rfl, ?_⟩) (by intro u hu; simp [toldC] at hu; rcases hu with rfl | rfl <;> rfl) (by unfold maxLen; omega) (by omega) hbase ?_
  · intro j u hj
    match j, hj with
    | 0, hj => simp [toldC] at hj; subst hj; simpa [Addr.add] using hc
    | 1, hj => simp [toldC] at hj; subst hj; simpa [Addr.add] using hc1
    | j + 2, hj => simp [toldC] at hj
  · intro v' w' h1 h2 h3
    refine h v' w' ?_ h2 h3
    unfold OwnT
    rw [List.length_append, List.map_append, List.flatten_append]
    simpa using h1
theorem OwnT.app {base B : Nat} {a w w' : World} {v : Value} {l : List Int} (h : Below B a w) (ho : OwnT base w v l) {o : Obj} (hg : (w.alloc o).grownBy w' v.ownBlock) (hB : B ≤ base) (hs : B ≤ w.heap.size) : Below B a w' :=
  below_app (h.alloc hs o) (ownsRow_keep ho ((Below.refl _ _).alloc (Nat.le_refl _) o)) hg hB (by simp; omega)
set_option maxRecDepth 100000 in
set_option maxHeartbeats 4000000 in
theorem bCopied {n : Nat} {v : Value} {l : List Int} {W : World} (hl : IsT n W v l) (hn : n ≤ W.heap.size) (hlen : l.length ≤ 100000) :
    Calls Try.prog 35 #[v] W fun e w' => ∃ v', e = .returned v' ∧ OwnT W.heap.size w' v' l ∧ Below W.heap.size W w' := by
  obtain ⟨p, cap, rfl, hcap1, hcap2⟩ := hl.open
  have Hl := Lib.hid hl
  have Hn := Lib.hid hn
  clear hl hn
  go_enter Try.func35, Try.ntmps35; (try simp only [List.append_eq, List.cons_append, List.nil_append])
  go_wp2
  go_loopw [3, 10] (fun v j wr => ∃ k : Nat, k ≤ l.length ∧ j = .int .i64 k ∧ OwnT W.heap.size wr v (l.take k) ∧ Below W.heap.size W wr) (fun _ j _ => l.length - (intOf j).toNat)
  case atStart => exact ⟨0, Nat.zero_le _, rfl, by rw [List.take_zero]; exact OwnT.nil, Below.refl _ _⟩
  case round =>
    obtain ⟨k, hk, rfl, hown, hb⟩ := hrel
    have Hown := Lib.hid hown; have HB := Lib.hid hb
    clear hown hb
    by_cases hlt : k < l.length
    · have hki : (k : Int) < (l.length : Int) := by omega
      obtain ⟨x, hx⟩ : ∃ x, l[k]? = some x := ⟨_, List.getElem?_eq_getElem hlt⟩
      obtain ⟨bb, off, rfl, hbb, d0, d1⟩ := (Hl.out.mono (HB.out.mono Hn.out) (Nat.le_refl _)).get hx
      have hn1 := Hn.out
      have hsz := HB.out.size
      have hbw : bb < wr.heap.size := by omega
      have Htk := Lib.hid (show l.take (k + 1) = l.take k ++ [x] by rw [List.take_add_one, hx]; rfl)
      have htl : (l.take k).length ≤ 1000000 := by rw [List.length_take]; omega
      clear hx
      go_wp2_with fail
      refine (cloneR0 _).mono ?_
      rintro e w1 ⟨rfl, rfl⟩
      go_wp2
      have HBk := Lib.hid (Blk.new wr [.int .i64 x, .slice none 0 0] 36)
      have HBY := Lib.hid (HB.out.alloc hsz (.cells #[.int .i64 x, .slice none 0 0] 36))
      have HOY := Lib.hid (Hown.out.keep ((Below.refl _ _).alloc (Nat.le_refl _) (.cells #[.int .i64 x, .slice none 0 0] 36)))
      obtain ⟨Y, hY⟩ : ∃ z, wr.alloc (.cells #[.int .i64 x, .slice none 0 0] 36) = z := ⟨_, rfl⟩
      rw [show (wr.alloc (.cells ([.int .i64 x, .slice none 0 0] : List Value).toArray 36)) = Y from hY] at HBk
      rw [hY] at HBY HOY ⊢
      clear hY
      obtain ⟨gB, hgB⟩ : ∃ z, wr.heap.size = z := ⟨_, rfl⟩
      rw [hgB] at HBk ⊢
      clear hgB
      go_loopw [21] (fun j w => j = .int .i64 0 ∧ w = Y) (fun _ _ => 0)
      case atStart => exact ⟨rfl, rfl⟩
      case round =>
        obtain ⟨rfl, hwY⟩ := hrel
        subst hwY
        have k0 : wr.cell? ⟨gB, 0, none⟩ = some (.int .i64 x) := HBk.out.cell 0 _ rfl
        have k1 : wr.cell? ⟨gB, 1, none⟩ = some (.slice none 0 0) := HBk.out.cell 1 _ rfl
        have hgy := HBk.out.lt
        go_wp2_with (at_builtin; refine app_told rfl _ _ rfl W.heap.size _ (l.take k) x wr.heap.size rfl rfl (HOY.out.keep ((Below.refl _ _).alloc (Nat.le_refl _) _)) (by go_simp) (by go_simp) htl (by have := HBY.out.size; simp; omega) ?_)
        intro v' w4 hown4 hg4 _
        have hb4 := OwnT.app HBY.out HOY.out hg4 (Nat.le_refl _) HBY.out.size
        have Hown4 := Lib.hid hown4; have Hb4 := Lib.hid hb4
        clear hown4 hg4 hb4
        go_wp2
        exact ⟨⟨k + 1, by omega, by go_num, by rw [Htk.out]; exact Hown4.out, Hb4.out⟩, by simp [intOf]; omega⟩
    · have hk' : k = l.length := by omega
      subst hk'
      have hki : ¬ ((l.length : Int) < (l.length : Int)) := by omega
      rw [List.take_length] at Hown
      go_wp2
      go_ret
      exact ⟨_, rfl, Hown.out, HB.out⟩
end Go.Proofs.Ytfmolimnnheaoaa
