/- The reference's show: match, kid (printed by wip/gen_rshow.py). -/
import Derived.Test.YtobelmipjanibaaDoorRs0
import Derived.Test.YtobelmipjanibaaDoorRq1
import Derived.Test.YtobelmipjanibaaDoorStl
namespace Go.Proofs.YtobelmipjanibaaDoor
open Go.RowKit
set_option linter.unusedSimpArgs false
set_option linter.unusedVariables false

theorem matB_facts {m : Mat} (h : matB m = true) : (m.kind = 1 ∨ m.kind = 2) ∧ m.name.size ≤ 24 ∧ m.text.size ≤ 64 := by
  simp only [matB, Bool.and_eq_true, decide_eq_true_eq] at h
  have h1 := name_length h.1.2
  have : m.name.data.toList.length = m.name.size := by simp
  have hk : (m.kind = 1 ∨ m.kind = 2) := by simpa using h.1.1
  exact ⟨hk, by omega, by omega⟩
theorem checkMats_ok' {l : List Mat} (h : checkMats l = 0) : l.length ≤ 8 ∧ l.all matB = true := by
  have h8 : ¬ 8 < l.length := fun h' => by rw [checkMats_long h'] at h; cases h
  refine ⟨by omega, ?_⟩
  cases e : l.all matB with
  | true => rfl
  | false => simp [checkMats, h8, e] at h
theorem all_take {α : Type} {l : List α} {p : α → Bool} (h : l.all p = true) (k : Nat) : (l.take k).all p = true :=
  List.all_eq_true.2 fun x hx => List.all_eq_true.1 h x (List.mem_of_mem_take hx)
theorem ba_of {S : ByteArray} {l : List UInt8} (h : S.data.toList = l) : S = ⟨l.toArray⟩ := by subst h; rfl
theorem ba_size {S : ByteArray} {l : List UInt8} (h : S.data.toList = l) : S.size = l.length := by subst h; simp
theorem ba_add (a b : ByteArray) : (a ++ b).data.toList = a.data.toList ++ b.data.toList := by simp [ByteArray.data_append]
theorem ba_lit (l : List UInt8) : (⟨l.toArray⟩ : ByteArray).data.toList = l := rfl
theorem ba_litsize (l : List UInt8) : (⟨l.toArray⟩ : ByteArray).size = l.length := rfl

set_option maxRecDepth 100000 in
set_option maxHeartbeats 8000000 in
theorem rMatch8 (l : List Mat) (v : Value) (n : Nat) (w : World) (hn : n ≤ w.heap.size) (hv : IsMats n w v l) (hok : checkMats l = 0) :
    Calls Tryd.prog 54 #[v] w fun e w' => e = .returned (.string ⟨(matsL l).toArray⟩) ∧ Below w.heap.size w w' := by
  obtain ⟨p, cap, rfl, _, _, hlm⟩ := hv.open
  unfold maxLen at hlm
  obtain ⟨h8, hall⟩ := checkMats_ok' hok
  go_enter Tryd.func54, Tryd.ntmps54; (try simp only [List.append_eq, List.cons_append, List.nil_append])
  by_cases h0 : l.length = 0
  · have hl : l = [] := List.eq_nil_of_length_eq_zero h0
    subst hl
    go_wp2
    go_ret
    exact ⟨ret_string rfl, Below.refl _ _⟩
  · have h0' : ((l.length : Int) == 0) = false := by rw [beq_eq_false_iff_ne]; omega
    have HM : Hid (matsL l = matsUp l ++ [125]) := by show _ = _; unfold matsL; rw [if_neg (fun e => h0 (by rw [e]; rfl))]
    have hb0 : ¬ (l.length : Int) = 0 := by omega
    go_wp2
    go_loopw [3, 4, 5] (fun v i d wr => ∃ (k : Nat) (S : ByteArray), k ≤ l.length ∧ i = .int .i64 k ∧ v = .string S ∧ S.data.toList = (if k = 0 then [123] else matsUp (l.take k)) ∧ (∃ x, d = x) ∧ Below w.heap.size w wr) (fun _ i _ _ => l.length - (intOf i).toNat)
    case atStart => exact ⟨0, ⟨#[123]⟩, Nat.zero_le _, rfl, rfl, rfl, ⟨_, rfl⟩, Below.refl _ _⟩
    case round =>
      obtain ⟨k, S, hk, rfl, rfl, hS, ⟨d, rfl⟩, hb⟩ := hrel
      have Hb := Lib.hid hb; clear hb
      have hsz := ba_size hS
      have hup := matsUp_length (l.take k) (all_take hall k)
      have hkl : (l.take k).length ≤ 8 := by rw [List.length_take]; omega
      have hS3 : S.size ≤ 3000 := by
        rw [hsz]; split
        · simp
        · omega
      clear hup hkl hsz
      by_cases hlt : k < l.length
      · obtain ⟨b, off, rfl, hbn, g1, g2, g3, hs1, hs2⟩ := (hv.mono (Hb.out.mono hn) (Nat.le_refl n)).get hlt
        have hstep := matsUp_step l k hlt
        have hmB : matB l[k] = true := List.all_eq_true.1 hall _ (List.getElem_mem hlt)
        obtain ⟨hkind, hname, htext⟩ := matB_facts hmB
        have Hst := Lib.hid hstep; clear hstep
        have Hv := Lib.hid hv; clear hv
        have Hall := Lib.hid hall; clear hall
        clear hmB hok
        generalize l[k] = m at *
        obtain ⟨S1, hS1⟩ : ∃ S1 : ByteArray, S1 = if k = 0 then S else S ++ ⟨#[44, 32]⟩ := ⟨_, rfl⟩
        obtain ⟨E1, hE1⟩ : ∃ E1 : ByteArray, E1 = if m.kind = 2 then ⟨#[33, 61]⟩ else ⟨#[61]⟩ := ⟨_, rfl⟩
        have HR : Hid ((S1 ++ m.name ++ E1 ++ ⟨(quoteL m.text.data.toList).toArray⟩ : ByteArray).data.toList = matsUp (l.take (k + 1))) := by
          show _ = _
          rw [Hst.out, ba_add, ba_add, ba_add, ba_lit, hS1, hE1]
          unfold matL eqL
          by_cases hk0 : k = 0
          · subst hk0
            rcases hkind with h | h <;> simp [h, hS, matsUp]
          · have hS' : S.data.toList = matsUp (l.take k) := by rw [hS, if_neg hk0]
            rcases hkind with h | h <;> simp [h, hS', hk0, ByteArray.data_append]
        have hS1s : S1.size ≤ 3002 := by
          rw [hS1]; split
          · omega
          · rw [ByteArray.size_append]; have : (⟨#[44, 32]⟩ : ByteArray).size = 2 := rfl
            omega
        have hE1s : E1.size ≤ 2 := by rw [hE1]; split <;> decide
        have HS1 := Lib.hid hS1; clear hS1
        have HE1 := Lib.hid hE1; clear hE1
        have HS0 := Lib.hid hS; clear hS
        have hbw : b < wr.heap.size := Nat.lt_of_lt_of_le hbn (Nat.le_trans hn Hb.out.size)
        have hql : (quoteL m.text.data.toList).length ≤ 300 := by
          have := quoteL_length m.text.data.toList
          have h2 : m.text.data.toList.length = m.text.size := by simp
          omega
        obtain ⟨Q1, hQ1⟩ : ∃ Q1 : ByteArray, ⟨(quoteL m.text.data.toList).toArray⟩ = Q1 := ⟨_, rfl⟩
        have hQ1s : Q1.size ≤ 300 := by rw [← hQ1]; exact hql
        have CQ := Lib.hid (fun X (h : Below wr.heap.size wr X) => show Calls Tryd.prog 79 #[.string m.text] X (fun e' w' => e' = .returned (.string Q1) ∧ Below wr.heap.size wr w') from (rQuote m.text X (by omega)).mono (fun e' w' ⟨h1, h2⟩ => ⟨by rw [h1, hQ1], h.trans (h2.mono h.size)⟩))
        rw [hQ1] at HR
        clear hQ1 hql
        by_cases hk0 : k = 0
        · subst hk0
          obtain rfl : S1 = S := by have := HS1.out; rwa [if_pos rfl] at this
          have g1 : wr.cell? ⟨b, off, none⟩ = some (.int .i64 m.kind) := by simpa using g1
          have g2 : wr.cell? ⟨b, off + 1, none⟩ = some (.string m.name) := by simpa using g2
          have g3 : wr.cell? ⟨b, off + 2, none⟩ = some (.string m.text) := by simpa using g3
          rcases hkind with h | h
          · obtain rfl : E1 = (⟨#[61]⟩ : ByteArray) := by have := HE1.out; rw [if_neg (by omega)] at this; exact this
            have hkd : (m.kind == 2) = false := by simp; omega
            clear h
            go_upto_region 12 with fail
            have hX := Below.refl wr.heap.size wr
            have HS := Lib.hid (fun X (h : Below wr.heap.size wr X) => show X.cell? ⟨b, off + 1, none⟩ = some (.string m.name) ∧ X.cell? ⟨b, off + 2, none⟩ = some (.string m.text) from ⟨(h.cell (p := ⟨b, off + 1, none⟩) hbw).trans g2, (h.cell (p := ⟨b, off + 2, none⟩) hbw).trans g3⟩)
            have HG2 := Lib.hid g2; have HG3 := Lib.hid g3
            clear g1 g2 g3
            refine wp_region_held_drew (S := (fun X => X.cell? ⟨b, off + 1, none⟩ = some (.string m.name) ∧ X.cell? ⟨b, off + 2, none⟩ = some (.string m.text))) (by kernel_rfl) ?_ (fun hHeld => ?_)
            · exact HS.out _ (Below.drew hX)
            (refine held_take 0 25 ?_ rfl (by kernel_rfl) (by kernel_rfl) (by kernel_rfl) (by kernel_rfl) (fun _ _ _ h => h) (by kernel_rfl) ?_ (by assumption) ?_; rotate_left; (intro w hSw; clear hSw; go_simp); (try with_reducible rfl); simp only [List.set_cons_zero, List.set_cons_succ])
            (refine held_take 1 26 ?_ rfl (by kernel_rfl) (by kernel_rfl) (by kernel_rfl) (by kernel_rfl) (fun _ _ _ h => h) (by kernel_rfl) ?_ (by assumption) ?_; rotate_left; (intro w hSw; clear hSw; go_simp); (try with_reducible rfl); simp only [List.set_cons_zero, List.set_cons_succ])
            (refine held_take 2 27 ?_ rfl (by kernel_rfl) (by kernel_rfl) (by kernel_rfl) (by kernel_rfl) (fun _ _ _ h => h) (by kernel_rfl) ?_ (by assumption) ?_; rotate_left; (intro w hSw; clear hSw; go_simp); (try with_reducible rfl); simp only [List.set_cons_zero, List.set_cons_succ])
            (refine held_take 3 28 ?_ rfl (by kernel_rfl) (by kernel_rfl) (by kernel_rfl) (by kernel_rfl) (fun _ _ _ h => h) (by kernel_rfl) ?_ (by assumption) ?_; rotate_left; (intro w hSw; clear hSw; go_simp); (try with_reducible rfl); simp only [List.set_cons_zero, List.set_cons_succ])
            (refine held_take 4 29 ?_ rfl (by kernel_rfl) (by kernel_rfl) (by kernel_rfl) (by kernel_rfl) (fun _ _ _ h => h) (by kernel_rfl) ?_ (by assumption) ?_; rotate_left; (intro w hSw; clear hSw; go_simp); (try with_reducible rfl); simp only [List.set_cons_zero, List.set_cons_succ])
            (refine held_take 5 30 (.string m.name) rfl rfl (by kernel_rfl) (by kernel_rfl) (by kernel_rfl) (fun _ _ _ h => h) (by kernel_rfl) ?_ (by assumption) ?_; (intro w hSw; obtain ⟨q0, q1⟩ := hSw; go_simp); simp only [List.set_cons_zero, List.set_cons_succ])
            (refine held_take 6 31 (.string (S1 ++ m.name)) rfl rfl (by kernel_rfl) (by kernel_rfl) (by kernel_rfl) (fun _ _ _ h => h) (by kernel_rfl) ?_ (by assumption) ?_; (intro w hSw; clear hSw; go_simp; (try simp only [ByteArray.size_append]); omega); simp only [List.set_cons_zero, List.set_cons_succ])
            (refine held_take 7 32 ?_ rfl (by kernel_rfl) (by kernel_rfl) (by kernel_rfl) (by kernel_rfl) (fun _ _ _ h => h) (by kernel_rfl) ?_ (by assumption) ?_; rotate_left; (intro w hSw; clear hSw; go_simp); (try with_reducible rfl); simp only [List.set_cons_zero, List.set_cons_succ])
            (refine held_take 8 33 (.string (S1 ++ m.name ++ (⟨#[61]⟩ : ByteArray))) rfl rfl (by kernel_rfl) (by kernel_rfl) (by kernel_rfl) (fun _ _ _ h => h) (by kernel_rfl) ?_ (by assumption) ?_; (intro w hSw; clear hSw; go_simp; (try simp only [ByteArray.size_append]); omega); simp only [List.set_cons_zero, List.set_cons_succ])
            (refine held_take 9 34 ?_ rfl (by kernel_rfl) (by kernel_rfl) (by kernel_rfl) (by kernel_rfl) (fun _ _ _ h => h) (by kernel_rfl) ?_ (by assumption) ?_; rotate_left; (intro w hSw; clear hSw; go_simp); (try with_reducible rfl); simp only [List.set_cons_zero, List.set_cons_succ])
            (refine held_take 10 35 ?_ rfl (by kernel_rfl) (by kernel_rfl) (by kernel_rfl) (by kernel_rfl) (fun _ _ _ h => h) (by kernel_rfl) ?_ (by assumption) ?_; rotate_left; (intro w hSw; clear hSw; go_simp); (try with_reducible rfl); simp only [List.set_cons_zero, List.set_cons_succ])
            (refine held_take 11 36 ?_ rfl (by kernel_rfl) (by kernel_rfl) (by kernel_rfl) (by kernel_rfl) (fun _ _ _ h => h) (by kernel_rfl) ?_ (by assumption) ?_; rotate_left; (intro w hSw; clear hSw; go_simp); (try with_reducible rfl); simp only [List.set_cons_zero, List.set_cons_succ])
            (refine held_take 12 37 ?_ rfl (by kernel_rfl) (by kernel_rfl) (by kernel_rfl) (by kernel_rfl) (fun _ _ _ h => h) (by kernel_rfl) ?_ (by assumption) ?_; rotate_left; (intro w hSw; clear hSw; go_simp); (try with_reducible rfl); simp only [List.set_cons_zero, List.set_cons_succ])
            (refine held_take 13 38 (.string m.text) rfl rfl (by kernel_rfl) (by kernel_rfl) (by kernel_rfl) (fun _ _ _ h => h) (by kernel_rfl) ?_ (by assumption) ?_; (intro w hSw; obtain ⟨q0, q1⟩ := hSw; go_simp); simp only [List.set_cons_zero, List.set_cons_succ])
            (refine wpAnyH_ready (rs := [14]) (by kernel_rfl) (by simp) (.cons rfl (fun K hK => ?_) .nil))
            rw [if_pos (by kernel_rfl)]
            go_simp
            refine (CQ.out _ (Below.drew hX)).mono ?_
            rintro e' X2 ⟨rfl, hA1⟩
            dsimp only
            refine hK.out _ _ (HS.out _ hA1) (fun hHeld => ?_)
            clear hK K
            (try simp only [Act.put, List.setIfInBounds_toArray, List.set_cons_zero, List.set_cons_succ])
            (refine held_take 15 40 (.string (S1 ++ m.name ++ (⟨#[61]⟩ : ByteArray) ++ Q1)) rfl rfl (by kernel_rfl) (by kernel_rfl) (by kernel_rfl) (fun _ _ _ h => h) (by kernel_rfl) ?_ (by assumption) ?_; (intro w hSw; clear hSw; go_simp; (try simp only [ByteArray.size_append]); omega); simp only [List.set_cons_zero, List.set_cons_succ])
            (refine held_take 16 3 ?_ rfl (by kernel_rfl) (by kernel_rfl) (by kernel_rfl) (by kernel_rfl) (fun _ _ _ h => h) (by kernel_rfl) ?_ (by assumption) ?_; rotate_left; (intro w hSw; clear hSw; go_simp); (try with_reducible rfl); simp only [List.set_cons_zero, List.set_cons_succ])
            refine wpAnyH_done (by kernel_rfl) ?_ _
            all_goals go_wp2
            all_goals exact ⟨⟨0 + 1, _, by omega, by go_num, rfl, by rw [HR.out, if_neg (by omega)], ⟨_, rfl⟩, Hb.out.trans (hA1.mono Hb.out.size)⟩, by simp [intOf]; omega⟩
          · obtain rfl : E1 = (⟨#[33, 61]⟩ : ByteArray) := by have := HE1.out; rw [if_pos h] at this; exact this
            have hkd : (m.kind == 2) = true := by simp; omega
            clear h
            go_upto_region 12 with fail
            have hX := Below.refl wr.heap.size wr
            have HS := Lib.hid (fun X (h : Below wr.heap.size wr X) => show X.cell? ⟨b, off + 1, none⟩ = some (.string m.name) ∧ X.cell? ⟨b, off + 2, none⟩ = some (.string m.text) from ⟨(h.cell (p := ⟨b, off + 1, none⟩) hbw).trans g2, (h.cell (p := ⟨b, off + 2, none⟩) hbw).trans g3⟩)
            have HG2 := Lib.hid g2; have HG3 := Lib.hid g3
            clear g1 g2 g3
            refine wp_region_held_drew (S := (fun X => X.cell? ⟨b, off + 1, none⟩ = some (.string m.name) ∧ X.cell? ⟨b, off + 2, none⟩ = some (.string m.text))) (by kernel_rfl) ?_ (fun hHeld => ?_)
            · exact HS.out _ (Below.drew hX)
            (refine held_take 0 25 ?_ rfl (by kernel_rfl) (by kernel_rfl) (by kernel_rfl) (by kernel_rfl) (fun _ _ _ h => h) (by kernel_rfl) ?_ (by assumption) ?_; rotate_left; (intro w hSw; clear hSw; go_simp); (try with_reducible rfl); simp only [List.set_cons_zero, List.set_cons_succ])
            (refine held_take 1 26 ?_ rfl (by kernel_rfl) (by kernel_rfl) (by kernel_rfl) (by kernel_rfl) (fun _ _ _ h => h) (by kernel_rfl) ?_ (by assumption) ?_; rotate_left; (intro w hSw; clear hSw; go_simp); (try with_reducible rfl); simp only [List.set_cons_zero, List.set_cons_succ])
            (refine held_take 2 27 ?_ rfl (by kernel_rfl) (by kernel_rfl) (by kernel_rfl) (by kernel_rfl) (fun _ _ _ h => h) (by kernel_rfl) ?_ (by assumption) ?_; rotate_left; (intro w hSw; clear hSw; go_simp); (try with_reducible rfl); simp only [List.set_cons_zero, List.set_cons_succ])
            (refine held_take 3 28 ?_ rfl (by kernel_rfl) (by kernel_rfl) (by kernel_rfl) (by kernel_rfl) (fun _ _ _ h => h) (by kernel_rfl) ?_ (by assumption) ?_; rotate_left; (intro w hSw; clear hSw; go_simp); (try with_reducible rfl); simp only [List.set_cons_zero, List.set_cons_succ])
            (refine held_take 4 29 ?_ rfl (by kernel_rfl) (by kernel_rfl) (by kernel_rfl) (by kernel_rfl) (fun _ _ _ h => h) (by kernel_rfl) ?_ (by assumption) ?_; rotate_left; (intro w hSw; clear hSw; go_simp); (try with_reducible rfl); simp only [List.set_cons_zero, List.set_cons_succ])
            (refine held_take 5 30 (.string m.name) rfl rfl (by kernel_rfl) (by kernel_rfl) (by kernel_rfl) (fun _ _ _ h => h) (by kernel_rfl) ?_ (by assumption) ?_; (intro w hSw; obtain ⟨q0, q1⟩ := hSw; go_simp); simp only [List.set_cons_zero, List.set_cons_succ])
            (refine held_take 6 31 (.string (S1 ++ m.name)) rfl rfl (by kernel_rfl) (by kernel_rfl) (by kernel_rfl) (fun _ _ _ h => h) (by kernel_rfl) ?_ (by assumption) ?_; (intro w hSw; clear hSw; go_simp; (try simp only [ByteArray.size_append]); omega); simp only [List.set_cons_zero, List.set_cons_succ])
            (refine held_take 7 32 ?_ rfl (by kernel_rfl) (by kernel_rfl) (by kernel_rfl) (by kernel_rfl) (fun _ _ _ h => h) (by kernel_rfl) ?_ (by assumption) ?_; rotate_left; (intro w hSw; clear hSw; go_simp); (try with_reducible rfl); simp only [List.set_cons_zero, List.set_cons_succ])
            (refine held_take 8 33 (.string (S1 ++ m.name ++ (⟨#[33, 61]⟩ : ByteArray))) rfl rfl (by kernel_rfl) (by kernel_rfl) (by kernel_rfl) (fun _ _ _ h => h) (by kernel_rfl) ?_ (by assumption) ?_; (intro w hSw; clear hSw; go_simp; (try simp only [ByteArray.size_append]); omega); simp only [List.set_cons_zero, List.set_cons_succ])
            (refine held_take 9 34 ?_ rfl (by kernel_rfl) (by kernel_rfl) (by kernel_rfl) (by kernel_rfl) (fun _ _ _ h => h) (by kernel_rfl) ?_ (by assumption) ?_; rotate_left; (intro w hSw; clear hSw; go_simp); (try with_reducible rfl); simp only [List.set_cons_zero, List.set_cons_succ])
            (refine held_take 10 35 ?_ rfl (by kernel_rfl) (by kernel_rfl) (by kernel_rfl) (by kernel_rfl) (fun _ _ _ h => h) (by kernel_rfl) ?_ (by assumption) ?_; rotate_left; (intro w hSw; clear hSw; go_simp); (try with_reducible rfl); simp only [List.set_cons_zero, List.set_cons_succ])
            (refine held_take 11 36 ?_ rfl (by kernel_rfl) (by kernel_rfl) (by kernel_rfl) (by kernel_rfl) (fun _ _ _ h => h) (by kernel_rfl) ?_ (by assumption) ?_; rotate_left; (intro w hSw; clear hSw; go_simp); (try with_reducible rfl); simp only [List.set_cons_zero, List.set_cons_succ])
            (refine held_take 12 37 ?_ rfl (by kernel_rfl) (by kernel_rfl) (by kernel_rfl) (by kernel_rfl) (fun _ _ _ h => h) (by kernel_rfl) ?_ (by assumption) ?_; rotate_left; (intro w hSw; clear hSw; go_simp); (try with_reducible rfl); simp only [List.set_cons_zero, List.set_cons_succ])
            (refine held_take 13 38 (.string m.text) rfl rfl (by kernel_rfl) (by kernel_rfl) (by kernel_rfl) (fun _ _ _ h => h) (by kernel_rfl) ?_ (by assumption) ?_; (intro w hSw; obtain ⟨q0, q1⟩ := hSw; go_simp); simp only [List.set_cons_zero, List.set_cons_succ])
            (refine wpAnyH_ready (rs := [14]) (by kernel_rfl) (by simp) (.cons rfl (fun K hK => ?_) .nil))
            rw [if_pos (by kernel_rfl)]
            go_simp
            refine (CQ.out _ (Below.drew hX)).mono ?_
            rintro e' X2 ⟨rfl, hA1⟩
            dsimp only
            refine hK.out _ _ (HS.out _ hA1) (fun hHeld => ?_)
            clear hK K
            (try simp only [Act.put, List.setIfInBounds_toArray, List.set_cons_zero, List.set_cons_succ])
            (refine held_take 15 40 (.string (S1 ++ m.name ++ (⟨#[33, 61]⟩ : ByteArray) ++ Q1)) rfl rfl (by kernel_rfl) (by kernel_rfl) (by kernel_rfl) (fun _ _ _ h => h) (by kernel_rfl) ?_ (by assumption) ?_; (intro w hSw; clear hSw; go_simp; (try simp only [ByteArray.size_append]); omega); simp only [List.set_cons_zero, List.set_cons_succ])
            (refine held_take 16 3 ?_ rfl (by kernel_rfl) (by kernel_rfl) (by kernel_rfl) (by kernel_rfl) (fun _ _ _ h => h) (by kernel_rfl) ?_ (by assumption) ?_; rotate_left; (intro w hSw; clear hSw; go_simp); (try with_reducible rfl); simp only [List.set_cons_zero, List.set_cons_succ])
            refine wpAnyH_done (by kernel_rfl) ?_ _
            all_goals go_wp2
            all_goals exact ⟨⟨0 + 1, _, by omega, by go_num, rfl, by rw [HR.out, if_neg (by omega)], ⟨_, rfl⟩, Hb.out.trans (hA1.mono Hb.out.size)⟩, by simp [intOf]; omega⟩
        · have hk1 : 0 < k := by omega
          have hS1' : S ++ ⟨#[44, 32]⟩ = S1 := by have := HS1.out; rw [if_neg hk0] at this; exact this.symm
          have b1 : ¬ 9223372036854775807 < S.size + 2 := by omega
          rcases hkind with h | h
          · obtain rfl : E1 = (⟨#[61]⟩ : ByteArray) := by have := HE1.out; rw [if_neg (by omega)] at this; exact this
            have hkd : (m.kind == 2) = false := by simp; omega
            clear h
            go_upto_region 12 with fail
            have HS1' := Lib.hid hS1'; clear hS1'
            have hX := Below.refl wr.heap.size wr
            have HS := Lib.hid (fun X (h : Below wr.heap.size wr X) => show X.cell? ⟨b, off + k * 3 + 1, none⟩ = some (.string m.name) ∧ X.cell? ⟨b, off + k * 3 + 2, none⟩ = some (.string m.text) from ⟨(h.cell (p := ⟨b, off + k * 3 + 1, none⟩) hbw).trans g2, (h.cell (p := ⟨b, off + k * 3 + 2, none⟩) hbw).trans g3⟩)
            have HG2 := Lib.hid g2; have HG3 := Lib.hid g3
            clear g1 g2 g3
            refine wp_region_held_drew (S := (fun X => X.cell? ⟨b, off + k * 3 + 1, none⟩ = some (.string m.name) ∧ X.cell? ⟨b, off + k * 3 + 2, none⟩ = some (.string m.text))) (by kernel_rfl) ?_ (fun hHeld => ?_)
            · exact HS.out _ (Below.drew hX)
            (refine held_take 0 25 ?_ rfl (by kernel_rfl) (by kernel_rfl) (by kernel_rfl) (by kernel_rfl) (fun _ _ _ h => h) (by kernel_rfl) ?_ (by assumption) ?_; rotate_left; (intro w hSw; clear hSw; go_simp); (try with_reducible rfl); simp only [List.set_cons_zero, List.set_cons_succ])
            (refine held_take 1 26 ?_ rfl (by kernel_rfl) (by kernel_rfl) (by kernel_rfl) (by kernel_rfl) (fun _ _ _ h => h) (by kernel_rfl) ?_ (by assumption) ?_; rotate_left; (intro w hSw; clear hSw; go_simp); (try with_reducible rfl); simp only [List.set_cons_zero, List.set_cons_succ])
            (refine held_take 2 27 ?_ rfl (by kernel_rfl) (by kernel_rfl) (by kernel_rfl) (by kernel_rfl) (fun _ _ _ h => h) (by kernel_rfl) ?_ (by assumption) ?_; rotate_left; (intro w hSw; clear hSw; go_simp); (try with_reducible rfl); simp only [List.set_cons_zero, List.set_cons_succ])
            (refine held_take 3 28 ?_ rfl (by kernel_rfl) (by kernel_rfl) (by kernel_rfl) (by kernel_rfl) (fun _ _ _ h => h) (by kernel_rfl) ?_ (by assumption) ?_; rotate_left; (intro w hSw; clear hSw; go_simp); (try with_reducible rfl); simp only [List.set_cons_zero, List.set_cons_succ])
            (refine held_take 4 29 ?_ rfl (by kernel_rfl) (by kernel_rfl) (by kernel_rfl) (by kernel_rfl) (fun _ _ _ h => h) (by kernel_rfl) ?_ (by assumption) ?_; rotate_left; (intro w hSw; clear hSw; go_simp); (try with_reducible rfl); simp only [List.set_cons_zero, List.set_cons_succ])
            (refine held_take 5 30 (.string m.name) rfl rfl (by kernel_rfl) (by kernel_rfl) (by kernel_rfl) (fun _ _ _ h => h) (by kernel_rfl) ?_ (by assumption) ?_; (intro w hSw; obtain ⟨q0, q1⟩ := hSw; go_simp); simp only [List.set_cons_zero, List.set_cons_succ])
            (refine held_take 6 31 (.string (S1 ++ m.name)) rfl rfl (by kernel_rfl) (by kernel_rfl) (by kernel_rfl) (fun _ _ _ h => h) (by kernel_rfl) ?_ (by assumption) ?_; (intro w hSw; clear hSw; go_simp; (try simp only [ByteArray.size_append]); omega); simp only [List.set_cons_zero, List.set_cons_succ])
            (refine held_take 7 32 ?_ rfl (by kernel_rfl) (by kernel_rfl) (by kernel_rfl) (by kernel_rfl) (fun _ _ _ h => h) (by kernel_rfl) ?_ (by assumption) ?_; rotate_left; (intro w hSw; clear hSw; go_simp); (try with_reducible rfl); simp only [List.set_cons_zero, List.set_cons_succ])
            (refine held_take 8 33 (.string (S1 ++ m.name ++ (⟨#[61]⟩ : ByteArray))) rfl rfl (by kernel_rfl) (by kernel_rfl) (by kernel_rfl) (fun _ _ _ h => h) (by kernel_rfl) ?_ (by assumption) ?_; (intro w hSw; clear hSw; go_simp; (try simp only [ByteArray.size_append]); omega); simp only [List.set_cons_zero, List.set_cons_succ])
            (refine held_take 9 34 ?_ rfl (by kernel_rfl) (by kernel_rfl) (by kernel_rfl) (by kernel_rfl) (fun _ _ _ h => h) (by kernel_rfl) ?_ (by assumption) ?_; rotate_left; (intro w hSw; clear hSw; go_simp); (try with_reducible rfl); simp only [List.set_cons_zero, List.set_cons_succ])
            (refine held_take 10 35 ?_ rfl (by kernel_rfl) (by kernel_rfl) (by kernel_rfl) (by kernel_rfl) (fun _ _ _ h => h) (by kernel_rfl) ?_ (by assumption) ?_; rotate_left; (intro w hSw; clear hSw; go_simp); (try with_reducible rfl); simp only [List.set_cons_zero, List.set_cons_succ])
            (refine held_take 11 36 ?_ rfl (by kernel_rfl) (by kernel_rfl) (by kernel_rfl) (by kernel_rfl) (fun _ _ _ h => h) (by kernel_rfl) ?_ (by assumption) ?_; rotate_left; (intro w hSw; clear hSw; go_simp); (try with_reducible rfl); simp only [List.set_cons_zero, List.set_cons_succ])
            (refine held_take 12 37 ?_ rfl (by kernel_rfl) (by kernel_rfl) (by kernel_rfl) (by kernel_rfl) (fun _ _ _ h => h) (by kernel_rfl) ?_ (by assumption) ?_; rotate_left; (intro w hSw; clear hSw; go_simp); (try with_reducible rfl); simp only [List.set_cons_zero, List.set_cons_succ])
            (refine held_take 13 38 (.string m.text) rfl rfl (by kernel_rfl) (by kernel_rfl) (by kernel_rfl) (fun _ _ _ h => h) (by kernel_rfl) ?_ (by assumption) ?_; (intro w hSw; obtain ⟨q0, q1⟩ := hSw; go_simp); simp only [List.set_cons_zero, List.set_cons_succ])
            (refine wpAnyH_ready (rs := [14]) (by kernel_rfl) (by simp) (.cons rfl (fun K hK => ?_) .nil))
            rw [if_pos (by kernel_rfl)]
            go_simp
            refine (CQ.out _ (Below.drew hX)).mono ?_
            rintro e' X2 ⟨rfl, hA1⟩
            dsimp only
            refine hK.out _ _ (HS.out _ hA1) (fun hHeld => ?_)
            clear hK K
            (try simp only [Act.put, List.setIfInBounds_toArray, List.set_cons_zero, List.set_cons_succ])
            (refine held_take 15 40 (.string (S1 ++ m.name ++ (⟨#[61]⟩ : ByteArray) ++ Q1)) rfl rfl (by kernel_rfl) (by kernel_rfl) (by kernel_rfl) (fun _ _ _ h => h) (by kernel_rfl) ?_ (by assumption) ?_; (intro w hSw; clear hSw; go_simp; (try simp only [ByteArray.size_append]); omega); simp only [List.set_cons_zero, List.set_cons_succ])
            (refine held_take 16 3 ?_ rfl (by kernel_rfl) (by kernel_rfl) (by kernel_rfl) (by kernel_rfl) (fun _ _ _ h => h) (by kernel_rfl) ?_ (by assumption) ?_; rotate_left; (intro w hSw; clear hSw; go_simp); (try with_reducible rfl); simp only [List.set_cons_zero, List.set_cons_succ])
            refine wpAnyH_done (by kernel_rfl) ?_ _
            all_goals go_wp2
            all_goals exact ⟨⟨k + 1, _, by omega, by go_num, rfl, by rw [HR.out, if_neg (by omega)], ⟨_, rfl⟩, Hb.out.trans (hA1.mono Hb.out.size)⟩, by simp [intOf]; omega⟩
          · obtain rfl : E1 = (⟨#[33, 61]⟩ : ByteArray) := by have := HE1.out; rw [if_pos h] at this; exact this
            have hkd : (m.kind == 2) = true := by simp; omega
            clear h
            go_upto_region 12 with fail
            have HS1' := Lib.hid hS1'; clear hS1'
            have hX := Below.refl wr.heap.size wr
            have HS := Lib.hid (fun X (h : Below wr.heap.size wr X) => show X.cell? ⟨b, off + k * 3 + 1, none⟩ = some (.string m.name) ∧ X.cell? ⟨b, off + k * 3 + 2, none⟩ = some (.string m.text) from ⟨(h.cell (p := ⟨b, off + k * 3 + 1, none⟩) hbw).trans g2, (h.cell (p := ⟨b, off + k * 3 + 2, none⟩) hbw).trans g3⟩)
            have HG2 := Lib.hid g2; have HG3 := Lib.hid g3
            clear g1 g2 g3
            refine wp_region_held_drew (S := (fun X => X.cell? ⟨b, off + k * 3 + 1, none⟩ = some (.string m.name) ∧ X.cell? ⟨b, off + k * 3 + 2, none⟩ = some (.string m.text))) (by kernel_rfl) ?_ (fun hHeld => ?_)
            · exact HS.out _ (Below.drew hX)
            (refine held_take 0 25 ?_ rfl (by kernel_rfl) (by kernel_rfl) (by kernel_rfl) (by kernel_rfl) (fun _ _ _ h => h) (by kernel_rfl) ?_ (by assumption) ?_; rotate_left; (intro w hSw; clear hSw; go_simp); (try with_reducible rfl); simp only [List.set_cons_zero, List.set_cons_succ])
            (refine held_take 1 26 ?_ rfl (by kernel_rfl) (by kernel_rfl) (by kernel_rfl) (by kernel_rfl) (fun _ _ _ h => h) (by kernel_rfl) ?_ (by assumption) ?_; rotate_left; (intro w hSw; clear hSw; go_simp); (try with_reducible rfl); simp only [List.set_cons_zero, List.set_cons_succ])
            (refine held_take 2 27 ?_ rfl (by kernel_rfl) (by kernel_rfl) (by kernel_rfl) (by kernel_rfl) (fun _ _ _ h => h) (by kernel_rfl) ?_ (by assumption) ?_; rotate_left; (intro w hSw; clear hSw; go_simp); (try with_reducible rfl); simp only [List.set_cons_zero, List.set_cons_succ])
            (refine held_take 3 28 ?_ rfl (by kernel_rfl) (by kernel_rfl) (by kernel_rfl) (by kernel_rfl) (fun _ _ _ h => h) (by kernel_rfl) ?_ (by assumption) ?_; rotate_left; (intro w hSw; clear hSw; go_simp); (try with_reducible rfl); simp only [List.set_cons_zero, List.set_cons_succ])
            (refine held_take 4 29 ?_ rfl (by kernel_rfl) (by kernel_rfl) (by kernel_rfl) (by kernel_rfl) (fun _ _ _ h => h) (by kernel_rfl) ?_ (by assumption) ?_; rotate_left; (intro w hSw; clear hSw; go_simp); (try with_reducible rfl); simp only [List.set_cons_zero, List.set_cons_succ])
            (refine held_take 5 30 (.string m.name) rfl rfl (by kernel_rfl) (by kernel_rfl) (by kernel_rfl) (fun _ _ _ h => h) (by kernel_rfl) ?_ (by assumption) ?_; (intro w hSw; obtain ⟨q0, q1⟩ := hSw; go_simp); simp only [List.set_cons_zero, List.set_cons_succ])
            (refine held_take 6 31 (.string (S1 ++ m.name)) rfl rfl (by kernel_rfl) (by kernel_rfl) (by kernel_rfl) (fun _ _ _ h => h) (by kernel_rfl) ?_ (by assumption) ?_; (intro w hSw; clear hSw; go_simp; (try simp only [ByteArray.size_append]); omega); simp only [List.set_cons_zero, List.set_cons_succ])
            (refine held_take 7 32 ?_ rfl (by kernel_rfl) (by kernel_rfl) (by kernel_rfl) (by kernel_rfl) (fun _ _ _ h => h) (by kernel_rfl) ?_ (by assumption) ?_; rotate_left; (intro w hSw; clear hSw; go_simp); (try with_reducible rfl); simp only [List.set_cons_zero, List.set_cons_succ])
            (refine held_take 8 33 (.string (S1 ++ m.name ++ (⟨#[33, 61]⟩ : ByteArray))) rfl rfl (by kernel_rfl) (by kernel_rfl) (by kernel_rfl) (fun _ _ _ h => h) (by kernel_rfl) ?_ (by assumption) ?_; (intro w hSw; clear hSw; go_simp; (try simp only [ByteArray.size_append]); omega); simp only [List.set_cons_zero, List.set_cons_succ])
            (refine held_take 9 34 ?_ rfl (by kernel_rfl) (by kernel_rfl) (by kernel_rfl) (by kernel_rfl) (fun _ _ _ h => h) (by kernel_rfl) ?_ (by assumption) ?_; rotate_left; (intro w hSw; clear hSw; go_simp); (try with_reducible rfl); simp only [List.set_cons_zero, List.set_cons_succ])
            (refine held_take 10 35 ?_ rfl (by kernel_rfl) (by kernel_rfl) (by kernel_rfl) (by kernel_rfl) (fun _ _ _ h => h) (by kernel_rfl) ?_ (by assumption) ?_; rotate_left; (intro w hSw; clear hSw; go_simp); (try with_reducible rfl); simp only [List.set_cons_zero, List.set_cons_succ])
            (refine held_take 11 36 ?_ rfl (by kernel_rfl) (by kernel_rfl) (by kernel_rfl) (by kernel_rfl) (fun _ _ _ h => h) (by kernel_rfl) ?_ (by assumption) ?_; rotate_left; (intro w hSw; clear hSw; go_simp); (try with_reducible rfl); simp only [List.set_cons_zero, List.set_cons_succ])
            (refine held_take 12 37 ?_ rfl (by kernel_rfl) (by kernel_rfl) (by kernel_rfl) (by kernel_rfl) (fun _ _ _ h => h) (by kernel_rfl) ?_ (by assumption) ?_; rotate_left; (intro w hSw; clear hSw; go_simp); (try with_reducible rfl); simp only [List.set_cons_zero, List.set_cons_succ])
            (refine held_take 13 38 (.string m.text) rfl rfl (by kernel_rfl) (by kernel_rfl) (by kernel_rfl) (fun _ _ _ h => h) (by kernel_rfl) ?_ (by assumption) ?_; (intro w hSw; obtain ⟨q0, q1⟩ := hSw; go_simp); simp only [List.set_cons_zero, List.set_cons_succ])
            (refine wpAnyH_ready (rs := [14]) (by kernel_rfl) (by simp) (.cons rfl (fun K hK => ?_) .nil))
            rw [if_pos (by kernel_rfl)]
            go_simp
            refine (CQ.out _ (Below.drew hX)).mono ?_
            rintro e' X2 ⟨rfl, hA1⟩
            dsimp only
            refine hK.out _ _ (HS.out _ hA1) (fun hHeld => ?_)
            clear hK K
            (try simp only [Act.put, List.setIfInBounds_toArray, List.set_cons_zero, List.set_cons_succ])
            (refine held_take 15 40 (.string (S1 ++ m.name ++ (⟨#[33, 61]⟩ : ByteArray) ++ Q1)) rfl rfl (by kernel_rfl) (by kernel_rfl) (by kernel_rfl) (fun _ _ _ h => h) (by kernel_rfl) ?_ (by assumption) ?_; (intro w hSw; clear hSw; go_simp; (try simp only [ByteArray.size_append]); omega); simp only [List.set_cons_zero, List.set_cons_succ])
            (refine held_take 16 3 ?_ rfl (by kernel_rfl) (by kernel_rfl) (by kernel_rfl) (by kernel_rfl) (fun _ _ _ h => h) (by kernel_rfl) ?_ (by assumption) ?_; rotate_left; (intro w hSw; clear hSw; go_simp); (try with_reducible rfl); simp only [List.set_cons_zero, List.set_cons_succ])
            refine wpAnyH_done (by kernel_rfl) ?_ _
            all_goals go_wp2
            all_goals exact ⟨⟨k + 1, _, by omega, by go_num, rfl, by rw [HR.out, if_neg (by omega)], ⟨_, rfl⟩, Hb.out.trans (hA1.mono Hb.out.size)⟩, by simp [intOf]; omega⟩
      · have hk' : k = l.length := by omega
        subst hk'
        rw [List.take_of_length_le (Nat.le_refl _), if_neg h0] at hS
        have HS := Lib.hid hS; clear hS
        have b1 : ¬ 9223372036854775807 < S.size + 1 := by omega
        go_wp2
        go_ret
        exact ⟨ret_string (ba_of (by rw [ba_add, HS.out, HM.out])), Hb.out⟩

/-- An expression that may be is told. -/
def TextC (e : Ex) : Prop := e.flat.all rightB = true → e.num64 → ∀ (cs : List Value) (n : Nat) (W : World), IsEx n W e cs → n ≤ W.heap.size → (exT e).length ≤ 1000000 →
    Calls Tryd.prog 30 #[.agg cs.toArray] W fun e' w' => e' = .returned (.string ⟨(exT e).toArray⟩) ∧ Below W.heap.size W w'

set_option maxRecDepth 100000 in
set_option maxHeartbeats 4000000 in
theorem rKid (e : Ex) (hE : TextC e) (hv : e.flat.all rightB = true) (h64 : e.num64) (least : Int) (cs : List Value) (n : Nat) (W : World) (he : IsEx n W e cs) (hn : n ≤ W.heap.size) (hl : (exT e).length ≤ 1000000) :
    Calls Tryd.prog 56 #[.agg cs.toArray, .int .i64 least] W fun e' w' => e' = .returned (.string ⟨(kidT least (strI e.kind e.op, exT e)).toArray⟩) ∧ Below W.heap.size W w' := by
  obtain ⟨pm, cm, pn, cn, pk, ck, rfl, -⟩ := he.cellsE
  have HE := Lib.hid (fun (X : World) (hb : Below W.heap.size W X) => hE hv h64 _ n X (he.mono (hb.mono hn) (Nat.le_refl _)) (Nat.le_trans hn hb.size) hl)
  obtain ⟨T, hT⟩ : ∃ T : ByteArray, T = ⟨(exT e).toArray⟩ := ⟨_, rfl⟩
  have hTs : T.size ≤ 1000000 := by rw [hT]; exact hl
  rw [← hT] at HE
  have HT := Lib.hid hT; clear hT hE hv h64 hl
  have b1 : ¬ 9223372036854775807 < 1 + T.size := by omega
  have b2 : ¬ 9223372036854775807 < 1 + T.size + 1 := by omega
  clear hTs
  have He := Lib.hid he; clear he
  go_enter Tryd.func56, Tryd.ntmps56; (try simp only [List.append_eq, List.cons_append, List.nil_append])
  go_upto_region 1 with fail
  have hblk := Blk.new W [.int .i64 e.kind, .int .i64 e.fn, .int .i64 e.op, .int .i64 e.num, .string e.metric, .slice pm e.mats.length cm, .int .i64 e.span, .slice pn e.names.length cn, .slice pk e.kids.length ck] 26
  have hbw : Below W.heap.size W (W.alloc (.cells [.int .i64 e.kind, .int .i64 e.fn, .int .i64 e.op, .int .i64 e.num, .string e.metric, .slice pm e.mats.length cm, .int .i64 e.span, .slice pn e.names.length cn, .slice pk e.kids.length ck].toArray 26)) := (Below.refl _ _).alloc (Nat.le_refl _) _
  obtain ⟨W1, hW1⟩ : ∃ W1, W.alloc (.cells [.int .i64 e.kind, .int .i64 e.fn, .int .i64 e.op, .int .i64 e.num, .string e.metric, .slice pm e.mats.length cm, .int .i64 e.span, .slice pn e.names.length cn, .slice pk e.kids.length ck].toArray 26) = W1 := ⟨_, rfl⟩
  rw [hW1] at hblk hbw
  have hW1' : W.alloc (.cells #[.int .i64 e.kind, .int .i64 e.fn, .int .i64 e.op, .int .i64 e.num, .string e.metric, .slice pm e.mats.length cm, .int .i64 e.span, .slice pn e.names.length cn, .slice pk e.kids.length ck] 26) = W1 := hW1
  rw [hW1']
  clear hW1 hW1'
  have Hbw := Lib.hid hbw; clear hbw
  have HQ := Lib.hid hblk; clear hblk
  have HC := Lib.hid (fun (X : World) (h : Below W1.heap.size W1 X) => show X.cell? ⟨W.heap.size, 0, none⟩ = some (.int .i64 e.kind) ∧ X.cell? ⟨W.heap.size, 1, none⟩ = some (.int .i64 e.fn) ∧ X.cell? ⟨W.heap.size, 2, none⟩ = some (.int .i64 e.op) ∧ X.cell? ⟨W.heap.size, 3, none⟩ = some (.int .i64 e.num) ∧ X.cell? ⟨W.heap.size, 4, none⟩ = some (.string e.metric) ∧ X.cell? ⟨W.heap.size, 5, none⟩ = some (.slice pm e.mats.length cm) ∧ X.cell? ⟨W.heap.size, 6, none⟩ = some (.int .i64 e.span) ∧ X.cell? ⟨W.heap.size, 7, none⟩ = some (.slice pn e.names.length cn) ∧ X.cell? ⟨W.heap.size, 8, none⟩ = some (.slice pk e.kids.length ck) from
    have q := HQ.out.mono h HQ.out.lt
    ⟨q.cell 0 _ rfl, q.cell 1 _ rfl, q.cell 2 _ rfl, q.cell 3 _ rfl, q.cell 4 _ rfl, q.cell 5 _ rfl, q.cell 6 _ rfl, q.cell 7 _ rfl, q.cell 8 _ rfl⟩)
  have hc0 := HC.out _ (Below.refl _ _)
  have CS := Lib.hid (fun (X : World) => rStrength e pm pn pk cm cn ck X)
  by_cases hge : strI e.kind e.op < least
  · have HF : Hid (kidT least (strI e.kind e.op, exT e) = [40] ++ exT e ++ [41]) := by show _ = _; unfold kidT; rw [if_neg (by show ¬ _ ≤ strI _ _; omega)]
    go_upto_region 2 with (go_at_call 80; refine (CS.out _).mono ?_; rintro e' w1 ⟨rfl, hb1⟩; have Hb1 := Lib.hid hb1; have hc1 := HC.out _ hb1; clear hb1)
    clear hc0 hge
    go_wp2_with (go_at_call 30; refine (HE.out _ (Hbw.out.trans (Hb1.out.mono Hbw.out.size))).mono ?_; rintro e' w2 ⟨rfl, hb2⟩; have Hb2 := Lib.hid (Hb1.out.trans (hb2.mono Hb1.out.size)); clear hb2)
    go_ret
    exact ⟨ret_string (ba_of (by rw [ba_add, ba_add, HT.out, HF.out])), Hbw.out.trans (Hb2.out.mono Hbw.out.size)⟩
  · have HF : Hid (kidT least (strI e.kind e.op, exT e) = exT e) := by show _ = _; unfold kidT; rw [if_pos (by show _ ≤ strI _ _; omega)]
    have hdec : decide (strI e.kind e.op < least) = false := decide_eq_false hge
    go_upto_region 3 with (go_at_call 80; refine (CS.out _).mono ?_; rintro e' w1 ⟨rfl, hb1⟩; have Hb1 := Lib.hid hb1; have hc1 := HC.out _ hb1; clear hb1)
    clear hc0 hge
    go_wp2_with (go_at_call 30; refine (HE.out _ (Hbw.out.trans (Hb1.out.mono Hbw.out.size))).mono ?_; rintro e' w2 ⟨rfl, hb2⟩; have Hb2 := Lib.hid (Hb1.out.trans (hb2.mono Hb1.out.size)); clear hb2)
    go_ret
    exact ⟨ret_string (by rw [HT.out, HF.out]), Hbw.out.trans (Hb2.out.mono Hbw.out.size)⟩
end Go.Proofs.YtobelmipjanibaaDoor
