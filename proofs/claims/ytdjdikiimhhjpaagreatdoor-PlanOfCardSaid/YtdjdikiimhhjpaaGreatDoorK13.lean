/- plan.bits: set, has. -/
import Derived.Test.YtdjdikiimhhjpaaGreatDoorK11
import Derived.Test.YtdjdikiimhhjpaaGreatDoorK1
import Derived.Laws.Bits64
import Derived.Laws.Bits64b
import Derived.IntWalk
set_option maxRecDepth 100000
set_option maxHeartbeats 16000000
namespace Go.Proofs.YtdjdikiimhhjpaaGreatDoor
open Go.RowKit
set_option linter.unusedSimpArgs false
set_option linter.unusedVariables false
def bitCs (ws : List Nat) : List Value := ws.map fun x : Nat => Value.int .u64 (x : Int)
theorem pHas (ws : List Nat) (g c n : Nat) (w : World) (hB : Blk w g 75 (bitCs ws)) (hw : ∀ x ∈ ws, x < 18446744073709551616) (hn : n / 64 < ws.length) (hn2 : n ≤ 1000000) :
    Calls Tryz.prog 23 #[.slice (some ⟨g, 0, none⟩) ws.length c, .int .i64 n] w fun e' w' => e' = .returned (.bool (ws[n / 64].testBit (n % 64))) ∧ w = w' := by
  have hcell := hB.cell (n / 64) (.int .u64 (ws[n / 64] : Int)) (by simp [bitCs, hn])
  have hx := hw _ (List.getElem_mem hn)
  generalize ws[n / 64] = x at *
  have hlt : (n : Int) / 64 < (ws.length : Int) := by omega
  have hm : n % 64 < 64 := Nat.mod_lt _ (by decide)
  go_enter Tryz.func23, Tryz.ntmps23; (try simp only [List.append_eq, List.cons_append, List.nil_append])
  go_wp2
  go_ret
  refine ⟨ret_bool ?_, rfl⟩
  have e : ((x : Int) / 2 ^ (n % 64)) = ((x / 2 ^ (n % 64) : Nat) : Int) := by simp
  rw [e, show (1 : Int) = ((1 : Nat) : Int) from rfl, bits_and_u64_nat _ _ (Nat.lt_of_le_of_lt (Nat.div_le_self _ _) hx) (by decide), Nat.testBit_eq_decide_div_mod_eq, Nat.and_one_is_mod, Bool.eq_iff_iff, decide_eq_true_eq, beq_iff_eq]
  omega
theorem pSet (ws : List Nat) (g c n : Nat) (w : World) (hB : Blk w g 75 (bitCs ws)) (hw : ∀ x ∈ ws, x < 18446744073709551616) (hn : n / 64 < ws.length) (hn2 : n ≤ 1000000) :
    Calls Tryz.prog 36 #[.slice (some ⟨g, 0, none⟩) ws.length c, .int .i64 n] w fun e' w' => e' = .returned (.tuple #[]) ∧ Blk w' g 75 (bitCs (ws.set (n / 64) (ws[n / 64] ||| 2 ^ (n % 64)))) ∧ OffM (fun k => k = g) w w' := by
  have hcell := hB.cell (n / 64) (.int .u64 (ws[n / 64] : Int)) (by simp [bitCs, hn])
  have hfr := hB.free (n / 64)
  have hx := hw _ (List.getElem_mem hn)
  generalize ws[n / 64] = x at *
  have hlt : (n : Int) / 64 < (ws.length : Int) := by omega
  have hm : n % 64 < 64 := Nat.mod_lt _ (by decide)
  have hw1 : IntKind.i64.wrap ((n : Int) / 64) = (n : Int) / 64 := by simp [IntKind.wrap, IntKind.bits, IntKind.signed]; omega
  have hw2 : IntKind.i64.wrap ((n : Int) % 64) = (n : Int) % 64 := by simp [IntKind.wrap, IntKind.bits, IntKind.signed]; omega
  have hge : (0 : Int) ≤ (n : Int) / 64 := by omega
  have htn : ((n : Int) / 64).toNat = n / 64 := by omega
  have hge2 : (0 : Int) ≤ (n : Int) % 64 := by omega
  have hle2 : (n : Int) % 64 ≤ 64 := by omega
  have htn2 : ((n : Int) % 64).toNat = n % 64 := by omega
  have hp64 : 2 ^ (n % 64) < 18446744073709551616 := Nat.lt_of_lt_of_le (Nat.pow_lt_pow_right (by decide) hm) (by decide)
  have hpc : (2 : Int) ^ (n % 64) = ((2 ^ (n % 64) : Nat) : Int) := by rw [Int.natCast_pow]; rfl
  have htm : (n : Int).tmod 64 = (n : Int) % 64 := Int.tmod_eq_emod_of_nonneg (by omega)
  have hor := bits_or_u64_nat x (2 ^ (n % 64)) hx hp64
  generalize 2 ^ (n % 64) = pw at hor hp64 hpc ⊢
  have hsh : IntKind.u64.wrap (2 ^ (n % 64)) = (pw : Int) := by
    rw [hpc, IntKind.wrap_u64]; omega
  have hlen : (bitCs ws).set (n / 64) (.int .u64 ((x ||| pw : Nat) : Int)) = bitCs (ws.set (n / 64) (x ||| pw)) := by unfold bitCs; rw [List.map_set]
  have HB := Lib.hid hB; have HL := Lib.hid hlen
  clear hpc hB hlen
  go_enter Tryz.func36, Tryz.ntmps36; (try simp only [List.append_eq, List.cons_append, List.nil_append])
  refine wp_region_held_drew (S := fun _ => True) (by kernel_rfl) trivial (fun hHeld => ?_)
  (refine htk 0 4 ?_ rfl ?_ ?_; rotate_left; (intro w hSw; clear hSw; go_simp); (try with_reducible rfl); simp only [lsz, lss])
  (refine htk 1 5 ?_ rfl ?_ ?_; rotate_left; (intro w hSw; clear hSw; go_simp); (try with_reducible rfl); simp only [lsz, lss])
  (refine htk 2 6 ?_ rfl ?_ ?_; rotate_left; (intro w hSw; clear hSw; go_simp); (try with_reducible rfl); simp only [lsz, lss])
  (refine htk 3 7 (.pointer (some ⟨g, n / 64, none⟩)) rfl (by intro w hSw; clear hSw; go_simp) ?_); (try simp only [lsz, lss])
  (refine htk 5 9 ?_ rfl ?_ ?_; rotate_left; (intro w hSw; clear hSw; go_simp); (try with_reducible rfl); simp only [lsz, lss])
  (refine htk 6 10 (.int .i64 ((n : Int) % 64)) rfl (by intro w hSw; clear hSw; go_simp) ?_); (try simp only [lsz, lss])
  (refine htk 7 11 (.int .u64 (pw : Int)) rfl (by intro w hSw; clear hSw; go_simp) ?_); (try simp only [lsz, lss])
  refine hrd 4 rfl (fun K hK => ?_)
  rw [if_pos (by kernel_rfl)]
  have hcell' : w.drew.cell? ⟨g, n / 64, none⟩ = some (.int .u64 (x : Int)) := hcell
  go_simp
  refine hK.out _ _ trivial (fun hHeld => ?_)
  clear hK K
  (try simp only [Act.put, lsa, lsz, lss])
  (refine htk 8 12 (.int .u64 ((x ||| pw : Nat) : Int)) rfl (by intro w hSw; clear hSw; go_simp) ?_); (try simp only [lsz, lss])
  (refine htk 9 13 (.pointer (some ⟨g, n / 64, none⟩)) rfl (by intro w hSw; clear hSw; go_simp) ?_); (try simp only [lsz, lss])
  refine hrd 10 rfl (fun K hK => ?_)
  rw [if_pos (by kernel_rfl)]
  have hfr' : w.drew.frozen? ⟨g, n / 64, none⟩ = false := hfr
  go_simp
  refine hK.out _ _ trivial (fun hHeld => ?_)
  clear hK K
  (try simp only [Act.put, lsa, lsz, lss])
  refine wpAnyH_done (by kernel_rfl) ?_ _
  go_wp2
  have hfin : Blk (w.setCell ⟨g, n / 64, none⟩ (.int .u64 ((x ||| pw : Nat) : Int))) g 75 (bitCs (ws.set (n / 64) (x ||| pw))) := by rw [← HL.out]; exact HB.out.set_ _ _
  have hoff := OffM.cell1 w g (n / 64) (.int .u64 ((x ||| pw : Nat) : Int))
  exact ⟨rfl, _, results_none rfl _ _ _, rfl, hfin.drew, ⟨hoff.os, hoff.tape, hoff.output, hoff.size, hoff.block⟩⟩
end Go.Proofs.YtdjdikiimhhjpaaGreatDoor
