/- SubsNames' walk. -/
import Derived.Test.YtfmolimnnheaoaaBd0
namespace Go.Proofs.Ytfmolimnnheaoaa
open Go.RowKit
set_option linter.unusedSimpArgs false
set_option linter.unusedVariables false
open Go.Maps

set_option maxRecDepth 100000 in
set_option maxHeartbeats 16000000 in
theorem wNames (W : World) : Calls Try.prog 4 #[] W fun e w' => e = .returned (.bool true) ∧ Below W.heap.size W w' := by
  have HB := Lib.hid (Below.refl W.heap.size W)
  go_enter Try.func4, Try.ntmps4; (try simp only [List.append_eq, List.cons_append, List.nil_append])
  go_wp2_with fail
  refine (bNew (room := 3) ⟨by omega, by omega⟩ _).mono ?_
  rintro e w0 ⟨g, hq, hs, rfl, hB, hb⟩
  have H := Lib.hid hB; have HB := Lib.hid hb; clear hB hb
  go_wp2_with fail
  refine (bNewBad (room := 0) (by omega) _).mono ?_
  rintro e w1 ⟨rfl, rfl⟩
  go_wp2_with fail
  refine (bOpen (mark := 0) H.out rfl ⟨by omega, by omega⟩ (by omega) HB.out.size).mono ?_
  rintro e w2 ⟨rfl, xq, hB, ho⟩
  have H := Lib.hid (show BrdM W.heap.size w2 g hq hs (0 + 1) 0 (some xq) (⟨3, [], 0, 0, [], 1⟩ : Bd) (.slice none 0 0) [] from hB)
  have HB := Lib.hid (HB.out.trans (ho.below (fun k hk => hk.1) HB.out.size))
  clear hB ho
  go_wp2_with fail
  refine (bLives _).mono ?_
  rintro e w3 ⟨rfl, hb⟩
  have H := Lib.hid (H.out.keep hb)
  have HB := Lib.hid (HB.out.trans (hb.mono HB.out.size))
  clear hb
  go_wp2_with fail
  refine (bOpenThere (t := 0) H.out ⟨by omega, by omega⟩).mono ?_
  rintro e w4 ⟨rfl, rfl⟩
  go_wp2_with fail
  refine (bOpenBad (t := 0) H.out).mono ?_
  rintro e w5 ⟨rfl, rfl⟩
  go_wp2_with fail
  refine (bCloseNone H.out).mono ?_
  rintro e w6 ⟨rfl, rfl⟩
  go_wp2_with fail
  have hC := bUnsub (n := 1) H.out ⟨by omega, by omega⟩ (by simp [Rise]) HB.out.size
  rw [show unsubB (⟨3, [], 0, 0, [], 1⟩ : Bd) 1 = (⟨3, [], 0, 0, [], 1⟩, 6) from rfl] at hC
  refine hC.mono ?_
  clear hC
  rintro e w7 ⟨kv, bl, rfl, hB, ho⟩
  have H := Lib.hid hB
  have HB := Lib.hid (HB.out.trans (ho.below (fun k hk => hk.1) HB.out.size))
  clear hB ho
  go_wp2_with fail
  have hC := bSettledAt H.out HB.out.size
  rw [show settledB (⟨3, [], 0, 0, [], 1⟩ : Bd) = 0 from rfl] at hC
  refine hC.mono ?_
  clear hC
  rintro e w8 ⟨rfl, hb⟩
  have H := Lib.hid (H.out.keep hb)
  have HB := Lib.hid (HB.out.trans (hb.mono HB.out.size))
  clear hb
  go_wp2_with fail
  refine (bRoom H.out).mono ?_
  rintro e w9 ⟨rfl, hb⟩
  have HB := Lib.hid (HB.out.trans (hb.mono HB.out.size))
  clear hb
  go_wp2
  go_ret
  exact ⟨rfl, HB.out⟩
end Go.Proofs.Ytfmolimnnheaoaa
