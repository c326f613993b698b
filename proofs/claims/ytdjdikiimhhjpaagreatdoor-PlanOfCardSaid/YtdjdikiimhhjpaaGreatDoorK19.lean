/- A map from queries' texts to numbers. -/
import Derived.Test.YtdjdikiimhhjpaaGreatDoorK9
import Derived.Test.YtdjdikiimhhjpaaGreatDoorK10
import Derived.Maps.Own
import Derived.Maps.Views
import Derived.DeepKeys4
set_option maxRecDepth 100000
set_option maxHeartbeats 16000000
namespace Go.Proofs.YtdjdikiimhhjpaaGreatDoor
open Go.RowKit
set_option linter.unusedSimpArgs false
set_option linter.unusedVariables false
open Go.Maps
theorem laid : laidOutB Tryz.prog = true := by kernel_rfl
theorem keyP : Keyed Tryz.prog 68 := Keyed.of_law (deep_law_laid (m := 4) laid (by decide) (by decide +kernel) (by kernel_rfl) (by kernel_rfl))
def KL (ev : Int) (s : ByteArray) : Lit := .string (keyBytes [.int .i64 ev, .string s.data.toList])
theorem keyOf_KL (ev : Int) (s : ByteArray) (hev : i64 ev) (hs : s.size ≤ maxLen) : keyOf Tryz.prog 68 (.agg #[.int .i64 ev, .string s]) = some (KL ev s) := by
  have hw : (Lit.int .i64 ev).wf = true := by
    obtain ⟨h1, h2⟩ := hev
    simp [Lit.wf, IntKind.min, IntKind.max, IntKind.signed, IntKind.bits]
    omega
  have hK : Tryz.prog.keyType 68 = true := by kernel_rfl
  have hF : Value.formed Tryz.prog 68 (.agg #[.int .i64 ev, .string s]) = true := by
    unfold Value.formed; rw [Tryz.underlying68]; have : Tryz.prog.cellsOf 68 = 2 := by kernel_rfl
    simp [this]
  have h1t : 1 ≤ Tryz.prog.types.size := by decide +kernel
  obtain ⟨f, hf⟩ : ∃ f, Tryz.prog.types.size + 1 = f + 2 := ⟨Tryz.prog.types.size - 1, by omega⟩
  have c2 : Tryz.prog.cellsOf 68 = 2 := by kernel_rfl
  have c1 : Tryz.prog.cellsOf 2 = 1 := by kernel_rfl
  have c3 : Tryz.prog.cellsOf 9 = 1 := by kernel_rfl
  have hL : Tryz.prog.keyLits (f + 2) 68 [.int .i64 ev, .string s] = some [.int .i64 ev, .string s.data.toList] := by
    have k1 : Tryz.prog.keyLits (f + 1) 2 [.int .i64 ev] = some [.int .i64 ev] := by
      unfold Program.keyLits; rw [Tryz.underlying2]
      simp [hw]
    have k2 : Tryz.prog.keyLits (f + 1) 9 [.string s] = some [.string s.data.toList] := by
      unfold Program.keyLits; rw [Tryz.underlying9]
      simp [hs]
    unfold Program.keyLits; rw [Tryz.underlying68]
    simp [c2, c1, c3, k1, k2]
  unfold keyOf
  rw [Tryz.underlying68]
  simp only [hK, hF, Bool.and_self, if_true, hf]
  show Option.map _ (Tryz.prog.keyLits (f + 2) 68 [.int .i64 ev, .string s]) = _
  rw [hL]; rfl
theorem KL_inj {ev ev' : Int} {s s' : ByteArray} (hev : i64 ev) (hs : s.size ≤ maxLen) (hev' : i64 ev') (hs' : s'.size ≤ maxLen) (h : KL ev s = KL ev' s') : ev = ev' ∧ s = s' := by
  have h1 := keyOf_KL ev s hev hs
  rw [h] at h1
  have := keyP.inj h1 (keyOf_KL ev' s' hev' hs')
  simp at this
  exact this
end Go.Proofs.YtdjdikiimhhjpaaGreatDoor
