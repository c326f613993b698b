/- SubsNames returns true, whatever its arguments, in whatever memory and order, and changes nothing that was there. No conditions. -/
import Derived.Test.YtfmolimnnheaoaaBd1
import Derived.Test.YtfmolimnnheaoaaFin
namespace Go.Proofs.Ytfmolimnnheaoaa.subsNames
open Go.ChangeShapes Go.WideShapes Go.ChangeAt Go.RowKit
set_option linter.unusedVariables false

set_option maxRecDepth 100000 in
theorem lifted (os : Os) (started : os.Started) (H : Type) (enc : TypeId × Value → H) :
    ReturnsInHanded {} Try.checked os 4 .any (Rows.subsNamesSpec.pre6 enc Try.prog Try.f4 Rows.subsNamesRow.domain false) (Rows.subsNamesSpec.post enc Try.prog Try.f4 false true false false) := by
  refine returnsInHanded_of_change (C := Try.checked) own started (by kernel_rfl) Try.func4
    (ChangeSpec.witness6 (enc := enc) (C := Try.checked) false ⟨#[], #[], []⟩ 8 (by kernel_rfl) (by kernel_rfl) (by kernel_rfl) (by kernel_rfl)) ?_
  intro W base args ds gs before hval0 hW hcnd _
  have hval : ∀ (j : Nat) t v, Try.f4.params[j]? = some t → args[j]? = some v → Value.okWide Try.prog W .any base t v := hval0
  have hW' := hW
  obtain ⟨p, q, hA0, hV, rfl, hfz, hnd⟩ := hW
  have hA : DataW.TrodAll enc Try.prog W 0 (fun _ => true) true Try.f4.params.toList args.toList ds p := hA0
  rw [Try.params4] at hA hval
  obtain ⟨rfl, rfl, rfl⟩ := trodAll_none hA
  obtain ⟨rfl, rfl⟩ := trodVars_none hV
  refine (wNames W).mono fun e W' hh => ?_
  obtain ⟨he, hb⟩ := hh
  subst he
  exact ⟨_, rfl, law_post rfl hW' rfl laid (by decide +kernel) (by kernel_rfl) Try.underlying4 hb⟩

theorem over : Rows.subsNamesRow.holds Try.pinned (OpenSpec.ofChange Rows.subsNamesSpec) :=
  OpenClaim.holds_of_wide 4 Try.f4 rfl rfl rfl rfl rfl rfl rfl ⟨rfl, rfl, rfl, rfl, rfl⟩ rfl rfl rfl rfl rfl (by kernel_rfl) Try.func4 (by kernel_rfl)
    (of_decide_eq_true (by kernel_rfl)) (by unfold Func.isWrapper; first | (rw [if_pos (by decide +kernel)]; kernel_rfl) | (rw [if_neg (by decide +kernel)]; exact ⟨rfl, rfl⟩))
    (fun os started H enc _ => lifted os started H enc)

theorem proved : Rows.SubsNamesSaid := over
#print axioms proved
end Go.Proofs.Ytfmolimnnheaoaa.subsNames
