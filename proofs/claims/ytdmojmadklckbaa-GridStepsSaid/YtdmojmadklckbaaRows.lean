/-
  NARROWER THAN 'FOR EVERY INPUT', by the rows' own cells (each row's printed sentence says how): GridNeeds: loops · GridCalls: loops · GridSteps: loops.
  DERIVED. THE GIVEN ROWS OF THIS SEAT. 4 by the template 'for every input the law returns true; each argument reads behind the call as it read before'; 0 by the template 'total and deterministic' (their statements: YtdmojmadklckbaaTotals.lean).
  GIVEN WITH THE SEED: the statements are not yours to turn. If you find one false, say at which input.
  Laid BY PROGRAM, IN A SANDBOX (cutbox-rows.mjs): the forced cells as the released guide's own fill.sh prints them over the translation b9d4d6dccf1707e8… (all of the seat's roots in one cut). By AI agents, Wed Nov 11 2026. No macro, syntax, notation, axiom, sorry.
-/
import Derived.Test.YtdmojmadklckbaaChecked
import GoSem.Claim
import GoSem.ClaimJoined
import GoSem.ClaimMapViews
import Derived.JoinedTies
import Derived.KernelRfl
namespace Go.Proofs.Ytdmojmadklckbaa
/- THE CELL 'sum', in the pinned program and in every row, IS THE sha256 OF THE DUMP (.gsa) THAT YtdmojmadklckbaaProg.lean LOADS. Nothing in Lean hashes anything: it is a label: what it is worth is what the hold of that sum in a sandbox is worth. -/
noncomputable def Try.pinned : Pinned := { name := "ytdmojmadklckbaa", sum := "b9d4d6dccf1707e89072de35ec62d1cf02dd2742e261b444565a7cfca6fbffac", checked := Try.checked }
namespace Rows
def none {H : Type} : Left H := { results := [], args := [] }

/-- 'waterwheellaw09.GridNeeds': WHATEVER THE INPUT: true; the input reads as it did. -/
def gridNeedsSpec : ChangeSpec := { name := "gridNeeds", fn := fun _ => fun
  | [d1, d2, d3, d4, d5] => { results := [.lit (.bool true)], args := [d1, d2, d3, d4, d5] }
  | _ => none }
def gridNeedsRow : OpenClaim := { program := "ytdmojmadklckbaa", sum := "b9d4d6dccf1707e89072de35ec62d1cf02dd2742e261b444565a7cfca6fbffac", func := "waterwheel/waterwheellaw09.GridNeeds", spec := "gridNeeds", unfollowed := true, recurses := true, loops := true, apart := false }
def GridNeedsSaid : Prop := gridNeedsRow.holds Try.pinned (OpenSpec.ofChange gridNeedsSpec)

/-- ITS FALSE NEIGHBOUR: 'it returns false'. Refute it at one input. -/
def gridNeedsWrong : ChangeSpec := { name := "gridNeeds", fn := fun _ => fun
  | [d1, d2, d3, d4, d5] => { results := [.lit (.bool false)], args := [d1, d2, d3, d4, d5] }
  | _ => none }
def GridNeedsWrongFalsely : Prop := gridNeedsRow.holds Try.pinned (OpenSpec.ofChange gridNeedsWrong)

/-- 'waterwheellaw09.GridNames': WHATEVER THE INPUT: true; the input reads as it did. -/
def gridNamesSpec : ChangeSpec := { name := "gridNames", fn := fun _ => fun
  | [] => { results := [.lit (.bool true)], args := [] }
  | _ => none }
def gridNamesRow : OpenClaim := { program := "ytdmojmadklckbaa", sum := "b9d4d6dccf1707e89072de35ec62d1cf02dd2742e261b444565a7cfca6fbffac", func := "waterwheel/waterwheellaw09.GridNames", spec := "gridNames", unfollowed := true, recurses := true, apart := false }
def GridNamesSaid : Prop := gridNamesRow.holds Try.pinned (OpenSpec.ofChange gridNamesSpec)

/-- ITS FALSE NEIGHBOUR: 'it returns false'. Refute it at one input. -/
def gridNamesWrong : ChangeSpec := { name := "gridNames", fn := fun _ => fun
  | [] => { results := [.lit (.bool false)], args := [] }
  | _ => none }
def GridNamesWrongFalsely : Prop := gridNamesRow.holds Try.pinned (OpenSpec.ofChange gridNamesWrong)

/-- 'waterwheellaw09.GridCalls': WHATEVER THE INPUT: true; the input reads as it did. -/
def gridCallsSpec : ChangeSpec := { name := "gridCalls", fn := fun _ => fun
  | [d1, d2, d3, d4, d5, d6, d7, d8] => { results := [.lit (.bool true)], args := [d1, d2, d3, d4, d5, d6, d7, d8] }
  | _ => none }
def gridCallsRow : OpenClaim := { program := "ytdmojmadklckbaa", sum := "b9d4d6dccf1707e89072de35ec62d1cf02dd2742e261b444565a7cfca6fbffac", func := "waterwheel/waterwheellaw09.GridCalls", spec := "gridCalls", unfollowed := true, recurses := true, loops := true, apart := false }
def GridCallsSaid : Prop := gridCallsRow.holds Try.pinned (OpenSpec.ofChange gridCallsSpec)

/-- ITS FALSE NEIGHBOUR: 'it returns false'. Refute it at one input. -/
def gridCallsWrong : ChangeSpec := { name := "gridCalls", fn := fun _ => fun
  | [d1, d2, d3, d4, d5, d6, d7, d8] => { results := [.lit (.bool false)], args := [d1, d2, d3, d4, d5, d6, d7, d8] }
  | _ => none }
def GridCallsWrongFalsely : Prop := gridCallsRow.holds Try.pinned (OpenSpec.ofChange gridCallsWrong)

/-- 'waterwheellaw09.GridSteps': WHATEVER THE INPUT: true; the input reads as it did. -/
def gridStepsSpec : ChangeSpec := { name := "gridSteps", fn := fun _ => fun
  | [d1, d2, d3, d4, d5, d6, d7] => { results := [.lit (.bool true)], args := [d1, d2, d3, d4, d5, d6, d7] }
  | _ => none }
def gridStepsRow : OpenClaim := { program := "ytdmojmadklckbaa", sum := "b9d4d6dccf1707e89072de35ec62d1cf02dd2742e261b444565a7cfca6fbffac", func := "waterwheel/waterwheellaw09.GridSteps", spec := "gridSteps", unfollowed := true, recurses := true, loops := true, apart := false }
def GridStepsSaid : Prop := gridStepsRow.holds Try.pinned (OpenSpec.ofChange gridStepsSpec)

/-- ITS FALSE NEIGHBOUR: 'it returns false'. Refute it at one input. -/
def gridStepsWrong : ChangeSpec := { name := "gridSteps", fn := fun _ => fun
  | [d1, d2, d3, d4, d5, d6, d7] => { results := [.lit (.bool false)], args := [d1, d2, d3, d4, d5, d6, d7] }
  | _ => none }
def GridStepsWrongFalsely : Prop := gridStepsRow.holds Try.pinned (OpenSpec.ofChange gridStepsWrong)

/- THE SECOND FORM. 'bulk': how many values and letters a reading holds, each counted each time it is reached (what is shared counts as often as it is met; a slice's spare places count too). A statement '..UptoSaid' is the law's where the arguments, and the package variables that the reading takes, are together of bulk at most 1048576: NARROWER than '..Said'. Prove '..Said' where nothing that the law and all that it calls make is longer than what came in: it says more and counts as full. Else prove '..UptoSaid'. A law counts once. -/
mutual
def uptoBulk {H : Type} : DataW H → Nat
  | .lit (.string bytes) => bytes.length + 1
  | .lit _ => 1
  | .nil => 1
  | .ptr d => uptoBulk d + 1
  | .slice elems spare => uptoBulkAll elems + uptoBulkAll spare + 1
  | .agg parts => uptoBulkAll parts + 1
  | .iface _ d => uptoBulk d + 1
  | .map entries => uptoBulkEntries entries + 1
  | .held _ => 1
def uptoBulkAll {H : Type} : List (DataW H) → Nat
  | [] => 0
  | d :: r => uptoBulk d + uptoBulkAll r
def uptoBulkEntries {H : Type} : List (Lit × DataW H) → Nat
  | [] => 0
  | x :: r => uptoBulkEntry x + uptoBulkEntries r
def uptoBulkEntry {H : Type} : Lit × DataW H → Nat
  | (.string bytes, d) => bytes.length + uptoBulk d + 1
  | (_, d) => uptoBulk d + 1
 end
def uptoSmall : (H : Type) → List (DataW H) → Bool := fun _ ds => decide (uptoBulkAll ds ≤ 1048576)
def OpenSpec.upto (s : _root_.Go.ChangeSpec) : _root_.Go.OpenSpec := { _root_.Go.OpenSpec.ofChange s with cond := some uptoSmall }

/-- 'waterwheellaw09.GridNeeds', WHERE WHAT IT READS IS OF BULK AT MOST 1048576: true; the input reads as it did. -/
def gridNeedsUptoRow : OpenClaim := { program := "ytdmojmadklckbaa", sum := "b9d4d6dccf1707e89072de35ec62d1cf02dd2742e261b444565a7cfca6fbffac", func := "waterwheel/waterwheellaw09.GridNeeds", spec := "gridNeeds", unfollowed := true, recurses := true, loops := true, apart := false, narrowed := true }
def GridNeedsUptoSaid : Prop := gridNeedsUptoRow.holds Try.pinned (OpenSpec.upto gridNeedsSpec)

/-- 'waterwheellaw09.GridNames', WHERE WHAT IT READS IS OF BULK AT MOST 1048576: true; the input reads as it did. -/
def gridNamesUptoRow : OpenClaim := { program := "ytdmojmadklckbaa", sum := "b9d4d6dccf1707e89072de35ec62d1cf02dd2742e261b444565a7cfca6fbffac", func := "waterwheel/waterwheellaw09.GridNames", spec := "gridNames", unfollowed := true, recurses := true, apart := false, narrowed := true }
def GridNamesUptoSaid : Prop := gridNamesUptoRow.holds Try.pinned (OpenSpec.upto gridNamesSpec)

/-- 'waterwheellaw09.GridCalls', WHERE WHAT IT READS IS OF BULK AT MOST 1048576: true; the input reads as it did. -/
def gridCallsUptoRow : OpenClaim := { program := "ytdmojmadklckbaa", sum := "b9d4d6dccf1707e89072de35ec62d1cf02dd2742e261b444565a7cfca6fbffac", func := "waterwheel/waterwheellaw09.GridCalls", spec := "gridCalls", unfollowed := true, recurses := true, loops := true, apart := false, narrowed := true }
def GridCallsUptoSaid : Prop := gridCallsUptoRow.holds Try.pinned (OpenSpec.upto gridCallsSpec)

/-- 'waterwheellaw09.GridSteps', WHERE WHAT IT READS IS OF BULK AT MOST 1048576: true; the input reads as it did. -/
def gridStepsUptoRow : OpenClaim := { program := "ytdmojmadklckbaa", sum := "b9d4d6dccf1707e89072de35ec62d1cf02dd2742e261b444565a7cfca6fbffac", func := "waterwheel/waterwheellaw09.GridSteps", spec := "gridSteps", unfollowed := true, recurses := true, loops := true, apart := false, narrowed := true }
def GridStepsUptoSaid : Prop := gridStepsUptoRow.holds Try.pinned (OpenSpec.upto gridStepsSpec)

end Rows
end Go.Proofs.Ytdmojmadklckbaa
