/-
  No cell of these rows narrows 'for every input' (looked for: loops, veiled, ifaces, maps, wideKeys, modest, calm, conditions, laid).
  DERIVED. THE GIVEN ROWS OF THIS SEAT. 2 by the template 'for every input the law returns true; each argument reads behind the call as it read before'; 0 by the template 'total and deterministic' (their statements: YtkheeiipkdeihaaTotals.lean).
  GIVEN WITH THE SEED: the statements are not yours to turn. If you find one false, say at which input.
  Laid BY PROGRAM, IN A SANDBOX (cutbox-rows.mjs): the forced cells as the released guide's own fill.sh prints them over the translation 97dd50098669c92f… (all of the seat's roots in one cut). By AI agents, Wed Nov 11 2026. No macro, syntax, notation, axiom, sorry.
-/
import Derived.Test.YtkheeiipkdeihaaChecked
import GoSem.Claim
import GoSem.ClaimJoined
import GoSem.ClaimMapViews
import Derived.JoinedTies
import Derived.KernelRfl
namespace Go.Proofs.Ytkheeiipkdeihaa
/- THE CELL 'sum', in the pinned program and in every row, IS THE sha256 OF THE DUMP (.gsa) THAT YtkheeiipkdeihaaProg.lean LOADS. Nothing in Lean hashes anything: it is a label: what it is worth is what the hold of that sum in a sandbox is worth. -/
noncomputable def Try.pinned : Pinned := { name := "ytkheeiipkdeihaa", sum := "97dd50098669c92fc291df94776c51ad9542b1ce7485d55becb8cceb950c7ec4", checked := Try.checked }
namespace Rows
def none {H : Type} : Left H := { results := [], args := [] }

/-- 'waterwheellaw12.InternOrders': WHATEVER THE INPUT: true; the input reads as it did. -/
def internOrdersSpec : ChangeSpec := { name := "internOrders", fn := fun _ => fun
  | [d] => { results := [.lit (.bool true)], args := [d] }
  | _ => none }
def internOrdersRow : OpenClaim := { program := "ytkheeiipkdeihaa", sum := "97dd50098669c92fc291df94776c51ad9542b1ce7485d55becb8cceb950c7ec4", func := "waterwheel/waterwheellaw12.InternOrders", spec := "internOrders", unfollowed := true, recurses := true, apart := false }
def InternOrdersSaid : Prop := internOrdersRow.holds Try.pinned (OpenSpec.ofChange internOrdersSpec)

/-- ITS FALSE NEIGHBOUR: 'it returns false'. Refute it at one input. -/
def internOrdersWrong : ChangeSpec := { name := "internOrders", fn := fun _ => fun
  | [d] => { results := [.lit (.bool false)], args := [d] }
  | _ => none }
def InternOrdersWrongFalsely : Prop := internOrdersRow.holds Try.pinned (OpenSpec.ofChange internOrdersWrong)

/-- 'waterwheellaw12.InternNil': WHATEVER THE INPUT: true; the input reads as it did. -/
def internNilSpec : ChangeSpec := { name := "internNil", fn := fun _ => fun
  | [d1, d2] => { results := [.lit (.bool true)], args := [d1, d2] }
  | _ => none }
def internNilRow : OpenClaim := { program := "ytkheeiipkdeihaa", sum := "97dd50098669c92fc291df94776c51ad9542b1ce7485d55becb8cceb950c7ec4", func := "waterwheel/waterwheellaw12.InternNil", spec := "internNil", unfollowed := true, recurses := true, apart := false }
def InternNilSaid : Prop := internNilRow.holds Try.pinned (OpenSpec.ofChange internNilSpec)

/-- ITS FALSE NEIGHBOUR: 'it returns false'. Refute it at one input. -/
def internNilWrong : ChangeSpec := { name := "internNil", fn := fun _ => fun
  | [d1, d2] => { results := [.lit (.bool false)], args := [d1, d2] }
  | _ => none }
def InternNilWrongFalsely : Prop := internNilRow.holds Try.pinned (OpenSpec.ofChange internNilWrong)

/- THE SECOND FORM. 'bulk': how many values and letters a reading holds, each counted each time it is reached (what is shared counts as often as it is met; a slice's spare places count too). A statement '..UptoSaid' is the law's where the arguments, and the package variables that the reading takes, are together of bulk at most 1048576: NARROWER than '..Said'. Prove '..Said' where nothing that the law and all that it calls make is longer than what came in: it says more and counts as full. Else prove '..UptoSaid'. A law counts once. -/
mutual
def uptoBulk {H : Type} : DataW H → Nat
  | .lit (.string bytes) => bytes.length + 1
  | .lit _ => 1
  | .nil => 1
  | .ptr d => uptoBulk d + 1
  | .slice elems spare => uptoBulkAll elems + uptoBulkAll spare + 1
  | .agg parts => uptoBulkAll parts + 1
  | .iface _ d => uptoBulk d + 1
  | .map entries => uptoBulkEntries entries + 1
  | .held _ => 1
def uptoBulkAll {H : Type} : List (DataW H) → Nat
  | [] => 0
  | d :: r => uptoBulk d + uptoBulkAll r
def uptoBulkEntries {H : Type} : List (Lit × DataW H) → Nat
  | [] => 0
  | x :: r => uptoBulkEntry x + uptoBulkEntries r
def uptoBulkEntry {H : Type} : Lit × DataW H → Nat
  | (.string bytes, d) => bytes.length + uptoBulk d + 1
  | (_, d) => uptoBulk d + 1
 end
def uptoSmall : (H : Type) → List (DataW H) → Bool := fun _ ds => decide (uptoBulkAll ds ≤ 1048576)
def OpenSpec.upto (s : _root_.Go.ChangeSpec) : _root_.Go.OpenSpec := { _root_.Go.OpenSpec.ofChange s with cond := some uptoSmall }

/-- 'waterwheellaw12.InternOrders', WHERE WHAT IT READS IS OF BULK AT MOST 1048576: true; the input reads as it did. -/
def internOrdersUptoRow : OpenClaim := { program := "ytkheeiipkdeihaa", sum := "97dd50098669c92fc291df94776c51ad9542b1ce7485d55becb8cceb950c7ec4", func := "waterwheel/waterwheellaw12.InternOrders", spec := "internOrders", unfollowed := true, recurses := true, apart := false, narrowed := true }
def InternOrdersUptoSaid : Prop := internOrdersUptoRow.holds Try.pinned (OpenSpec.upto internOrdersSpec)

/-- 'waterwheellaw12.InternNil', WHERE WHAT IT READS IS OF BULK AT MOST 1048576: true; the input reads as it did. -/
def internNilUptoRow : OpenClaim := { program := "ytkheeiipkdeihaa", sum := "97dd50098669c92fc291df94776c51ad9542b1ce7485d55becb8cceb950c7ec4", func := "waterwheel/waterwheellaw12.InternNil", spec := "internNil", unfollowed := true, recurses := true, apart := false, narrowed := true }
def InternNilUptoSaid : Prop := internNilUptoRow.holds Try.pinned (OpenSpec.upto internNilSpec)

end Rows
end Go.Proofs.Ytkheeiipkdeihaa
