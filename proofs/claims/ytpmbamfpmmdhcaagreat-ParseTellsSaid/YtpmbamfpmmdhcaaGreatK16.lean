/- The reference's parser: term, sum, expr. -/
import Derived.Test.YtpmbamfpmmdhcaaGreatK15
set_option maxRecDepth 100000
set_option maxHeartbeats 16000000
namespace Go.Proofs.YtpmbamfpmmdhcaaGreat
open Go.RowKit
set_option linter.unusedSimpArgs false
set_option linter.unusedVariables false
def signs6 : List ByteArray := [⟨#[60]⟩,⟨#[60,61]⟩,⟨#[62]⟩,⟨#[62,61]⟩,⟨#[61,61]⟩,⟨#[33,61]⟩]
theorem cmp_drop {k : Nat} (h : k < 6) : cmpSigns.drop k = (signs6[k]'h).data.toList :: cmpSigns.drop (k + 1) := by
  have : k = 0 ∨ k = 1 ∨ k = 2 ∨ k = 3 ∨ k = 4 ∨ k = 5 := by omega
  rcases this with rfl | rfl | rfl | rfl | rfl | rfl <;> rfl
end Go.Proofs.YtpmbamfpmmdhcaaGreat
