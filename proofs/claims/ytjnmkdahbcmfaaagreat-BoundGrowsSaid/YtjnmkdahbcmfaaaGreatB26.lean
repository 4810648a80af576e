/- Walks and plain laws, part 26 of 30: BoundNumbers: the kernel runs some texts (C 46); BoundNumbers: the kernel runs some texts (C 47). Conditions: none beyond those that each theorem states. -/
import Derived.Test.YtjnmkdahbcmfaaaGreatB25
/- BoundNumbers: the kernel runs some texts (C 46). -/
namespace Go.Proofs.YtjnmkdahbcmfaaaGreat
open Go.ChangeShapes Go.WideShapes Go.ChangeAt Go.RowKit Go.Ev
set_option linter.unusedVariables false
set_option maxRecDepth 100000
theorem runC46x1 : proB (X15tf) 4 0 3 0 = true := by kernel_rfl
end Go.Proofs.YtjnmkdahbcmfaaaGreat

/- BoundNumbers: the kernel runs some texts (C 47). -/
namespace Go.Proofs.YtjnmkdahbcmfaaaGreat
open Go.ChangeShapes Go.WideShapes Go.ChangeAt Go.RowKit Go.Ev
set_option linter.unusedVariables false
set_option maxRecDepth 100000
theorem runC47x1 : proB (X15tt) 4 0 3 0 = true := by kernel_rfl
end Go.Proofs.YtjnmkdahbcmfaaaGreat
