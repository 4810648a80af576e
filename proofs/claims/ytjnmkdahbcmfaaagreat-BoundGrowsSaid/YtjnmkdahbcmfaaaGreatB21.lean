/- Walks and plain laws, part 21 of 30: BoundNumbers: the kernel runs some texts (C 24); BoundNumbers: the kernel runs some texts (C 25); BoundNumbers: the kernel runs some texts (C 26). Conditions: none beyond those that each theorem states. -/
import Derived.Test.YtjnmkdahbcmfaaaGreatB20
/- BoundNumbers: the kernel runs some texts (C 24). -/
namespace Go.Proofs.YtjnmkdahbcmfaaaGreat
open Go.ChangeShapes Go.WideShapes Go.ChangeAt Go.RowKit Go.Ev
set_option linter.unusedVariables false
set_option maxRecDepth 100000
theorem runC24x1 : proB (X7tf) 2 0 3 0 = true := by kernel_rfl
end Go.Proofs.YtjnmkdahbcmfaaaGreat

/- BoundNumbers: the kernel runs some texts (C 25). -/
namespace Go.Proofs.YtjnmkdahbcmfaaaGreat
open Go.ChangeShapes Go.WideShapes Go.ChangeAt Go.RowKit Go.Ev
set_option linter.unusedVariables false
set_option maxRecDepth 100000
theorem runC25x1 : proB (X7tt) 2 0 3 0 = true := by kernel_rfl
end Go.Proofs.YtjnmkdahbcmfaaaGreat

/- BoundNumbers: the kernel runs some texts (C 26). -/
namespace Go.Proofs.YtjnmkdahbcmfaaaGreat
open Go.ChangeShapes Go.WideShapes Go.ChangeAt Go.RowKit Go.Ev
set_option linter.unusedVariables false
set_option maxRecDepth 100000
theorem runC26x1 : proB (X8ff) 1 0 2 0 = true := by kernel_rfl
end Go.Proofs.YtjnmkdahbcmfaaaGreat
