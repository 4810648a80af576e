/- Walks and plain laws, part 24 of 30: BoundNumbers: the kernel runs some texts (C 36); BoundNumbers: the kernel runs some texts (C 39); BoundNumbers: the kernel runs some texts (C 42). Conditions: none beyond those that each theorem states. -/
import Derived.Test.YtjnmkdahbcmfaaaGreatB23
/- BoundNumbers: the kernel runs some texts (C 36). -/
namespace Go.Proofs.YtjnmkdahbcmfaaaGreat
open Go.ChangeShapes Go.WideShapes Go.ChangeAt Go.RowKit Go.Ev
set_option linter.unusedVariables false
set_option maxRecDepth 100000
theorem runC36x3 : (proB (X12ff) 0 0 2 0 && (proB (X12ft) 0 0 2 0 && proB (X13ff) 0 0 1 0)) = true := by kernel_rfl
end Go.Proofs.YtjnmkdahbcmfaaaGreat

/- BoundNumbers: the kernel runs some texts (C 39). -/
namespace Go.Proofs.YtjnmkdahbcmfaaaGreat
open Go.ChangeShapes Go.WideShapes Go.ChangeAt Go.RowKit Go.Ev
set_option linter.unusedVariables false
set_option maxRecDepth 100000
theorem runC39x3 : (proB (X13ft) 0 0 1 0 && (proB (X13tf) 0 0 1 0 && proB (X13tt) 0 0 1 0)) = true := by kernel_rfl
end Go.Proofs.YtjnmkdahbcmfaaaGreat

/- BoundNumbers: the kernel runs some texts (C 42). -/
namespace Go.Proofs.YtjnmkdahbcmfaaaGreat
open Go.ChangeShapes Go.WideShapes Go.ChangeAt Go.RowKit Go.Ev
set_option linter.unusedVariables false
set_option maxRecDepth 100000
theorem runC42x1 : proB (X14ff) 0 0 3 0 = true := by kernel_rfl
end Go.Proofs.YtjnmkdahbcmfaaaGreat
