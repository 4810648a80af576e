/- Walks and plain laws, part 20 of 30: BoundNumbers: the kernel runs some texts (C 21); BoundNumbers: the kernel runs some texts (C 22); BoundNumbers: the kernel runs some texts (C 23). Conditions: none beyond those that each theorem states. -/
import Derived.Test.YtjnmkdahbcmfaaaGreatB19
/- BoundNumbers: the kernel runs some texts (C 21). -/
namespace Go.Proofs.YtjnmkdahbcmfaaaGreat
open Go.ChangeShapes Go.WideShapes Go.ChangeAt Go.RowKit Go.Ev
set_option linter.unusedVariables false
set_option maxRecDepth 100000
theorem runC21x1 : proB (X6ft) 0 0 3 0 = true := by kernel_rfl
end Go.Proofs.YtjnmkdahbcmfaaaGreat

/- BoundNumbers: the kernel runs some texts (C 22). -/
namespace Go.Proofs.YtjnmkdahbcmfaaaGreat
open Go.ChangeShapes Go.WideShapes Go.ChangeAt Go.RowKit Go.Ev
set_option linter.unusedVariables false
set_option maxRecDepth 100000
theorem runC22x1 : proB (X7ff) 2 0 3 0 = true := by kernel_rfl
end Go.Proofs.YtjnmkdahbcmfaaaGreat

/- BoundNumbers: the kernel runs some texts (C 23). -/
namespace Go.Proofs.YtjnmkdahbcmfaaaGreat
open Go.ChangeShapes Go.WideShapes Go.ChangeAt Go.RowKit Go.Ev
set_option linter.unusedVariables false
set_option maxRecDepth 100000
theorem runC23x1 : proB (X7ft) 2 0 3 0 = true := by kernel_rfl
end Go.Proofs.YtjnmkdahbcmfaaaGreat
