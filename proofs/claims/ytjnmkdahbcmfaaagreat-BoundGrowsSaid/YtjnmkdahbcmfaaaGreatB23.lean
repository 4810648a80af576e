/- Walks and plain laws, part 23 of 30: BoundNumbers: the kernel runs some texts (C 32); BoundNumbers: the kernel runs some texts (C 33); BoundNumbers: the kernel runs some texts (C 34). Conditions: none beyond those that each theorem states. -/
import Derived.Test.YtjnmkdahbcmfaaaGreatB22
/- BoundNumbers: the kernel runs some texts (C 32). -/
namespace Go.Proofs.YtjnmkdahbcmfaaaGreat
open Go.ChangeShapes Go.WideShapes Go.ChangeAt Go.RowKit Go.Ev
set_option linter.unusedVariables false
set_option maxRecDepth 100000
theorem runC32x1 : proB (X10ff) 0 0 4 0 = true := by kernel_rfl
end Go.Proofs.YtjnmkdahbcmfaaaGreat

/- BoundNumbers: the kernel runs some texts (C 33). -/
namespace Go.Proofs.YtjnmkdahbcmfaaaGreat
open Go.ChangeShapes Go.WideShapes Go.ChangeAt Go.RowKit Go.Ev
set_option linter.unusedVariables false
set_option maxRecDepth 100000
theorem runC33x1 : proB (X10ft) 0 0 4 0 = true := by kernel_rfl
end Go.Proofs.YtjnmkdahbcmfaaaGreat

/- BoundNumbers: the kernel runs some texts (C 34). -/
namespace Go.Proofs.YtjnmkdahbcmfaaaGreat
open Go.ChangeShapes Go.WideShapes Go.ChangeAt Go.RowKit Go.Ev
set_option linter.unusedVariables false
set_option maxRecDepth 100000
theorem runC34x1 : proB (X11ff) 1 0 3 0 = true := by kernel_rfl
end Go.Proofs.YtjnmkdahbcmfaaaGreat
