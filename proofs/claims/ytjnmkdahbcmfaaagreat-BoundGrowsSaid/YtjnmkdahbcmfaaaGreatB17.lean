/- Walks and plain laws, part 17 of 30: BoundNumbers: the kernel runs some texts (C 6); BoundNumbers: the kernel runs some texts (C 9); BoundNumbers: the kernel runs some texts (C 12). Conditions: none beyond those that each theorem states. -/
import Derived.Test.YtjnmkdahbcmfaaaGreatB16
/- BoundNumbers: the kernel runs some texts (C 6). -/
namespace Go.Proofs.YtjnmkdahbcmfaaaGreat
open Go.ChangeShapes Go.WideShapes Go.ChangeAt Go.RowKit Go.Ev
set_option linter.unusedVariables false
set_option maxRecDepth 100000
theorem runC6x3 : (proB (X1tf) 1 0 2 0 && (proB (X1tt) 1 0 2 0 && proB (X2ff) 1 0 2 0)) = true := by kernel_rfl
end Go.Proofs.YtjnmkdahbcmfaaaGreat

/- BoundNumbers: the kernel runs some texts (C 9). -/
namespace Go.Proofs.YtjnmkdahbcmfaaaGreat
open Go.ChangeShapes Go.WideShapes Go.ChangeAt Go.RowKit Go.Ev
set_option linter.unusedVariables false
set_option maxRecDepth 100000
theorem runC9x3 : (proB (X2ft) 1 0 2 0 && (proB (X3ff) 0 0 2 0 && proB (X3ft) 0 0 2 0)) = true := by kernel_rfl
end Go.Proofs.YtjnmkdahbcmfaaaGreat

/- BoundNumbers: the kernel runs some texts (C 12). -/
namespace Go.Proofs.YtjnmkdahbcmfaaaGreat
open Go.ChangeShapes Go.WideShapes Go.ChangeAt Go.RowKit Go.Ev
set_option linter.unusedVariables false
set_option maxRecDepth 100000
theorem runC12x3 : (proB (X4ff) 0 0 3 0 && (proB (X4ft) 0 0 3 0 && proB (X4tf) 0 0 3 0)) = true := by kernel_rfl
end Go.Proofs.YtjnmkdahbcmfaaaGreat
