/- Walks and plain laws, part 16 of 30: BoundNumbers: the kernel runs some texts (A 46); BoundNumbers: the kernel runs some texts (C 0); BoundNumbers: the kernel runs some texts (C 3). Conditions: none beyond those that each theorem states. -/
import Derived.Test.YtjnmkdahbcmfaaaGreatB15
/- BoundNumbers: the kernel runs some texts (A 46). -/
namespace Go.Proofs.YtjnmkdahbcmfaaaGreat
open Go.ChangeShapes Go.WideShapes Go.ChangeAt Go.RowKit Go.Ev
set_option linter.unusedVariables false
set_option maxRecDepth 100000
theorem runA46x2 : ((preOK (textB 15 true false) X15tf && (decide ((canT X15tf).length ≤ 1000) && refB (X15tf) 4 0 3 0)) && (preOK (textB 15 true true) X15tt && (decide ((canT X15tt).length ≤ 1000) && refB (X15tt) 4 0 3 0))) = true := by kernel_rfl
end Go.Proofs.YtjnmkdahbcmfaaaGreat

/- BoundNumbers: the kernel runs some texts (C 0). -/
namespace Go.Proofs.YtjnmkdahbcmfaaaGreat
open Go.ChangeShapes Go.WideShapes Go.ChangeAt Go.RowKit Go.Ev
set_option linter.unusedVariables false
set_option maxRecDepth 100000
theorem runC0x3 : (proB (X0ff) 1 0 2 0 && (proB (X0ft) 1 0 2 0 && proB (X0tf) 1 0 2 0)) = true := by kernel_rfl
end Go.Proofs.YtjnmkdahbcmfaaaGreat

/- BoundNumbers: the kernel runs some texts (C 3). -/
namespace Go.Proofs.YtjnmkdahbcmfaaaGreat
open Go.ChangeShapes Go.WideShapes Go.ChangeAt Go.RowKit Go.Ev
set_option linter.unusedVariables false
set_option maxRecDepth 100000
theorem runC3x3 : (proB (X0tt) 1 0 2 0 && (proB (X1ff) 1 0 2 0 && proB (X1ft) 1 0 2 0)) = true := by kernel_rfl
end Go.Proofs.YtjnmkdahbcmfaaaGreat
