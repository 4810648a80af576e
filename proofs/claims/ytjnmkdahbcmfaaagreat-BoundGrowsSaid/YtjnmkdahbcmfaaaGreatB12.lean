/- Walks and plain laws, part 12 of 30: BoundNumbers: the kernel runs some texts (A 19); BoundNumbers: the kernel runs some texts (A 20); BoundNumbers: the kernel runs some texts (A 22). Conditions: none beyond those that each theorem states. -/
import Derived.Test.YtjnmkdahbcmfaaaGreatB11
/- BoundNumbers: the kernel runs some texts (A 19). -/
namespace Go.Proofs.YtjnmkdahbcmfaaaGreat
open Go.ChangeShapes Go.WideShapes Go.ChangeAt Go.RowKit Go.Ev
set_option linter.unusedVariables false
set_option maxRecDepth 100000
theorem runA19x1 : (preOK (textB 5 true true) X5tt && (decide ((canT X5tt).length ≤ 1000) && refB (spoil X5tt) 0 3 0 3)) = true := by kernel_rfl
end Go.Proofs.YtjnmkdahbcmfaaaGreat

/- BoundNumbers: the kernel runs some texts (A 20). -/
namespace Go.Proofs.YtjnmkdahbcmfaaaGreat
open Go.ChangeShapes Go.WideShapes Go.ChangeAt Go.RowKit Go.Ev
set_option linter.unusedVariables false
set_option maxRecDepth 100000
theorem runA20x2 : ((preOK (textB 6 false false) X6ff && (decide ((canT X6ff).length ≤ 1000) && refB (X6ff) 0 0 3 0)) && (preOK (textB 6 false true) X6ft && (decide ((canT X6ft).length ≤ 1000) && refB (X6ft) 0 0 3 0))) = true := by kernel_rfl
end Go.Proofs.YtjnmkdahbcmfaaaGreat

/- BoundNumbers: the kernel runs some texts (A 22). -/
namespace Go.Proofs.YtjnmkdahbcmfaaaGreat
open Go.ChangeShapes Go.WideShapes Go.ChangeAt Go.RowKit Go.Ev
set_option linter.unusedVariables false
set_option maxRecDepth 100000
theorem runA22x2 : ((preOK (textB 7 false false) X7ff && (decide ((canT X7ff).length ≤ 1000) && refB (X7ff) 2 0 3 0)) && (preOK (textB 7 false true) X7ft && (decide ((canT X7ft).length ≤ 1000) && refB (X7ft) 2 0 3 0))) = true := by kernel_rfl
end Go.Proofs.YtjnmkdahbcmfaaaGreat
