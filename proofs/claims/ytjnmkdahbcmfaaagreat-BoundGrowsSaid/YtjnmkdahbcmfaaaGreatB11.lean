/- Walks and plain laws, part 11 of 30: BoundNumbers: the kernel runs some texts (A 12); BoundNumbers: the kernel runs some texts (A 16); BoundNumbers: the kernel runs some texts (A 18). Conditions: none beyond those that each theorem states. -/
import Derived.Test.YtjnmkdahbcmfaaaGreatB10
/- BoundNumbers: the kernel runs some texts (A 12). -/
namespace Go.Proofs.YtjnmkdahbcmfaaaGreat
open Go.ChangeShapes Go.WideShapes Go.ChangeAt Go.RowKit Go.Ev
set_option linter.unusedVariables false
set_option maxRecDepth 100000
theorem runA12x4 : ((preOK (textB 4 false false) X4ff && (decide ((canT X4ff).length ≤ 1000) && refB (X4ff) 0 0 3 0)) && ((preOK (textB 4 false true) X4ft && (decide ((canT X4ft).length ≤ 1000) && refB (X4ft) 0 0 3 0)) && ((preOK (textB 4 true false) X4tf && (decide ((canT X4tf).length ≤ 1000) && refB (X4tf) 0 0 3 0)) && (preOK (textB 4 true true) X4tt && (decide ((canT X4tt).length ≤ 1000) && refB (X4tt) 0 0 3 0))))) = true := by kernel_rfl
end Go.Proofs.YtjnmkdahbcmfaaaGreat

/- BoundNumbers: the kernel runs some texts (A 16). -/
namespace Go.Proofs.YtjnmkdahbcmfaaaGreat
open Go.ChangeShapes Go.WideShapes Go.ChangeAt Go.RowKit Go.Ev
set_option linter.unusedVariables false
set_option maxRecDepth 100000
theorem runA16x2 : ((preOK (textB 5 false false) X5ff && (decide ((canT X5ff).length ≤ 1000) && refB (spoil X5ff) 0 3 0 3)) && (preOK (textB 5 false true) X5ft && (decide ((canT X5ft).length ≤ 1000) && refB (spoil X5ft) 0 3 0 3))) = true := by kernel_rfl
end Go.Proofs.YtjnmkdahbcmfaaaGreat

/- BoundNumbers: the kernel runs some texts (A 18). -/
namespace Go.Proofs.YtjnmkdahbcmfaaaGreat
open Go.ChangeShapes Go.WideShapes Go.ChangeAt Go.RowKit Go.Ev
set_option linter.unusedVariables false
set_option maxRecDepth 100000
theorem runA18x1 : (preOK (textB 5 true false) X5tf && (decide ((canT X5tf).length ≤ 1000) && refB (spoil X5tf) 0 3 0 3)) = true := by kernel_rfl
end Go.Proofs.YtjnmkdahbcmfaaaGreat
