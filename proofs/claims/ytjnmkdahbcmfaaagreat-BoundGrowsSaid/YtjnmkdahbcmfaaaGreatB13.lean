/- Walks and plain laws, part 13 of 30: BoundNumbers: the kernel runs some texts (A 24); BoundNumbers: the kernel runs some texts (A 26); BoundNumbers: the kernel runs some texts (A 28). Conditions: none beyond those that each theorem states. -/
import Derived.Test.YtjnmkdahbcmfaaaGreatB12
/- BoundNumbers: the kernel runs some texts (A 24). -/
namespace Go.Proofs.YtjnmkdahbcmfaaaGreat
open Go.ChangeShapes Go.WideShapes Go.ChangeAt Go.RowKit Go.Ev
set_option linter.unusedVariables false
set_option maxRecDepth 100000
theorem runA24x2 : ((preOK (textB 7 true false) X7tf && (decide ((canT X7tf).length ≤ 1000) && refB (X7tf) 2 0 3 0)) && (preOK (textB 7 true true) X7tt && (decide ((canT X7tt).length ≤ 1000) && refB (X7tt) 2 0 3 0))) = true := by kernel_rfl
end Go.Proofs.YtjnmkdahbcmfaaaGreat

/- BoundNumbers: the kernel runs some texts (A 26). -/
namespace Go.Proofs.YtjnmkdahbcmfaaaGreat
open Go.ChangeShapes Go.WideShapes Go.ChangeAt Go.RowKit Go.Ev
set_option linter.unusedVariables false
set_option maxRecDepth 100000
theorem runA26x2 : ((preOK (textB 8 false false) X8ff && (decide ((canT X8ff).length ≤ 1000) && refB (X8ff) 1 0 2 0)) && (preOK (textB 8 false true) X8ft && (decide ((canT X8ft).length ≤ 1000) && refB (X8ft) 1 0 2 0))) = true := by kernel_rfl
end Go.Proofs.YtjnmkdahbcmfaaaGreat

/- BoundNumbers: the kernel runs some texts (A 28). -/
namespace Go.Proofs.YtjnmkdahbcmfaaaGreat
open Go.ChangeShapes Go.WideShapes Go.ChangeAt Go.RowKit Go.Ev
set_option linter.unusedVariables false
set_option maxRecDepth 100000
theorem runA28x4 : ((preOK (textB 9 false false) X9ff && (decide ((canT X9ff).length ≤ 1000) && refB (X9ff) 0 0 3 0)) && ((preOK (textB 9 false true) X9ft && (decide ((canT X9ft).length ≤ 1000) && refB (X9ft) 0 0 3 0)) && ((preOK (textB 9 true false) X9tf && (decide ((canT X9tf).length ≤ 1000) && refB (X9tf) 0 0 3 0)) && (preOK (textB 9 true true) X9tt && (decide ((canT X9tt).length ≤ 1000) && refB (X9tt) 0 0 3 0))))) = true := by kernel_rfl
end Go.Proofs.YtjnmkdahbcmfaaaGreat
