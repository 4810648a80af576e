/- Walks and plain laws, part 15 of 30: BoundNumbers: the kernel runs some texts (A 36); BoundNumbers: the kernel runs some texts (A 40); BoundNumbers: the kernel runs some texts (A 44). Conditions: none beyond those that each theorem states. -/
import Derived.Test.YtjnmkdahbcmfaaaGreatB14
/- BoundNumbers: the kernel runs some texts (A 36). -/
namespace Go.Proofs.YtjnmkdahbcmfaaaGreat
open Go.ChangeShapes Go.WideShapes Go.ChangeAt Go.RowKit Go.Ev
set_option linter.unusedVariables false
set_option maxRecDepth 100000
theorem runA36x4 : ((preOK (textB 12 false false) X12ff && (decide ((canT X12ff).length ≤ 1000) && refB (X12ff) 0 0 2 0)) && ((preOK (textB 12 false true) X12ft && (decide ((canT X12ft).length ≤ 1000) && refB (X12ft) 0 0 2 0)) && ((preOK (textB 13 false false) X13ff && (decide ((canT X13ff).length ≤ 1000) && refB (X13ff) 0 0 1 0)) && (preOK (textB 13 false true) X13ft && (decide ((canT X13ft).length ≤ 1000) && refB (X13ft) 0 0 1 0))))) = true := by kernel_rfl
end Go.Proofs.YtjnmkdahbcmfaaaGreat

/- BoundNumbers: the kernel runs some texts (A 40). -/
namespace Go.Proofs.YtjnmkdahbcmfaaaGreat
open Go.ChangeShapes Go.WideShapes Go.ChangeAt Go.RowKit Go.Ev
set_option linter.unusedVariables false
set_option maxRecDepth 100000
theorem runA40x4 : ((preOK (textB 13 true false) X13tf && (decide ((canT X13tf).length ≤ 1000) && refB (X13tf) 0 0 1 0)) && ((preOK (textB 13 true true) X13tt && (decide ((canT X13tt).length ≤ 1000) && refB (X13tt) 0 0 1 0)) && ((preOK (textB 14 false false) X14ff && (decide ((canT X14ff).length ≤ 1000) && refB (X14ff) 0 0 3 0)) && (preOK (textB 14 false true) X14ft && (decide ((canT X14ft).length ≤ 1000) && refB (X14ft) 0 0 3 0))))) = true := by kernel_rfl
end Go.Proofs.YtjnmkdahbcmfaaaGreat

/- BoundNumbers: the kernel runs some texts (A 44). -/
namespace Go.Proofs.YtjnmkdahbcmfaaaGreat
open Go.ChangeShapes Go.WideShapes Go.ChangeAt Go.RowKit Go.Ev
set_option linter.unusedVariables false
set_option maxRecDepth 100000
theorem runA44x2 : ((preOK (textB 15 false false) X15ff && (decide ((canT X15ff).length ≤ 1000) && refB (X15ff) 4 0 3 0)) && (preOK (textB 15 false true) X15ft && (decide ((canT X15ft).length ≤ 1000) && refB (X15ft) 4 0 3 0))) = true := by kernel_rfl
end Go.Proofs.YtjnmkdahbcmfaaaGreat
