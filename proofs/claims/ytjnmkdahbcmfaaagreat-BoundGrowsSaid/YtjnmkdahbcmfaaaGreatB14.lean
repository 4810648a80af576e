/- Walks and plain laws, part 14 of 30: BoundNumbers: the kernel runs some texts (A 32); BoundNumbers: the kernel runs some texts (A 34); BoundNumbers: the kernel runs some texts (A 35). Conditions: none beyond those that each theorem states. -/
import Derived.Test.YtjnmkdahbcmfaaaGreatB13
/- BoundNumbers: the kernel runs some texts (A 32). -/
namespace Go.Proofs.YtjnmkdahbcmfaaaGreat
open Go.ChangeShapes Go.WideShapes Go.ChangeAt Go.RowKit Go.Ev
set_option linter.unusedVariables false
set_option maxRecDepth 100000
theorem runA32x2 : ((preOK (textB 10 false false) X10ff && (decide ((canT X10ff).length ≤ 1000) && refB (X10ff) 0 0 4 0)) && (preOK (textB 10 false true) X10ft && (decide ((canT X10ft).length ≤ 1000) && refB (X10ft) 0 0 4 0))) = true := by kernel_rfl
end Go.Proofs.YtjnmkdahbcmfaaaGreat

/- BoundNumbers: the kernel runs some texts (A 34). -/
namespace Go.Proofs.YtjnmkdahbcmfaaaGreat
open Go.ChangeShapes Go.WideShapes Go.ChangeAt Go.RowKit Go.Ev
set_option linter.unusedVariables false
set_option maxRecDepth 100000
theorem runA34x1 : (preOK (textB 11 false false) X11ff && (decide ((canT X11ff).length ≤ 1000) && refB (X11ff) 1 0 3 0)) = true := by kernel_rfl
end Go.Proofs.YtjnmkdahbcmfaaaGreat

/- BoundNumbers: the kernel runs some texts (A 35). -/
namespace Go.Proofs.YtjnmkdahbcmfaaaGreat
open Go.ChangeShapes Go.WideShapes Go.ChangeAt Go.RowKit Go.Ev
set_option linter.unusedVariables false
set_option maxRecDepth 100000
theorem runA35x1 : (preOK (textB 11 true false) X11tf && (decide ((canT X11tf).length ≤ 1000) && refB (X11tf) 1 0 3 0)) = true := by kernel_rfl
end Go.Proofs.YtjnmkdahbcmfaaaGreat
