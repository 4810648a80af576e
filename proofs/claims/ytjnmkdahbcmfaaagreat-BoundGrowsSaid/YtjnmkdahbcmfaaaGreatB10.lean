/- Walks and plain laws, part 10 of 30: BoundNumbers: the kernel runs some texts (A 0); BoundNumbers: the kernel runs some texts (A 4); BoundNumbers: the kernel runs some texts (A 8). Conditions: none beyond those that each theorem states. -/
import Derived.Test.YtjnmkdahbcmfaaaGreatB9
/- BoundNumbers: the kernel runs some texts (A 0). -/
namespace Go.Proofs.YtjnmkdahbcmfaaaGreat
open Go.ChangeShapes Go.WideShapes Go.ChangeAt Go.RowKit Go.Ev
set_option linter.unusedVariables false
set_option maxRecDepth 100000
theorem runA0x4 : ((preOK (textB 0 false false) X0ff && (decide ((canT X0ff).length ≤ 1000) && refB (X0ff) 1 0 2 0)) && ((preOK (textB 0 false true) X0ft && (decide ((canT X0ft).length ≤ 1000) && refB (X0ft) 1 0 2 0)) && ((preOK (textB 0 true false) X0tf && (decide ((canT X0tf).length ≤ 1000) && refB (X0tf) 1 0 2 0)) && (preOK (textB 0 true true) X0tt && (decide ((canT X0tt).length ≤ 1000) && refB (X0tt) 1 0 2 0))))) = true := by kernel_rfl
end Go.Proofs.YtjnmkdahbcmfaaaGreat

/- BoundNumbers: the kernel runs some texts (A 4). -/
namespace Go.Proofs.YtjnmkdahbcmfaaaGreat
open Go.ChangeShapes Go.WideShapes Go.ChangeAt Go.RowKit Go.Ev
set_option linter.unusedVariables false
set_option maxRecDepth 100000
theorem runA4x4 : ((preOK (textB 1 false false) X1ff && (decide ((canT X1ff).length ≤ 1000) && refB (X1ff) 1 0 2 0)) && ((preOK (textB 1 false true) X1ft && (decide ((canT X1ft).length ≤ 1000) && refB (X1ft) 1 0 2 0)) && ((preOK (textB 1 true false) X1tf && (decide ((canT X1tf).length ≤ 1000) && refB (X1tf) 1 0 2 0)) && (preOK (textB 1 true true) X1tt && (decide ((canT X1tt).length ≤ 1000) && refB (X1tt) 1 0 2 0))))) = true := by kernel_rfl
end Go.Proofs.YtjnmkdahbcmfaaaGreat

/- BoundNumbers: the kernel runs some texts (A 8). -/
namespace Go.Proofs.YtjnmkdahbcmfaaaGreat
open Go.ChangeShapes Go.WideShapes Go.ChangeAt Go.RowKit Go.Ev
set_option linter.unusedVariables false
set_option maxRecDepth 100000
theorem runA8x4 : ((preOK (textB 2 false false) X2ff && (decide ((canT X2ff).length ≤ 1000) && refB (X2ff) 1 0 2 0)) && ((preOK (textB 2 false true) X2ft && (decide ((canT X2ft).length ≤ 1000) && refB (X2ft) 1 0 2 0)) && ((preOK (textB 3 false false) X3ff && (decide ((canT X3ff).length ≤ 1000) && refB (X3ff) 0 0 2 0)) && (preOK (textB 3 false true) X3ft && (decide ((canT X3ft).length ≤ 1000) && refB (X3ft) 0 0 2 0))))) = true := by kernel_rfl
end Go.Proofs.YtjnmkdahbcmfaaaGreat
