/- Walks and plain laws, part 2 of 6: BoundNumbers: the kernel runs some texts (G 16); BoundNumbers: the kernel runs some texts (G 17); BoundNumbers: the kernel runs some texts (G 18). Conditions: none beyond those that each theorem states. -/
import Derived.Test.YtjnmkdahbcmfaaaGreatC1
/- BoundNumbers: the kernel runs some texts (G 16). -/
namespace Go.Proofs.YtjnmkdahbcmfaaaGreat
open Go.ChangeShapes Go.WideShapes Go.ChangeAt Go.RowKit Go.Ev
set_option linter.unusedVariables false
set_option maxRecDepth 100000
theorem runG16x1 : proB (X5ff) 1 0 2 0 = true := by kernel_rfl
end Go.Proofs.YtjnmkdahbcmfaaaGreat

/- BoundNumbers: the kernel runs some texts (G 17). -/
namespace Go.Proofs.YtjnmkdahbcmfaaaGreat
open Go.ChangeShapes Go.WideShapes Go.ChangeAt Go.RowKit Go.Ev
set_option linter.unusedVariables false
set_option maxRecDepth 100000
theorem runG17x1 : proB (X5ft) 1 0 2 0 = true := by kernel_rfl
end Go.Proofs.YtjnmkdahbcmfaaaGreat

/- BoundNumbers: the kernel runs some texts (G 18). -/
namespace Go.Proofs.YtjnmkdahbcmfaaaGreat
open Go.ChangeShapes Go.WideShapes Go.ChangeAt Go.RowKit Go.Ev
set_option linter.unusedVariables false
set_option maxRecDepth 100000
theorem runG18x1 : proB (X5tf) 1 0 2 0 = true := by kernel_rfl
end Go.Proofs.YtjnmkdahbcmfaaaGreat
