/- Walks and plain laws, part 5 of 6: BoundNumbers: the class of X5tt in parts: the compile. Conditions: none beyond those that each theorem states. -/
import Derived.Test.YtjnmkdahbcmfaaaGreatC4
/- BoundNumbers: the class of X5tt in parts: the compile. -/
namespace Go.Proofs.YtjnmkdahbcmfaaaGreat
open Go.ChangeShapes Go.WideShapes Go.ChangeAt Go.RowKit Go.Ev
set_option linter.unusedVariables false
set_option maxRecDepth 100000
noncomputable def sd19 : Sums := fun f => pk f 208 (gsum [gr19] pr19) (sb19 f)
theorem sd19_s : GoodS sd19 := fun f s h => pk_s h (gsum_s (memo_s sb19_s _) set19) fun h => sb19_s f s h
noncomputable def se19 : Sums := memo Tryz.prog sd19 1000 100 [8, 10, 23, 49, 80, 82, 137, 181, 180, 176, 175, 209, 174, 207, 233, 264, 173, 205, 24, 54, 279, 242, 245]
theorem ok19 : proS se19 X5tt 1 0 2 0 = true := by kernel_rfl
theorem runS19 : Pro X5tt 1 0 2 0 := ⟨se19, memo_s sd19_s _, ok19⟩
end Go.Proofs.YtjnmkdahbcmfaaaGreat
