/- Walks and plain laws, part 4 of 6: BoundNumbers: the class of X5tt in parts: PRED. Conditions: none beyond those that each theorem states. -/
import Derived.Test.YtjnmkdahbcmfaaaGreatC3
/- BoundNumbers: the class of X5tt in parts: PRED. -/
namespace Go.Proofs.YtjnmkdahbcmfaaaGreat
open Go.ChangeShapes Go.WideShapes Go.ChangeAt Go.RowKit Go.Ev
set_option linter.unusedVariables false
set_option maxRecDepth 100000
noncomputable def pr19 : DTr := .tup [.sl 147 1 5 0 5 false 0 [Rw 45 1 30 0 6 false 0 [3,1,1,1,1,3,1,2,1,1,3,1,3,1,1,3,2,2,1,1,3,2,3,1,1,2,3,1,1,1], Rw 45 1 15 0 3 false 0 [3,1,1,1,1,3,1,2,1,1,3,1,3,1,1], Rw 45 1 15 0 3 false 0 [3,2,2,1,1,3,2,3,1,1,2,3,1,1,1], Rw 45 1 10 0 2 false 0 [3,2,2,1,1,3,2,3,1,1], Rw 45 1 5 0 1 false 0 [2,3,1,1,1]], I 0, I 0]
noncomputable def sb19 : Sums := fun f => pk f 235 (gsum [gr19] fo19) (sa19 f)
theorem sb19_s : GoodS sb19 := fun f s h => pk_s h (gsum_s sa19_s fol19) fun h => sa19_s f s h
noncomputable def sc19 : Sums := memo Tryz.prog sb19 1000 100 [237, 279, 242, 245]
theorem set19 : gcall Tryz.prog sc19 1000 100 208 [gr19] pr19 = true := by kernel_rfl
end Go.Proofs.YtjnmkdahbcmfaaaGreat
