/- Walks and plain laws, part 28 of 30: BoundNumbers: the class of X11tf in parts: PRED. Conditions: none beyond those that each theorem states. -/
import Derived.Test.YtjnmkdahbcmfaaaGreatB27
/- BoundNumbers: the class of X11tf in parts: PRED. -/
namespace Go.Proofs.YtjnmkdahbcmfaaaGreat
open Go.ChangeShapes Go.WideShapes Go.ChangeAt Go.RowKit Go.Ev
set_option linter.unusedVariables false
set_option maxRecDepth 100000
noncomputable def pr35 : DTr := .tup [.sl 147 1 6 0 6 false 0 [Rw 45 1 10 0 2 false 0 [3,1,1,1,1,3,1,4,1,1], Rw 45 1 20 0 4 false 0 [3,1,1,1,1,3,1,4,1,1,3,4,2,1,1,3,4,3,1,1], Rw 45 1 10 0 2 false 0 [3,3,1,1,1,3,3,4,1,1], Rw 45 1 15 0 3 false 0 [2,2,1,1,1,3,2,2,1,1,3,2,3,1,1], Rw 45 1 10 0 2 false 0 [3,4,2,1,1,3,4,3,1,1], Rw 45 1 10 0 2 false 0 [3,1,1,1,1,3,1,4,1,1]], I 0, I 0]
noncomputable def sb35 : Sums := fun f => pk f 235 (gsum [gr35] fo35) (sa35 f)
theorem sb35_s : GoodS sb35 := fun f s h => pk_s h (gsum_s sa35_s fol35) fun h => sa35_s f s h
noncomputable def sc35 : Sums := memo Tryz.prog sb35 1000 100 [237, 279, 242, 245]
theorem set35 : gcall Tryz.prog sc35 1000 100 208 [gr35] pr35 = true := by kernel_rfl
end Go.Proofs.YtjnmkdahbcmfaaaGreat
