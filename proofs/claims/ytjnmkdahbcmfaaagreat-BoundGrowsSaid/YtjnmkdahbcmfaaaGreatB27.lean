/- Walks and plain laws, part 27 of 30: BoundNumbers: the class of X11tf in parts: the check of its grammar, FOLLOW. Conditions: none beyond those that each theorem states. -/
import Derived.Test.YtjnmkdahbcmfaaaGreatB26
/- BoundNumbers: the class of X11tf in parts: the check of its grammar, FOLLOW. -/
namespace Go.Proofs.YtjnmkdahbcmfaaaGreat
open Go.ChangeShapes Go.WideShapes Go.ChangeAt Go.RowKit Go.Ev
set_option linter.unusedVariables false
set_option maxRecDepth 100000
noncomputable def gr35 : DTr := match X11tf with | .agg l => .agg (l.take 6) | t => t
noncomputable def fo35 : DTr := .tup [.sl 147 1 4 0 4 false 0 [Rw 45 1 30 0 6 false 0 [1,1,1,1,1,2,2,1,1,1,3,2,2,1,1,3,2,3,1,1,3,3,1,1,1,3,3,4,1,1], Rw 45 1 15 0 3 false 0 [2,2,1,1,1,3,2,2,1,1,3,2,3,1,1], Rw 45 1 15 0 3 false 0 [2,2,1,1,1,3,2,2,1,1,3,2,3,1,1], Rw 45 1 25 0 5 false 0 [2,2,1,1,1,3,2,2,1,1,3,2,3,1,1,3,3,1,1,1,3,3,4,1,1]], I 0, I 0]
theorem chk35 : gcall Tryz.prog noSums 1000 100 52 [gr35] (I 0) = true := by kernel_rfl
noncomputable def sa35 : Sums := fun f => pk f 52 (gsum [gr35] (I 0)) (sums1 f)
theorem sa35_s : GoodS sa35 := fun f s h => pk_s h (gsum_s (fun f s h => by cases h) chk35) fun h => sums1_s f s h
theorem fol35 : gcall Tryz.prog sa35 1000 100 235 [gr35] fo35 = true := by kernel_rfl
end Go.Proofs.YtjnmkdahbcmfaaaGreat
