/- Walks and plain laws, part 3 of 6: BoundNumbers: the class of X5tt in parts: the check of its grammar, FOLLOW. Conditions: none beyond those that each theorem states. -/
import Derived.Test.YtjnmkdahbcmfaaaGreatC2
/- BoundNumbers: the class of X5tt in parts: the check of its grammar, FOLLOW. -/
namespace Go.Proofs.YtjnmkdahbcmfaaaGreat
open Go.ChangeShapes Go.WideShapes Go.ChangeAt Go.RowKit Go.Ev
set_option linter.unusedVariables false
set_option maxRecDepth 100000
noncomputable def gr19 : DTr := match X5tt with | .agg l => .agg (l.take 6) | t => t
noncomputable def fo19 : DTr := .tup [.sl 147 1 3 0 3 false 0 [Rw 45 1 5 0 1 false 0 [1,1,1,1,1], Rw 45 1 15 0 3 false 0 [3,2,2,1,1,3,2,3,1,1,2,3,1,1,1], Rw 45 1 5 0 1 false 0 [1,1,1,1,1]], I 0, I 0]
theorem chk19 : gcall Tryz.prog noSums 1000 100 52 [gr19] (I 0) = true := by kernel_rfl
noncomputable def sa19 : Sums := fun f => pk f 52 (gsum [gr19] (I 0)) (sums1 f)
theorem sa19_s : GoodS sa19 := fun f s h => pk_s h (gsum_s (fun f s h => by cases h) chk19) fun h => sums1_s f s h
theorem fol19 : gcall Tryz.prog sa19 1000 100 235 [gr19] fo19 = true := by kernel_rfl
end Go.Proofs.YtjnmkdahbcmfaaaGreat
