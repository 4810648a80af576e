/- Walks and plain laws, part 29 of 30: BoundNumbers: the class of X11tf in parts: the compile. Conditions: none beyond those that each theorem states. -/
import Derived.Test.YtjnmkdahbcmfaaaGreatB28
/- BoundNumbers: the class of X11tf in parts: the compile. -/
namespace Go.Proofs.YtjnmkdahbcmfaaaGreat
open Go.ChangeShapes Go.WideShapes Go.ChangeAt Go.RowKit Go.Ev
set_option linter.unusedVariables false
set_option maxRecDepth 100000
noncomputable def sd35 : Sums := fun f => pk f 208 (gsum [gr35] pr35) (sb35 f)
theorem sd35_s : GoodS sd35 := fun f s h => pk_s h (gsum_s (memo_s sb35_s _) set35) fun h => sb35_s f s h
noncomputable def se35 : Sums := memo Tryz.prog sd35 1000 100 [8, 10, 23, 49, 80, 82, 137, 181, 180, 176, 175, 209, 174, 207, 233, 264, 173, 205, 24, 54, 279, 242, 245]
theorem ok35 : proS se35 X11tf 1 0 3 0 = true := by kernel_rfl
theorem runS35 : Pro X11tf 1 0 3 0 := ⟨se35, memo_s sd35_s _, ok35⟩
end Go.Proofs.YtjnmkdahbcmfaaaGreat
