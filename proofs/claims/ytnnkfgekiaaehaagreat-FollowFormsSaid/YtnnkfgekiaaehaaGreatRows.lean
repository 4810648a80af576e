/-
  No cell of these rows narrows 'for every input' (looked for: loops, veiled, ifaces, maps, wideKeys, modest, calm, conditions, laid).
  DERIVED. THE GIVEN ROWS OF THIS SEAT. 3 by the template 'for every input the law returns true; each argument reads behind the call as it read before'; 0 by the template 'total and deterministic' (their statements: YtnnkfgekiaaehaaGreatTotals.lean).
  GIVEN WITH THE SEED: the statements are not yours to turn. If you find one false, say at which input.
  Laid BY PROGRAM, IN A SANDBOX (cutbox-rows.mjs): the forced cells as the released guide's own fill.sh prints them over the translation 524acd8e24c0449b… (all of the seat's roots in one cut). By AI agents, Wed Nov 11 2026. No macro, syntax, notation, axiom, sorry.
-/
import Derived.Test.YtnnkfgekiaaehaaGreatChecked
import GoSem.Claim
import GoSem.ClaimJoined
import GoSem.ClaimMapViews
import Derived.JoinedTies
import Derived.KernelRfl
namespace Go.Proofs.YtnnkfgekiaaehaaGreat
/- THE CELL 'sum', in the pinned program and in every row, IS THE sha256 OF THE DUMP (.gsa) THAT YtnnkfgekiaaehaaGreatProg.lean LOADS. Nothing in Lean hashes anything: it is a label: what it is worth is what the hold of that sum in a sandbox is worth. -/
noncomputable def Tryz.pinned : Pinned := { name := "ytnnkfgekiaaehaagreat", sum := "524acd8e24c0449b9a08cccd47dcee6a5c07d2db6341d7cd17eeac3d9df2a350", checked := Tryz.checked }
namespace Rows
def none {H : Type} : Left H := { results := [], args := [] }

/-- 'stenotypelaw16.FollowBehind': WHATEVER THE INPUT: true; the input reads as it did. -/
def followBehindSpec : ChangeSpec := { name := "followBehind", fn := fun _ => fun
  | [d1, d2, d3] => { results := [.lit (.bool true)], args := [d1, d2, d3] }
  | _ => none }
def followBehindRow : OpenClaim := { program := "ytnnkfgekiaaehaagreat", sum := "524acd8e24c0449b9a08cccd47dcee6a5c07d2db6341d7cd17eeac3d9df2a350", func := "stenotype/stenotypelaw16.FollowBehind", spec := "followBehind", unfollowed := true, recurses := true, plainKeys := false, apart := false }
def FollowBehindSaid : Prop := followBehindRow.holds Tryz.pinned (OpenSpec.ofChange followBehindSpec)

/-- ITS FALSE NEIGHBOUR: 'it returns false'. Refute it at one input. -/
def followBehindWrong : ChangeSpec := { name := "followBehind", fn := fun _ => fun
  | [d1, d2, d3] => { results := [.lit (.bool false)], args := [d1, d2, d3] }
  | _ => none }
def FollowBehindWrongFalsely : Prop := followBehindRow.holds Tryz.pinned (OpenSpec.ofChange followBehindWrong)

/-- 'stenotypelaw16.FollowForms': WHATEVER THE INPUT: true; the input reads as it did. -/
def followFormsSpec : ChangeSpec := { name := "followForms", fn := fun _ => fun
  | [d1, d2] => { results := [.lit (.bool true)], args := [d1, d2] }
  | _ => none }
def followFormsRow : OpenClaim := { program := "ytnnkfgekiaaehaagreat", sum := "524acd8e24c0449b9a08cccd47dcee6a5c07d2db6341d7cd17eeac3d9df2a350", func := "stenotype/stenotypelaw16.FollowForms", spec := "followForms", unfollowed := true, recurses := true, plainKeys := false, apart := false }
def FollowFormsSaid : Prop := followFormsRow.holds Tryz.pinned (OpenSpec.ofChange followFormsSpec)

/-- ITS FALSE NEIGHBOUR: 'it returns false'. Refute it at one input. -/
def followFormsWrong : ChangeSpec := { name := "followForms", fn := fun _ => fun
  | [d1, d2] => { results := [.lit (.bool false)], args := [d1, d2] }
  | _ => none }
def FollowFormsWrongFalsely : Prop := followFormsRow.holds Tryz.pinned (OpenSpec.ofChange followFormsWrong)

/-- 'stenotypelaw16.FollowSets': WHATEVER THE INPUT: true; the input reads as it did. -/
def followSetsSpec : ChangeSpec := { name := "followSets", fn := fun _ => fun
  | [d1, d2, d3] => { results := [.lit (.bool true)], args := [d1, d2, d3] }
  | _ => none }
def followSetsRow : OpenClaim := { program := "ytnnkfgekiaaehaagreat", sum := "524acd8e24c0449b9a08cccd47dcee6a5c07d2db6341d7cd17eeac3d9df2a350", func := "stenotype/stenotypelaw16.FollowSets", spec := "followSets", unfollowed := true, recurses := true, plainKeys := false, apart := false }
def FollowSetsSaid : Prop := followSetsRow.holds Tryz.pinned (OpenSpec.ofChange followSetsSpec)

/-- ITS FALSE NEIGHBOUR: 'it returns false'. Refute it at one input. -/
def followSetsWrong : ChangeSpec := { name := "followSets", fn := fun _ => fun
  | [d1, d2, d3] => { results := [.lit (.bool false)], args := [d1, d2, d3] }
  | _ => none }
def FollowSetsWrongFalsely : Prop := followSetsRow.holds Tryz.pinned (OpenSpec.ofChange followSetsWrong)

/- THE SECOND FORM. 'bulk': how many values and letters a reading holds, each counted each time it is reached (what is shared counts as often as it is met; a slice's spare places count too). A statement '..UptoSaid' is the law's where the arguments, and the package variables that the reading takes, are together of bulk at most 1048576: NARROWER than '..Said'. Prove '..Said' where nothing that the law and all that it calls make is longer than what came in: it says more and counts as full. Else prove '..UptoSaid'. A law counts once. -/
mutual
def uptoBulk {H : Type} : DataW H → Nat
  | .lit (.string bytes) => bytes.length + 1
  | .lit _ => 1
  | .nil => 1
  | .ptr d => uptoBulk d + 1
  | .slice elems spare => uptoBulkAll elems + uptoBulkAll spare + 1
  | .agg parts => uptoBulkAll parts + 1
  | .iface _ d => uptoBulk d + 1
  | .map entries => uptoBulkEntries entries + 1
  | .held _ => 1
def uptoBulkAll {H : Type} : List (DataW H) → Nat
  | [] => 0
  | d :: r => uptoBulk d + uptoBulkAll r
def uptoBulkEntries {H : Type} : List (Lit × DataW H) → Nat
  | [] => 0
  | x :: r => uptoBulkEntry x + uptoBulkEntries r
def uptoBulkEntry {H : Type} : Lit × DataW H → Nat
  | (.string bytes, d) => bytes.length + uptoBulk d + 1
  | (_, d) => uptoBulk d + 1
 end
def uptoSmall : (H : Type) → List (DataW H) → Bool := fun _ ds => decide (uptoBulkAll ds ≤ 1048576)
def OpenSpec.upto (s : _root_.Go.ChangeSpec) : _root_.Go.OpenSpec := { _root_.Go.OpenSpec.ofChange s with cond := some uptoSmall }

/-- 'stenotypelaw16.FollowBehind', WHERE WHAT IT READS IS OF BULK AT MOST 1048576: true; the input reads as it did. -/
def followBehindUptoRow : OpenClaim := { program := "ytnnkfgekiaaehaagreat", sum := "524acd8e24c0449b9a08cccd47dcee6a5c07d2db6341d7cd17eeac3d9df2a350", func := "stenotype/stenotypelaw16.FollowBehind", spec := "followBehind", unfollowed := true, recurses := true, plainKeys := false, apart := false, narrowed := true }
def FollowBehindUptoSaid : Prop := followBehindUptoRow.holds Tryz.pinned (OpenSpec.upto followBehindSpec)

/-- 'stenotypelaw16.FollowForms', WHERE WHAT IT READS IS OF BULK AT MOST 1048576: true; the input reads as it did. -/
def followFormsUptoRow : OpenClaim := { program := "ytnnkfgekiaaehaagreat", sum := "524acd8e24c0449b9a08cccd47dcee6a5c07d2db6341d7cd17eeac3d9df2a350", func := "stenotype/stenotypelaw16.FollowForms", spec := "followForms", unfollowed := true, recurses := true, plainKeys := false, apart := false, narrowed := true }
def FollowFormsUptoSaid : Prop := followFormsUptoRow.holds Tryz.pinned (OpenSpec.upto followFormsSpec)

/-- 'stenotypelaw16.FollowSets', WHERE WHAT IT READS IS OF BULK AT MOST 1048576: true; the input reads as it did. -/
def followSetsUptoRow : OpenClaim := { program := "ytnnkfgekiaaehaagreat", sum := "524acd8e24c0449b9a08cccd47dcee6a5c07d2db6341d7cd17eeac3d9df2a350", func := "stenotype/stenotypelaw16.FollowSets", spec := "followSets", unfollowed := true, recurses := true, plainKeys := false, apart := false, narrowed := true }
def FollowSetsUptoSaid : Prop := followSetsUptoRow.holds Tryz.pinned (OpenSpec.upto followSetsSpec)

end Rows
end Go.Proofs.YtnnkfgekiaaehaaGreat
