/-
  No cell of these rows narrows 'for every input' (looked for: loops, veiled, ifaces, maps, wideKeys, modest, calm, conditions, laid).
  DERIVED. THE GIVEN ROWS OF THIS SEAT. 4 by the template 'for every input the law returns true; each argument reads behind the call as it read before'; 0 by the template 'total and deterministic' (their statements: YtnnkfgekiaaehaaTotals.lean).
  GIVEN WITH THE SEED: the statements are not yours to turn. If you find one false, say at which input.
  Laid BY PROGRAM, IN A SANDBOX (cutbox-rows.mjs): the forced cells as the released guide's own fill.sh prints them over the translation 828091b796a62052… (all of the seat's roots in one cut). By AI agents, Wed Nov 11 2026. No macro, syntax, notation, axiom, sorry.
-/
import Derived.Test.YtnnkfgekiaaehaaChecked
import GoSem.Claim
import GoSem.ClaimJoined
import GoSem.ClaimMapViews
import Derived.JoinedTies
import Derived.KernelRfl
namespace Go.Proofs.Ytnnkfgekiaaehaa
/- THE CELL 'sum', in the pinned program and in every row, IS THE sha256 OF THE DUMP (.gsa) THAT YtnnkfgekiaaehaaProg.lean LOADS. Nothing in Lean hashes anything: it is a label: what it is worth is what the hold of that sum in a sandbox is worth. -/
noncomputable def Try.pinned : Pinned := { name := "ytnnkfgekiaaehaa", sum := "828091b796a6205250550b6cfd3b01c273b29a9848d089f7f0f62816570fcc7f", checked := Try.checked }
namespace Rows
def none {H : Type} : Left H := { results := [], args := [] }

/-- 'stenotypelaw16.FollowLess': WHATEVER THE INPUT: true; the input reads as it did. -/
def followLessSpec : ChangeSpec := { name := "followLess", fn := fun _ => fun
  | [d1, d2] => { results := [.lit (.bool true)], args := [d1, d2] }
  | _ => none }
def followLessRow : OpenClaim := { program := "ytnnkfgekiaaehaa", sum := "828091b796a6205250550b6cfd3b01c273b29a9848d089f7f0f62816570fcc7f", func := "stenotype/stenotypelaw16.FollowLess", spec := "followLess", unfollowed := true, recurses := true, plainKeys := false, apart := false }
def FollowLessSaid : Prop := followLessRow.holds Try.pinned (OpenSpec.ofChange followLessSpec)

/-- ITS FALSE NEIGHBOUR: 'it returns false'. Refute it at one input. -/
def followLessWrong : ChangeSpec := { name := "followLess", fn := fun _ => fun
  | [d1, d2] => { results := [.lit (.bool false)], args := [d1, d2] }
  | _ => none }
def FollowLessWrongFalsely : Prop := followLessRow.holds Try.pinned (OpenSpec.ofChange followLessWrong)

/-- 'stenotypelaw16.FollowMore': WHATEVER THE INPUT: true; the input reads as it did. -/
def followMoreSpec : ChangeSpec := { name := "followMore", fn := fun _ => fun
  | [d1, d2, d3] => { results := [.lit (.bool true)], args := [d1, d2, d3] }
  | _ => none }
def followMoreRow : OpenClaim := { program := "ytnnkfgekiaaehaa", sum := "828091b796a6205250550b6cfd3b01c273b29a9848d089f7f0f62816570fcc7f", func := "stenotype/stenotypelaw16.FollowMore", spec := "followMore", unfollowed := true, recurses := true, plainKeys := false, apart := false }
def FollowMoreSaid : Prop := followMoreRow.holds Try.pinned (OpenSpec.ofChange followMoreSpec)

/-- ITS FALSE NEIGHBOUR: 'it returns false'. Refute it at one input. -/
def followMoreWrong : ChangeSpec := { name := "followMore", fn := fun _ => fun
  | [d1, d2, d3] => { results := [.lit (.bool false)], args := [d1, d2, d3] }
  | _ => none }
def FollowMoreWrongFalsely : Prop := followMoreRow.holds Try.pinned (OpenSpec.ofChange followMoreWrong)

/-- 'stenotypelaw16.FollowKnown': WHATEVER THE INPUT: true; the input reads as it did. -/
def followKnownSpec : ChangeSpec := { name := "followKnown", fn := fun _ => fun
  | [] => { results := [.lit (.bool true)], args := [] }
  | _ => none }
def followKnownRow : OpenClaim := { program := "ytnnkfgekiaaehaa", sum := "828091b796a6205250550b6cfd3b01c273b29a9848d089f7f0f62816570fcc7f", func := "stenotype/stenotypelaw16.FollowKnown", spec := "followKnown", unfollowed := true, recurses := true, plainKeys := false, apart := false }
def FollowKnownSaid : Prop := followKnownRow.holds Try.pinned (OpenSpec.ofChange followKnownSpec)

/-- ITS FALSE NEIGHBOUR: 'it returns false'. Refute it at one input. -/
def followKnownWrong : ChangeSpec := { name := "followKnown", fn := fun _ => fun
  | [] => { results := [.lit (.bool false)], args := [] }
  | _ => none }
def FollowKnownWrongFalsely : Prop := followKnownRow.holds Try.pinned (OpenSpec.ofChange followKnownWrong)

/-- 'stenotypelaw16.FollowUses': WHATEVER THE INPUT: true; the input reads as it did. -/
def followUsesSpec : ChangeSpec := { name := "followUses", fn := fun _ => fun
  | [d1, d2] => { results := [.lit (.bool true)], args := [d1, d2] }
  | _ => none }
def followUsesRow : OpenClaim := { program := "ytnnkfgekiaaehaa", sum := "828091b796a6205250550b6cfd3b01c273b29a9848d089f7f0f62816570fcc7f", func := "stenotype/stenotypelaw16.FollowUses", spec := "followUses", unfollowed := true, recurses := true, plainKeys := false, apart := false }
def FollowUsesSaid : Prop := followUsesRow.holds Try.pinned (OpenSpec.ofChange followUsesSpec)

/-- ITS FALSE NEIGHBOUR: 'it returns false'. Refute it at one input. -/
def followUsesWrong : ChangeSpec := { name := "followUses", fn := fun _ => fun
  | [d1, d2] => { results := [.lit (.bool false)], args := [d1, d2] }
  | _ => none }
def FollowUsesWrongFalsely : Prop := followUsesRow.holds Try.pinned (OpenSpec.ofChange followUsesWrong)

/- THE SECOND FORM. 'bulk': how many values and letters a reading holds, each counted each time it is reached (what is shared counts as often as it is met; a slice's spare places count too). A statement '..UptoSaid' is the law's where the arguments, and the package variables that the reading takes, are together of bulk at most 1048576: NARROWER than '..Said'. Prove '..Said' where nothing that the law and all that it calls make is longer than what came in: it says more and counts as full. Else prove '..UptoSaid'. A law counts once. -/
mutual
def uptoBulk {H : Type} : DataW H → Nat
  | .lit (.string bytes) => bytes.length + 1
  | .lit _ => 1
  | .nil => 1
  | .ptr d => uptoBulk d + 1
  | .slice elems spare => uptoBulkAll elems + uptoBulkAll spare + 1
  | .agg parts => uptoBulkAll parts + 1
  | .iface _ d => uptoBulk d + 1
  | .map entries => uptoBulkEntries entries + 1
  | .held _ => 1
def uptoBulkAll {H : Type} : List (DataW H) → Nat
  | [] => 0
  | d :: r => uptoBulk d + uptoBulkAll r
def uptoBulkEntries {H : Type} : List (Lit × DataW H) → Nat
  | [] => 0
  | x :: r => uptoBulkEntry x + uptoBulkEntries r
def uptoBulkEntry {H : Type} : Lit × DataW H → Nat
  | (.string bytes, d) => bytes.length + uptoBulk d + 1
  | (_, d) => uptoBulk d + 1
 end
def uptoSmall : (H : Type) → List (DataW H) → Bool := fun _ ds => decide (uptoBulkAll ds ≤ 1048576)
def OpenSpec.upto (s : _root_.Go.ChangeSpec) : _root_.Go.OpenSpec := { _root_.Go.OpenSpec.ofChange s with cond := some uptoSmall }

/-- 'stenotypelaw16.FollowLess', WHERE WHAT IT READS IS OF BULK AT MOST 1048576: true; the input reads as it did. -/
def followLessUptoRow : OpenClaim := { program := "ytnnkfgekiaaehaa", sum := "828091b796a6205250550b6cfd3b01c273b29a9848d089f7f0f62816570fcc7f", func := "stenotype/stenotypelaw16.FollowLess", spec := "followLess", unfollowed := true, recurses := true, plainKeys := false, apart := false, narrowed := true }
def FollowLessUptoSaid : Prop := followLessUptoRow.holds Try.pinned (OpenSpec.upto followLessSpec)

/-- 'stenotypelaw16.FollowMore', WHERE WHAT IT READS IS OF BULK AT MOST 1048576: true; the input reads as it did. -/
def followMoreUptoRow : OpenClaim := { program := "ytnnkfgekiaaehaa", sum := "828091b796a6205250550b6cfd3b01c273b29a9848d089f7f0f62816570fcc7f", func := "stenotype/stenotypelaw16.FollowMore", spec := "followMore", unfollowed := true, recurses := true, plainKeys := false, apart := false, narrowed := true }
def FollowMoreUptoSaid : Prop := followMoreUptoRow.holds Try.pinned (OpenSpec.upto followMoreSpec)

/-- 'stenotypelaw16.FollowKnown', WHERE WHAT IT READS IS OF BULK AT MOST 1048576: true; the input reads as it did. -/
def followKnownUptoRow : OpenClaim := { program := "ytnnkfgekiaaehaa", sum := "828091b796a6205250550b6cfd3b01c273b29a9848d089f7f0f62816570fcc7f", func := "stenotype/stenotypelaw16.FollowKnown", spec := "followKnown", unfollowed := true, recurses := true, plainKeys := false, apart := false, narrowed := true }
def FollowKnownUptoSaid : Prop := followKnownUptoRow.holds Try.pinned (OpenSpec.upto followKnownSpec)

/-- 'stenotypelaw16.FollowUses', WHERE WHAT IT READS IS OF BULK AT MOST 1048576: true; the input reads as it did. -/
def followUsesUptoRow : OpenClaim := { program := "ytnnkfgekiaaehaa", sum := "828091b796a6205250550b6cfd3b01c273b29a9848d089f7f0f62816570fcc7f", func := "stenotype/stenotypelaw16.FollowUses", spec := "followUses", unfollowed := true, recurses := true, plainKeys := false, apart := false, narrowed := true }
def FollowUsesUptoSaid : Prop := followUsesUptoRow.holds Try.pinned (OpenSpec.upto followUsesSpec)

end Rows
end Go.Proofs.Ytnnkfgekiaaehaa
