/-
  No cell of these rows narrows 'for every input' (looked for: loops, veiled, ifaces, maps, wideKeys, modest, calm, conditions, laid).
  DERIVED. THE GIVEN ROWS OF THIS SEAT. 4 by the template 'for every input the law returns true; each argument reads behind the call as it read before'; 0 by the template 'total and deterministic' (their statements: YtlngbphchhbpbaaTotals.lean).
  GIVEN WITH THE SEED: the statements are not yours to turn. If you find one false, say at which input.
  Laid BY PROGRAM, IN A SANDBOX (cutbox-rows.mjs): the forced cells as the released guide's own fill.sh prints them over the translation 85d3916b94c64d86… (all of the seat's roots in one cut). By AI agents, Wed Nov 11 2026. No macro, syntax, notation, axiom, sorry.
-/
import Derived.Test.YtlngbphchhbpbaaChecked
import GoSem.Claim
import GoSem.ClaimJoined
import GoSem.ClaimMapViews
import Derived.JoinedTies
import Derived.KernelRfl
namespace Go.Proofs.Ytlngbphchhbpbaa
/- THE CELL 'sum', in the pinned program and in every row, IS THE sha256 OF THE DUMP (.gsa) THAT YtlngbphchhbpbaaProg.lean LOADS. Nothing in Lean hashes anything: it is a label: what it is worth is what the hold of that sum in a sandbox is worth. -/
noncomputable def Try.pinned : Pinned := { name := "ytlngbphchhbpbaa", sum := "85d3916b94c64d86f16e440faba991162aad12313d2d0cd58b513bf6e9f3e594", checked := Try.checked }
namespace Rows
def none {H : Type} : Left H := { results := [], args := [] }

/-- 'stenotypelaw19.DeriveSteps': WHATEVER THE INPUT: true; the input reads as it did. -/
def deriveStepsSpec : ChangeSpec := { name := "deriveSteps", fn := fun _ => fun
  | [d1, d2, d3, d4] => { results := [.lit (.bool true)], args := [d1, d2, d3, d4] }
  | _ => none }
def deriveStepsRow : OpenClaim := { program := "ytlngbphchhbpbaa", sum := "85d3916b94c64d86f16e440faba991162aad12313d2d0cd58b513bf6e9f3e594", func := "stenotype/stenotypelaw19.DeriveSteps", spec := "deriveSteps", unfollowed := true, recurses := true, plainKeys := false, apart := false }
def DeriveStepsSaid : Prop := deriveStepsRow.holds Try.pinned (OpenSpec.ofChange deriveStepsSpec)

/-- ITS FALSE NEIGHBOUR: 'it returns false'. Refute it at one input. -/
def deriveStepsWrong : ChangeSpec := { name := "deriveSteps", fn := fun _ => fun
  | [d1, d2, d3, d4] => { results := [.lit (.bool false)], args := [d1, d2, d3, d4] }
  | _ => none }
def DeriveStepsWrongFalsely : Prop := deriveStepsRow.holds Try.pinned (OpenSpec.ofChange deriveStepsWrong)

/-- 'stenotypelaw19.DeriveLists': WHATEVER THE INPUT: true; the input reads as it did. -/
def deriveListsSpec : ChangeSpec := { name := "deriveLists", fn := fun _ => fun
  | [d1, d2, d3] => { results := [.lit (.bool true)], args := [d1, d2, d3] }
  | _ => none }
def deriveListsRow : OpenClaim := { program := "ytlngbphchhbpbaa", sum := "85d3916b94c64d86f16e440faba991162aad12313d2d0cd58b513bf6e9f3e594", func := "stenotype/stenotypelaw19.DeriveLists", spec := "deriveLists", unfollowed := true, recurses := true, plainKeys := false, apart := false }
def DeriveListsSaid : Prop := deriveListsRow.holds Try.pinned (OpenSpec.ofChange deriveListsSpec)

/-- ITS FALSE NEIGHBOUR: 'it returns false'. Refute it at one input. -/
def deriveListsWrong : ChangeSpec := { name := "deriveLists", fn := fun _ => fun
  | [d1, d2, d3] => { results := [.lit (.bool false)], args := [d1, d2, d3] }
  | _ => none }
def DeriveListsWrongFalsely : Prop := deriveListsRow.holds Try.pinned (OpenSpec.ofChange deriveListsWrong)

/-- 'stenotypelaw19.DeriveRuns': WHATEVER THE INPUT: true; the input reads as it did. -/
def deriveRunsSpec : ChangeSpec := { name := "deriveRuns", fn := fun _ => fun
  | [d1, d2] => { results := [.lit (.bool true)], args := [d1, d2] }
  | _ => none }
def deriveRunsRow : OpenClaim := { program := "ytlngbphchhbpbaa", sum := "85d3916b94c64d86f16e440faba991162aad12313d2d0cd58b513bf6e9f3e594", func := "stenotype/stenotypelaw19.DeriveRuns", spec := "deriveRuns", unfollowed := true, recurses := true, plainKeys := false, apart := false }
def DeriveRunsSaid : Prop := deriveRunsRow.holds Try.pinned (OpenSpec.ofChange deriveRunsSpec)

/-- ITS FALSE NEIGHBOUR: 'it returns false'. Refute it at one input. -/
def deriveRunsWrong : ChangeSpec := { name := "deriveRuns", fn := fun _ => fun
  | [d1, d2] => { results := [.lit (.bool false)], args := [d1, d2] }
  | _ => none }
def DeriveRunsWrongFalsely : Prop := deriveRunsRow.holds Try.pinned (OpenSpec.ofChange deriveRunsWrong)

/-- 'stenotypelaw19.DeriveKnown': WHATEVER THE INPUT: true; the input reads as it did. -/
def deriveKnownSpec : ChangeSpec := { name := "deriveKnown", fn := fun _ => fun
  | [] => { results := [.lit (.bool true)], args := [] }
  | _ => none }
def deriveKnownRow : OpenClaim := { program := "ytlngbphchhbpbaa", sum := "85d3916b94c64d86f16e440faba991162aad12313d2d0cd58b513bf6e9f3e594", func := "stenotype/stenotypelaw19.DeriveKnown", spec := "deriveKnown", unfollowed := true, recurses := true, plainKeys := false, apart := false }
def DeriveKnownSaid : Prop := deriveKnownRow.holds Try.pinned (OpenSpec.ofChange deriveKnownSpec)

/-- ITS FALSE NEIGHBOUR: 'it returns false'. Refute it at one input. -/
def deriveKnownWrong : ChangeSpec := { name := "deriveKnown", fn := fun _ => fun
  | [] => { results := [.lit (.bool false)], args := [] }
  | _ => none }
def DeriveKnownWrongFalsely : Prop := deriveKnownRow.holds Try.pinned (OpenSpec.ofChange deriveKnownWrong)

/- THE SECOND FORM. 'bulk': how many values and letters a reading holds, each counted each time it is reached (what is shared counts as often as it is met; a slice's spare places count too). A statement '..UptoSaid' is the law's where the arguments, and the package variables that the reading takes, are together of bulk at most 1048576: NARROWER than '..Said'. Prove '..Said' where nothing that the law and all that it calls make is longer than what came in: it says more and counts as full. Else prove '..UptoSaid'. A law counts once. -/
mutual
def uptoBulk {H : Type} : DataW H → Nat
  | .lit (.string bytes) => bytes.length + 1
  | .lit _ => 1
  | .nil => 1
  | .ptr d => uptoBulk d + 1
  | .slice elems spare => uptoBulkAll elems + uptoBulkAll spare + 1
  | .agg parts => uptoBulkAll parts + 1
  | .iface _ d => uptoBulk d + 1
  | .map entries => uptoBulkEntries entries + 1
  | .held _ => 1
def uptoBulkAll {H : Type} : List (DataW H) → Nat
  | [] => 0
  | d :: r => uptoBulk d + uptoBulkAll r
def uptoBulkEntries {H : Type} : List (Lit × DataW H) → Nat
  | [] => 0
  | x :: r => uptoBulkEntry x + uptoBulkEntries r
def uptoBulkEntry {H : Type} : Lit × DataW H → Nat
  | (.string bytes, d) => bytes.length + uptoBulk d + 1
  | (_, d) => uptoBulk d + 1
 end
def uptoSmall : (H : Type) → List (DataW H) → Bool := fun _ ds => decide (uptoBulkAll ds ≤ 1048576)
def OpenSpec.upto (s : _root_.Go.ChangeSpec) : _root_.Go.OpenSpec := { _root_.Go.OpenSpec.ofChange s with cond := some uptoSmall }

/-- 'stenotypelaw19.DeriveSteps', WHERE WHAT IT READS IS OF BULK AT MOST 1048576: true; the input reads as it did. -/
def deriveStepsUptoRow : OpenClaim := { program := "ytlngbphchhbpbaa", sum := "85d3916b94c64d86f16e440faba991162aad12313d2d0cd58b513bf6e9f3e594", func := "stenotype/stenotypelaw19.DeriveSteps", spec := "deriveSteps", unfollowed := true, recurses := true, plainKeys := false, apart := false, narrowed := true }
def DeriveStepsUptoSaid : Prop := deriveStepsUptoRow.holds Try.pinned (OpenSpec.upto deriveStepsSpec)

/-- 'stenotypelaw19.DeriveLists', WHERE WHAT IT READS IS OF BULK AT MOST 1048576: true; the input reads as it did. -/
def deriveListsUptoRow : OpenClaim := { program := "ytlngbphchhbpbaa", sum := "85d3916b94c64d86f16e440faba991162aad12313d2d0cd58b513bf6e9f3e594", func := "stenotype/stenotypelaw19.DeriveLists", spec := "deriveLists", unfollowed := true, recurses := true, plainKeys := false, apart := false, narrowed := true }
def DeriveListsUptoSaid : Prop := deriveListsUptoRow.holds Try.pinned (OpenSpec.upto deriveListsSpec)

/-- 'stenotypelaw19.DeriveRuns', WHERE WHAT IT READS IS OF BULK AT MOST 1048576: true; the input reads as it did. -/
def deriveRunsUptoRow : OpenClaim := { program := "ytlngbphchhbpbaa", sum := "85d3916b94c64d86f16e440faba991162aad12313d2d0cd58b513bf6e9f3e594", func := "stenotype/stenotypelaw19.DeriveRuns", spec := "deriveRuns", unfollowed := true, recurses := true, plainKeys := false, apart := false, narrowed := true }
def DeriveRunsUptoSaid : Prop := deriveRunsUptoRow.holds Try.pinned (OpenSpec.upto deriveRunsSpec)

/-- 'stenotypelaw19.DeriveKnown', WHERE WHAT IT READS IS OF BULK AT MOST 1048576: true; the input reads as it did. -/
def deriveKnownUptoRow : OpenClaim := { program := "ytlngbphchhbpbaa", sum := "85d3916b94c64d86f16e440faba991162aad12313d2d0cd58b513bf6e9f3e594", func := "stenotype/stenotypelaw19.DeriveKnown", spec := "deriveKnown", unfollowed := true, recurses := true, plainKeys := false, apart := false, narrowed := true }
def DeriveKnownUptoSaid : Prop := deriveKnownUptoRow.holds Try.pinned (OpenSpec.upto deriveKnownSpec)

end Rows
end Go.Proofs.Ytlngbphchhbpbaa
