/-
  No cell of these rows narrows 'for every input' (looked for: loops, veiled, ifaces, maps, wideKeys, modest, calm, conditions, laid).
  DERIVED. THE GIVEN ROWS OF THIS SEAT. 9 by the template 'for every input the law returns true; each argument reads behind the call as it read before'; 0 by the template 'total and deterministic' (their statements: YtgfnajpmaaomnaaTotals.lean).
  GIVEN WITH THE SEED: the statements are not yours to turn. If you find one false, say at which input.
  Laid BY PROGRAM, IN A SANDBOX (cutbox-rows.mjs): the forced cells as the released guide's own fill.sh prints them over the translation 776b753a32e2c16e… (all of the seat's roots in one cut). By AI agents, Wed Nov 11 2026. No macro, syntax, notation, axiom, sorry.
-/
import Derived.Test.YtgfnajpmaaomnaaChecked
import GoSem.Claim
import GoSem.ClaimJoined
import GoSem.ClaimMapViews
import Derived.JoinedTies
import Derived.KernelRfl
namespace Go.Proofs.Ytgfnajpmaaomnaa
/- THE CELL 'sum', in the pinned program and in every row, IS THE sha256 OF THE DUMP (.gsa) THAT YtgfnajpmaaomnaaProg.lean LOADS. Nothing in Lean hashes anything: it is a label: what it is worth is what the hold of that sum in a sandbox is worth. -/
noncomputable def Try.pinned : Pinned := { name := "ytgfnajpmaaomnaa", sum := "776b753a32e2c16e8fc4b40d3ebc2a0f9b09739602ae2ec7e48a17c191142cf3", checked := Try.checked }
namespace Rows
def none {H : Type} : Left H := { results := [], args := [] }

/-- 'stenotypelaw32.BoundDeepest': WHATEVER THE INPUT: true; the input reads as it did. -/
def boundDeepestSpec : ChangeSpec := { name := "boundDeepest", fn := fun _ => fun
  | [d1, d2] => { results := [.lit (.bool true)], args := [d1, d2] }
  | _ => none }
def boundDeepestRow : OpenClaim := { program := "ytgfnajpmaaomnaa", sum := "776b753a32e2c16e8fc4b40d3ebc2a0f9b09739602ae2ec7e48a17c191142cf3", func := "stenotype/stenotypelaw32.BoundDeepest", spec := "boundDeepest", apart := false }
def BoundDeepestSaid : Prop := boundDeepestRow.holds Try.pinned (OpenSpec.ofChange boundDeepestSpec)

/-- ITS FALSE NEIGHBOUR: 'it returns false'. Refute it at one input. -/
def boundDeepestWrong : ChangeSpec := { name := "boundDeepest", fn := fun _ => fun
  | [d1, d2] => { results := [.lit (.bool false)], args := [d1, d2] }
  | _ => none }
def BoundDeepestWrongFalsely : Prop := boundDeepestRow.holds Try.pinned (OpenSpec.ofChange boundDeepestWrong)

/-- 'stenotypelaw03.NameMakes': WHATEVER THE INPUT: true; the input reads as it did. -/
def nameMakesSpec : ChangeSpec := { name := "nameMakes", fn := fun _ => fun
  | [d1, d2] => { results := [.lit (.bool true)], args := [d1, d2] }
  | _ => none }
def nameMakesRow : OpenClaim := { program := "ytgfnajpmaaomnaa", sum := "776b753a32e2c16e8fc4b40d3ebc2a0f9b09739602ae2ec7e48a17c191142cf3", func := "stenotype/stenotypelaw03.NameMakes", spec := "nameMakes", recurses := true, apart := false }
def NameMakesSaid : Prop := nameMakesRow.holds Try.pinned (OpenSpec.ofChange nameMakesSpec)

/-- ITS FALSE NEIGHBOUR: 'it returns false'. Refute it at one input. -/
def nameMakesWrong : ChangeSpec := { name := "nameMakes", fn := fun _ => fun
  | [d1, d2] => { results := [.lit (.bool false)], args := [d1, d2] }
  | _ => none }
def NameMakesWrongFalsely : Prop := nameMakesRow.holds Try.pinned (OpenSpec.ofChange nameMakesWrong)

/-- 'stenotypelaw03.NameKinds': WHATEVER THE INPUT: true; the input reads as it did. -/
def nameKindsSpec : ChangeSpec := { name := "nameKinds", fn := fun _ => fun
  | [d] => { results := [.lit (.bool true)], args := [d] }
  | _ => none }
def nameKindsRow : OpenClaim := { program := "ytgfnajpmaaomnaa", sum := "776b753a32e2c16e8fc4b40d3ebc2a0f9b09739602ae2ec7e48a17c191142cf3", func := "stenotype/stenotypelaw03.NameKinds", spec := "nameKinds", recurses := true, apart := false }
def NameKindsSaid : Prop := nameKindsRow.holds Try.pinned (OpenSpec.ofChange nameKindsSpec)

/-- ITS FALSE NEIGHBOUR: 'it returns false'. Refute it at one input. -/
def nameKindsWrong : ChangeSpec := { name := "nameKinds", fn := fun _ => fun
  | [d] => { results := [.lit (.bool false)], args := [d] }
  | _ => none }
def NameKindsWrongFalsely : Prop := nameKindsRow.holds Try.pinned (OpenSpec.ofChange nameKindsWrong)

/-- 'stenotypelaw03.NameOrder': WHATEVER THE INPUT: true; the input reads as it did. -/
def nameOrderSpec : ChangeSpec := { name := "nameOrder", fn := fun _ => fun
  | [d1, d2, d3] => { results := [.lit (.bool true)], args := [d1, d2, d3] }
  | _ => none }
def nameOrderRow : OpenClaim := { program := "ytgfnajpmaaomnaa", sum := "776b753a32e2c16e8fc4b40d3ebc2a0f9b09739602ae2ec7e48a17c191142cf3", func := "stenotype/stenotypelaw03.NameOrder", spec := "nameOrder", recurses := true, apart := false }
def NameOrderSaid : Prop := nameOrderRow.holds Try.pinned (OpenSpec.ofChange nameOrderSpec)

/-- ITS FALSE NEIGHBOUR: 'it returns false'. Refute it at one input. -/
def nameOrderWrong : ChangeSpec := { name := "nameOrder", fn := fun _ => fun
  | [d1, d2, d3] => { results := [.lit (.bool false)], args := [d1, d2, d3] }
  | _ => none }
def NameOrderWrongFalsely : Prop := nameOrderRow.holds Try.pinned (OpenSpec.ofChange nameOrderWrong)

/-- 'stenotypelaw03.NameChecks': WHATEVER THE INPUT: true; the input reads as it did. -/
def nameChecksSpec : ChangeSpec := { name := "nameChecks", fn := fun _ => fun
  | [d1, d2] => { results := [.lit (.bool true)], args := [d1, d2] }
  | _ => none }
def nameChecksRow : OpenClaim := { program := "ytgfnajpmaaomnaa", sum := "776b753a32e2c16e8fc4b40d3ebc2a0f9b09739602ae2ec7e48a17c191142cf3", func := "stenotype/stenotypelaw03.NameChecks", spec := "nameChecks", recurses := true, apart := false }
def NameChecksSaid : Prop := nameChecksRow.holds Try.pinned (OpenSpec.ofChange nameChecksSpec)

/-- ITS FALSE NEIGHBOUR: 'it returns false'. Refute it at one input. -/
def nameChecksWrong : ChangeSpec := { name := "nameChecks", fn := fun _ => fun
  | [d1, d2] => { results := [.lit (.bool false)], args := [d1, d2] }
  | _ => none }
def NameChecksWrongFalsely : Prop := nameChecksRow.holds Try.pinned (OpenSpec.ofChange nameChecksWrong)

/-- 'stenotypelaw03.NameFresh': WHATEVER THE INPUT: true; the input reads as it did. -/
def nameFreshSpec : ChangeSpec := { name := "nameFresh", fn := fun _ => fun
  | [d1, d2, d3, d4] => { results := [.lit (.bool true)], args := [d1, d2, d3, d4] }
  | _ => none }
def nameFreshRow : OpenClaim := { program := "ytgfnajpmaaomnaa", sum := "776b753a32e2c16e8fc4b40d3ebc2a0f9b09739602ae2ec7e48a17c191142cf3", func := "stenotype/stenotypelaw03.NameFresh", spec := "nameFresh", unfollowed := true, recurses := true, apart := false }
def NameFreshSaid : Prop := nameFreshRow.holds Try.pinned (OpenSpec.ofChange nameFreshSpec)

/-- ITS FALSE NEIGHBOUR: 'it returns false'. Refute it at one input. -/
def nameFreshWrong : ChangeSpec := { name := "nameFresh", fn := fun _ => fun
  | [d1, d2, d3, d4] => { results := [.lit (.bool false)], args := [d1, d2, d3, d4] }
  | _ => none }
def NameFreshWrongFalsely : Prop := nameFreshRow.holds Try.pinned (OpenSpec.ofChange nameFreshWrong)

/-- 'stenotypelaw03.NameSorts': WHATEVER THE INPUT: true; the input reads as it did. -/
def nameSortsSpec : ChangeSpec := { name := "nameSorts", fn := fun _ => fun
  | [d] => { results := [.lit (.bool true)], args := [d] }
  | _ => none }
def nameSortsRow : OpenClaim := { program := "ytgfnajpmaaomnaa", sum := "776b753a32e2c16e8fc4b40d3ebc2a0f9b09739602ae2ec7e48a17c191142cf3", func := "stenotype/stenotypelaw03.NameSorts", spec := "nameSorts", unfollowed := true, recurses := true, apart := false }
def NameSortsSaid : Prop := nameSortsRow.holds Try.pinned (OpenSpec.ofChange nameSortsSpec)

/-- ITS FALSE NEIGHBOUR: 'it returns false'. Refute it at one input. -/
def nameSortsWrong : ChangeSpec := { name := "nameSorts", fn := fun _ => fun
  | [d] => { results := [.lit (.bool false)], args := [d] }
  | _ => none }
def NameSortsWrongFalsely : Prop := nameSortsRow.holds Try.pinned (OpenSpec.ofChange nameSortsWrong)

/-- 'stenotypelaw03.NameLists': WHATEVER THE INPUT: true; the input reads as it did. -/
def nameListsSpec : ChangeSpec := { name := "nameLists", fn := fun _ => fun
  | [d1, d2, d3] => { results := [.lit (.bool true)], args := [d1, d2, d3] }
  | _ => none }
def nameListsRow : OpenClaim := { program := "ytgfnajpmaaomnaa", sum := "776b753a32e2c16e8fc4b40d3ebc2a0f9b09739602ae2ec7e48a17c191142cf3", func := "stenotype/stenotypelaw03.NameLists", spec := "nameLists", unfollowed := true, recurses := true, apart := false }
def NameListsSaid : Prop := nameListsRow.holds Try.pinned (OpenSpec.ofChange nameListsSpec)

/-- ITS FALSE NEIGHBOUR: 'it returns false'. Refute it at one input. -/
def nameListsWrong : ChangeSpec := { name := "nameLists", fn := fun _ => fun
  | [d1, d2, d3] => { results := [.lit (.bool false)], args := [d1, d2, d3] }
  | _ => none }
def NameListsWrongFalsely : Prop := nameListsRow.holds Try.pinned (OpenSpec.ofChange nameListsWrong)

/-- 'stenotypelaw03.NameKnown': WHATEVER THE INPUT: true; the input reads as it did. -/
def nameKnownSpec : ChangeSpec := { name := "nameKnown", fn := fun _ => fun
  | [] => { results := [.lit (.bool true)], args := [] }
  | _ => none }
def nameKnownRow : OpenClaim := { program := "ytgfnajpmaaomnaa", sum := "776b753a32e2c16e8fc4b40d3ebc2a0f9b09739602ae2ec7e48a17c191142cf3", func := "stenotype/stenotypelaw03.NameKnown", spec := "nameKnown", unfollowed := true, recurses := true, apart := false }
def NameKnownSaid : Prop := nameKnownRow.holds Try.pinned (OpenSpec.ofChange nameKnownSpec)

/-- ITS FALSE NEIGHBOUR: 'it returns false'. Refute it at one input. -/
def nameKnownWrong : ChangeSpec := { name := "nameKnown", fn := fun _ => fun
  | [] => { results := [.lit (.bool false)], args := [] }
  | _ => none }
def NameKnownWrongFalsely : Prop := nameKnownRow.holds Try.pinned (OpenSpec.ofChange nameKnownWrong)

/- THE SECOND FORM. 'bulk': how many values and letters a reading holds, each counted each time it is reached (what is shared counts as often as it is met; a slice's spare places count too). A statement '..UptoSaid' is the law's where the arguments, and the package variables that the reading takes, are together of bulk at most 1048576: NARROWER than '..Said'. Prove '..Said' where nothing that the law and all that it calls make is longer than what came in: it says more and counts as full. Else prove '..UptoSaid'. A law counts once. -/
mutual
def uptoBulk {H : Type} : DataW H → Nat
  | .lit (.string bytes) => bytes.length + 1
  | .lit _ => 1
  | .nil => 1
  | .ptr d => uptoBulk d + 1
  | .slice elems spare => uptoBulkAll elems + uptoBulkAll spare + 1
  | .agg parts => uptoBulkAll parts + 1
  | .iface _ d => uptoBulk d + 1
  | .map entries => uptoBulkEntries entries + 1
  | .held _ => 1
def uptoBulkAll {H : Type} : List (DataW H) → Nat
  | [] => 0
  | d :: r => uptoBulk d + uptoBulkAll r
def uptoBulkEntries {H : Type} : List (Lit × DataW H) → Nat
  | [] => 0
  | x :: r => uptoBulkEntry x + uptoBulkEntries r
def uptoBulkEntry {H : Type} : Lit × DataW H → Nat
  | (.string bytes, d) => bytes.length + uptoBulk d + 1
  | (_, d) => uptoBulk d + 1
 end
def uptoSmall : (H : Type) → List (DataW H) → Bool := fun _ ds => decide (uptoBulkAll ds ≤ 1048576)
def OpenSpec.upto (s : _root_.Go.ChangeSpec) : _root_.Go.OpenSpec := { _root_.Go.OpenSpec.ofChange s with cond := some uptoSmall }

/-- 'stenotypelaw32.BoundDeepest', WHERE WHAT IT READS IS OF BULK AT MOST 1048576: true; the input reads as it did. -/
def boundDeepestUptoRow : OpenClaim := { program := "ytgfnajpmaaomnaa", sum := "776b753a32e2c16e8fc4b40d3ebc2a0f9b09739602ae2ec7e48a17c191142cf3", func := "stenotype/stenotypelaw32.BoundDeepest", spec := "boundDeepest", apart := false, narrowed := true }
def BoundDeepestUptoSaid : Prop := boundDeepestUptoRow.holds Try.pinned (OpenSpec.upto boundDeepestSpec)

/-- 'stenotypelaw03.NameMakes', WHERE WHAT IT READS IS OF BULK AT MOST 1048576: true; the input reads as it did. -/
def nameMakesUptoRow : OpenClaim := { program := "ytgfnajpmaaomnaa", sum := "776b753a32e2c16e8fc4b40d3ebc2a0f9b09739602ae2ec7e48a17c191142cf3", func := "stenotype/stenotypelaw03.NameMakes", spec := "nameMakes", recurses := true, apart := false, narrowed := true }
def NameMakesUptoSaid : Prop := nameMakesUptoRow.holds Try.pinned (OpenSpec.upto nameMakesSpec)

/-- 'stenotypelaw03.NameKinds', WHERE WHAT IT READS IS OF BULK AT MOST 1048576: true; the input reads as it did. -/
def nameKindsUptoRow : OpenClaim := { program := "ytgfnajpmaaomnaa", sum := "776b753a32e2c16e8fc4b40d3ebc2a0f9b09739602ae2ec7e48a17c191142cf3", func := "stenotype/stenotypelaw03.NameKinds", spec := "nameKinds", recurses := true, apart := false, narrowed := true }
def NameKindsUptoSaid : Prop := nameKindsUptoRow.holds Try.pinned (OpenSpec.upto nameKindsSpec)

/-- 'stenotypelaw03.NameOrder', WHERE WHAT IT READS IS OF BULK AT MOST 1048576: true; the input reads as it did. -/
def nameOrderUptoRow : OpenClaim := { program := "ytgfnajpmaaomnaa", sum := "776b753a32e2c16e8fc4b40d3ebc2a0f9b09739602ae2ec7e48a17c191142cf3", func := "stenotype/stenotypelaw03.NameOrder", spec := "nameOrder", recurses := true, apart := false, narrowed := true }
def NameOrderUptoSaid : Prop := nameOrderUptoRow.holds Try.pinned (OpenSpec.upto nameOrderSpec)

/-- 'stenotypelaw03.NameChecks', WHERE WHAT IT READS IS OF BULK AT MOST 1048576: true; the input reads as it did. -/
def nameChecksUptoRow : OpenClaim := { program := "ytgfnajpmaaomnaa", sum := "776b753a32e2c16e8fc4b40d3ebc2a0f9b09739602ae2ec7e48a17c191142cf3", func := "stenotype/stenotypelaw03.NameChecks", spec := "nameChecks", recurses := true, apart := false, narrowed := true }
def NameChecksUptoSaid : Prop := nameChecksUptoRow.holds Try.pinned (OpenSpec.upto nameChecksSpec)

/-- 'stenotypelaw03.NameFresh', WHERE WHAT IT READS IS OF BULK AT MOST 1048576: true; the input reads as it did. -/
def nameFreshUptoRow : OpenClaim := { program := "ytgfnajpmaaomnaa", sum := "776b753a32e2c16e8fc4b40d3ebc2a0f9b09739602ae2ec7e48a17c191142cf3", func := "stenotype/stenotypelaw03.NameFresh", spec := "nameFresh", unfollowed := true, recurses := true, apart := false, narrowed := true }
def NameFreshUptoSaid : Prop := nameFreshUptoRow.holds Try.pinned (OpenSpec.upto nameFreshSpec)

/-- 'stenotypelaw03.NameSorts', WHERE WHAT IT READS IS OF BULK AT MOST 1048576: true; the input reads as it did. -/
def nameSortsUptoRow : OpenClaim := { program := "ytgfnajpmaaomnaa", sum := "776b753a32e2c16e8fc4b40d3ebc2a0f9b09739602ae2ec7e48a17c191142cf3", func := "stenotype/stenotypelaw03.NameSorts", spec := "nameSorts", unfollowed := true, recurses := true, apart := false, narrowed := true }
def NameSortsUptoSaid : Prop := nameSortsUptoRow.holds Try.pinned (OpenSpec.upto nameSortsSpec)

/-- 'stenotypelaw03.NameLists', WHERE WHAT IT READS IS OF BULK AT MOST 1048576: true; the input reads as it did. -/
def nameListsUptoRow : OpenClaim := { program := "ytgfnajpmaaomnaa", sum := "776b753a32e2c16e8fc4b40d3ebc2a0f9b09739602ae2ec7e48a17c191142cf3", func := "stenotype/stenotypelaw03.NameLists", spec := "nameLists", unfollowed := true, recurses := true, apart := false, narrowed := true }
def NameListsUptoSaid : Prop := nameListsUptoRow.holds Try.pinned (OpenSpec.upto nameListsSpec)

/-- 'stenotypelaw03.NameKnown', WHERE WHAT IT READS IS OF BULK AT MOST 1048576: true; the input reads as it did. -/
def nameKnownUptoRow : OpenClaim := { program := "ytgfnajpmaaomnaa", sum := "776b753a32e2c16e8fc4b40d3ebc2a0f9b09739602ae2ec7e48a17c191142cf3", func := "stenotype/stenotypelaw03.NameKnown", spec := "nameKnown", unfollowed := true, recurses := true, apart := false, narrowed := true }
def NameKnownUptoSaid : Prop := nameKnownUptoRow.holds Try.pinned (OpenSpec.upto nameKnownSpec)

end Rows
end Go.Proofs.Ytgfnajpmaaomnaa
