/- NameKnown: the walk. -/
import Derived.Test.YtgfnajpmaaomnaaSm
import Derived.Test.YtgfnajpmaaomnaaCk
namespace Go.Proofs.Ytgfnajpmaaomnaa
open Go.ChangeShapes Go.WideShapes Go.ChangeAt Go.RowKit
set_option linter.unusedVariables false

theorem srt_eq (l m : List ByteArray) (hp : m.Perm l) (hs : m.Pairwise fun x y => (!ltB y x) = true) : srt l = m := by
  refine List.Perm.eq_of_pairwise (le := fun x y => (!ltB y x) = true) ?_ (srt_pair l) hs ((srt_perm l).trans hp.symm)
  intro a b _ _ h1 h2
  simp only [Bool.not_eq_true'] at h1 h2
  exact ltB_total a b h2 h1

theorem lit_reads (w : World) (l : List ByteArray) : Reads (w.alloc (.cells (l.map Value.string).toArray 9)) (some ⟨w.heap.size, 0, none⟩) l.length l := by
  refine ⟨rfl, .inr ⟨w.heap.size, 0, rfl, fun i hi => ?_⟩⟩
  rw [cell_of_row _ _ _ _ _ _ (heap_alloc_new w _)]
  simp [hi]

theorem k1 : wordE ⟨#[97]⟩ = 0 := by decide +kernel
theorem k2 : wordE ⟨#[65, 98, 99, 95, 49]⟩ = 0 := by decide +kernel
theorem k3 : wordE ⟨#[]⟩ = 5 := by decide +kernel
theorem k4 : wordE ⟨#[95, 97]⟩ = 3 := by decide +kernel
theorem k5 : wordE ⟨#[97, 45, 98]⟩ = 3 := by decide +kernel
theorem k6 : wordE ⟨#[97, 98, 99, 100, 101, 102, 103, 104, 105, 106, 107, 108, 109]⟩ = 4 := by decide +kernel
theorem k7 : checkE ⟨#[116, 111, 107, 101, 110]⟩ = 12 := by decide +kernel
theorem k8 : checkE ⟨#[116, 111, 107, 101, 110, 115]⟩ = 0 := by decide +kernel
theorem k9 : checkE ⟨#[83, 116, 97, 114, 116]⟩ = 0 := by decide +kernel
theorem k10 : langB ⟨#[115, 116, 97, 114, 116]⟩ = true := by decide +kernel
theorem k11 : langB ⟨#[83, 116, 97, 114, 116]⟩ = false := by decide +kernel
theorem k12 : smallB ⟨#[116, 111, 107, 101, 110]⟩ = false := by decide +kernel
theorem k13 : capB ⟨#[65]⟩ = true := by decide +kernel
theorem k14 : capB ⟨#[49]⟩ = false := by decide +kernel
theorem k15 : cmpB ⟨#[97]⟩ ⟨#[98]⟩ = -1 := by decide +kernel
theorem k16 : cmpB ⟨#[97, 98]⟩ ⟨#[97]⟩ = 1 := by decide +kernel
theorem k17 : cmpB ⟨#[65]⟩ ⟨#[97]⟩ = -1 := by decide +kernel
theorem k18 : cmpB ⟨#[97]⟩ ⟨#[97]⟩ = 0 := by decide +kernel
def L1 : List ByteArray := [⟨#[98]⟩, ⟨#[97]⟩, ⟨#[97, 98]⟩, ⟨#[97]⟩]
def L2 : List ByteArray := [⟨#[97]⟩, ⟨#[97]⟩, ⟨#[97, 98]⟩, ⟨#[98]⟩]
def L3 : List ByteArray := [⟨#[98]⟩, ⟨#[97]⟩]
def L4 : List ByteArray := [⟨#[97]⟩, ⟨#[98]⟩, ⟨#[97]⟩, ⟨#[98]⟩]
def L5 : List ByteArray := [⟨#[97]⟩, ⟨#[98]⟩]
def L6 : List ByteArray := [⟨#[116, 48]⟩, ⟨#[116, 49]⟩]
def L7 : List ByteArray := [⟨#[116, 49]⟩]
def L8 : List ByteArray := [⟨#[116, 48]⟩]
theorem k19 : srt L1 = L2 := srt_eq _ _ (by decide +kernel) (by decide +kernel)
theorem k20 : findN L3 ⟨#[97]⟩ = 1 := by decide +kernel
theorem k21 : findE L3 ⟨#[97]⟩ = 0 := by decide +kernel
theorem k22 : findE L3 ⟨#[99]⟩ = 7 := by decide +kernel
theorem k23 : twN L4 = 2 := by decide +kernel
theorem k24 : twB L4 = true := by decide +kernel
theorem k25 : twE L4 = 0 := by decide +kernel
theorem k26 : twB L5 = false := by decide +kernel
theorem k27 : twE L5 = 0 := by decide +kernel
theorem k28 : mkB 0 false = ⟨#[116, 48]⟩ := by decide +kernel
theorem k29 : mkE 0 = 0 := by decide +kernel
theorem k30 : mkE 10000 = 2 := by decide +kernel
theorem k31 : mkE (-1) = 2 := by decide +kernel
theorem k32 : freshB L6 false = ⟨#[116, 50]⟩ := by decide +kernel
theorem k33 : freshE L6 = 0 := by decide +kernel
theorem k34 : freshB L7 false = ⟨#[116, 48]⟩ := by decide +kernel
theorem k35 : freshE L7 = 0 := by decide +kernel
theorem k36 : freshB L8 true = ⟨#[78, 48]⟩ := by decide +kernel
theorem k37 : freshE L8 = 0 := by decide +kernel
end Go.Proofs.Ytgfnajpmaaomnaa
