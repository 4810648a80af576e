/- The sort of strings by a method value: the random numbers, breakPatterns. -/
import Derived.Test.YtgfnajpmaaomnaaSv
import Derived.Laws.Bits64b
import Derived.Laws.Closers25b
namespace Go.Proofs.Ytgfnajpmaaomnaa
open Go.ChangeShapes Go.WideShapes Go.ChangeAt Go.RowKit
open Go.Sort (swp PermIn permIn_refl permIn_trans swp_permIn)
set_option linter.unusedVariables false

def NextPost (c : Nat) (w : World) (e : Ending) (w' : World) : Prop := ∃ v : Nat, v < 18446744073709551616 ∧ e = .returned (.int .u64 v) ∧ ∃ k, w' = (w.setCell ⟨c, 0, none⟩ (.int .u64 v)).drewN k

theorem setCell_twice (w : World) (c : Nat) (u v : Value) : (w.setCell ⟨c, 0, none⟩ u).setCell ⟨c, 0, none⟩ v = w.setCell ⟨c, 0, none⟩ v := by
  rw [Go.Sort.setCell_eq, Go.Sort.setCell_eq, Go.Sort.mapBlock_mapBlock, Go.Sort.setCell_eq]
  congr 1
  funext cs
  simp [Array.setIfInBounds_setIfInBounds]

/-- the cell holds v, and nothing else is other than in w -/
def NX (c : Nat) (w w' : World) (v : Int) : Prop := w'.cell? ⟨c, 0, none⟩ = some (.int .u64 v) ∧ w'.frozen? ⟨c, 0, none⟩ = false ∧ ∃ k, w' = (w.setCell ⟨c, 0, none⟩ (.int .u64 v)).drewN k

theorem NX.first {c : Nat} {w : World} {X : Int} (hc : w.cell? ⟨c, 0, none⟩ = some (.int .u64 X)) (hf : w.frozen? ⟨c, 0, none⟩ = false) (v : Int) : NX c w (w.setCell ⟨c, 0, none⟩ (.int .u64 v)).drew v :=
  ⟨World.cell?_setCell_same _ _ _ hc, by rw [World.frozen?_drew, World.frozen?_setCell]; exact hf, 1, rfl⟩
theorem NX.step {c : Nat} {w w1 : World} {X : Int} (h : NX c w w1 X) (v : Int) : NX c w (w1.setCell ⟨c, 0, none⟩ (.int .u64 v)).drew v := by
  obtain ⟨h1, h2, k, h3⟩ := h
  refine ⟨World.cell?_setCell_same _ _ _ h1, by rw [World.frozen?_drew, World.frozen?_setCell]; exact h2, k + 1, ?_⟩
  rw [h3, show ((w.setCell ⟨c, 0, none⟩ (.int .u64 X)).drewN k).setCell ⟨c, 0, none⟩ (.int .u64 v) = ((w.setCell ⟨c, 0, none⟩ (.int .u64 X)).setCell ⟨c, 0, none⟩ (.int .u64 v)).drewN k from rfl, setCell_twice]
  rfl

set_option maxHeartbeats 1000000 in
theorem next_any (c : Nat) (X : Int) (w : World) (hc : w.cell? ⟨c, 0, none⟩ = some (.int .u64 X)) (hf : w.frozen? ⟨c, 0, none⟩ = false) :
    Calls Try.prog 74 #[.pointer (some ⟨c, 0, none⟩)] w (NextPost c w) := by
  have N0 := Lib.hid (NX.first hc hf)
  go_enter Try.func74, Try.ntmps74
  go_wp2
  go_region
  go_wp2
  have N1 := N0.out (bits BinOp.xor IntKind.u64 X (IntKind.u64.wrap (X * 8192)))
  generalize (w.setCell ⟨c, 0, none⟩ (.int .u64 (bits BinOp.xor IntKind.u64 X (IntKind.u64.wrap (X * 8192))))).drew = w1 at N1
  generalize bits BinOp.xor IntKind.u64 X (IntKind.u64.wrap (X * 8192)) = X1 at N1
  have d1 := N1.1
  have d2 := N1.2.1
  replace N1 := Lib.hid N1
  clear hc hf N0
  go_region
  go_wp2
  have N2 := N1.out.step (bits BinOp.xor IntKind.u64 X1 (X1 / 128))
  generalize (w1.setCell ⟨c, 0, none⟩ (.int .u64 (bits BinOp.xor IntKind.u64 X1 (X1 / 128)))).drew = w2 at N2
  generalize bits BinOp.xor IntKind.u64 X1 (X1 / 128) = X2 at N2
  clear d1 d2 N1
  have d1 := N2.1
  have d2 := N2.2.1
  replace N2 := Lib.hid N2
  go_region
  go_wp2
  have hx := bits_within BinOp.xor IntKind.u64 X2 (IntKind.u64.wrap (X2 * 131072))
  have N3 := N2.out.step (bits BinOp.xor IntKind.u64 X2 (IntKind.u64.wrap (X2 * 131072)))
  go_ret
  generalize bits BinOp.xor IntKind.u64 X2 (IntKind.u64.wrap (X2 * 131072)) = X3 at N3 hx
  have h1 : 0 ≤ X3 := hx.1
  have h2 : X3 ≤ 18446744073709551615 := hx.2
  obtain ⟨v, rfl⟩ := Int.eq_ofNat_of_zero_le h1
  exact ⟨v, by omega, rfl, N3.2.2⟩

theorem wrap_twice (t : Nat) (h : t ≤ 255) : wrap64 (wrap64 (t : Int)) = t := by
  have e : wrap64 (t : Int) = t := by unfold wrap64; omega
  rw [e, e]

/-- how many bits a number below 64 has -/
def bl (x : Nat) : Nat := ([0, 1, 2, 2, 3, 3, 3, 3, 4, 4, 4, 4, 4, 4, 4, 4, 5, 5, 5, 5, 5, 5, 5, 5, 5, 5, 5, 5, 5, 5, 5, 5, 6, 6, 6, 6, 6, 6, 6, 6, 6, 6, 6, 6, 6, 6, 6, 6, 6, 6, 6, 6, 6, 6, 6, 6, 6, 6, 6, 6, 6, 6, 6, 6] : List Nat).getD x 0

set_option maxRecDepth 100000 in
set_option maxHeartbeats 1000000 in
theorem len_any (x : Nat) (w : World) (hx : x ≤ 49) : Calls Try.prog 71 #[.int .u64 x] w fun e w' => e = .returned (.int .i64 (bl x)) ∧ w = w' := by
  have h1 : ¬ (4294967296 : Int) ≤ x := by omega
  have h2 : ¬ (65536 : Int) ≤ x := by omega
  have h3 : ¬ (256 : Int) ≤ x := by omega
  have hz : (0 : Int) ≤ x := by omega
  go_enter Try.func71, Try.ntmps71
  go_wp2_with fail
  go_ret
  refine ⟨ret_int ?_, rfl⟩
  have hx' : x = 0 ∨ x = 1 ∨ x = 2 ∨ x = 3 ∨ x = 4 ∨ x = 5 ∨ x = 6 ∨ x = 7 ∨ x = 8 ∨ x = 9 ∨ x = 10 ∨ x = 11 ∨ x = 12 ∨ x = 13 ∨ x = 14 ∨ x = 15 ∨ x = 16 ∨ x = 17 ∨ x = 18 ∨ x = 19 ∨ x = 20 ∨ x = 21 ∨ x = 22 ∨ x = 23 ∨ x = 24 ∨ x = 25 ∨ x = 26 ∨ x = 27 ∨ x = 28 ∨ x = 29 ∨ x = 30 ∨ x = 31 ∨ x = 32 ∨ x = 33 ∨ x = 34 ∨ x = 35 ∨ x = 36 ∨ x = 37 ∨ x = 38 ∨ x = 39 ∨ x = 40 ∨ x = 41 ∨ x = 42 ∨ x = 43 ∨ x = 44 ∨ x = 45 ∨ x = 46 ∨ x = 47 ∨ x = 48 ∨ x = 49 := by omega
  clear hx h1 h2
  refine (wrap_twice _ ?_).trans ?_
  · exact Nat.le_of_lt_succ (UInt8.toNat_lt _)
  rcases hx' with rfl | rfl | rfl | rfl | rfl | rfl | rfl | rfl | rfl | rfl | rfl | rfl | rfl | rfl | rfl | rfl | rfl | rfl | rfl | rfl | rfl | rfl | rfl | rfl | rfl | rfl | rfl | rfl | rfl | rfl | rfl | rfl | rfl | rfl | rfl | rfl | rfl | rfl | rfl | rfl | rfl | rfl | rfl | rfl | rfl | rfl | rfl | rfl | rfl | rfl <;> rfl

theorem len_any2 (x : Nat) (w : World) (hx : x ≤ 49) : Calls Try.prog 61 #[.int .u64 x] w fun e w' => e = .returned (.int .i64 (bl x)) ∧ w = w' := by
  have H := Lib.hid (len_any x w hx)
  generalize bl x = L at *
  go_enter Try.func61, Try.ntmps61
  go_wp2_with fail
  refine H.out.mono ?_
  rintro e w' ⟨rfl, rfl⟩
  go_wp2_with fail
  go_ret
  exact ⟨rfl, rfl⟩

theorem pow_facts (x : Nat) (h1 : 13 ≤ x) (h2 : x ≤ 49) : bl x ≤ 6 ∧ 4 ≤ bl x ∧ 2 ^ bl x ≤ 2 * x := by
  have hx' : x = 13 ∨ x = 14 ∨ x = 15 ∨ x = 16 ∨ x = 17 ∨ x = 18 ∨ x = 19 ∨ x = 20 ∨ x = 21 ∨ x = 22 ∨ x = 23 ∨ x = 24 ∨ x = 25 ∨ x = 26 ∨ x = 27 ∨ x = 28 ∨ x = 29 ∨ x = 30 ∨ x = 31 ∨ x = 32 ∨ x = 33 ∨ x = 34 ∨ x = 35 ∨ x = 36 ∨ x = 37 ∨ x = 38 ∨ x = 39 ∨ x = 40 ∨ x = 41 ∨ x = 42 ∨ x = 43 ∨ x = 44 ∨ x = 45 ∨ x = 46 ∨ x = 47 ∨ x = 48 ∨ x = 49 := by omega
  clear h1 h2
  rcases hx' with rfl | rfl | rfl | rfl | rfl | rfl | rfl | rfl | rfl | rfl | rfl | rfl | rfl | rfl | rfl | rfl | rfl | rfl | rfl | rfl | rfl | rfl | rfl | rfl | rfl | rfl | rfl | rfl | rfl | rfl | rfl | rfl | rfl | rfl | rfl | rfl | rfl <;> decide +kernel

theorem np2_any (x : Nat) (w : World) (h1 : 13 ≤ x) (h2 : x ≤ 49) : Calls Try.prog 73 #[.int .i64 x] w fun e w' => e = .returned (.int .u64 ((2 ^ bl x : Nat) : Int)) ∧ w = w' := by
  have H := Lib.hid (len_any2 x w h2)
  obtain ⟨hL, hL4, _⟩ := pow_facts x h1 h2
  generalize bl x = L at *
  have z : (0 : Int) ≤ x := by omega
  have hL' : L = 4 ∨ L = 5 ∨ L = 6 := by omega
  rcases hL' with rfl | rfl | rfl
  all_goals
    go_enter Try.func73, Try.ntmps73
    go_wp2_with fail
    refine H.out.mono ?_
    rintro e w' ⟨rfl, rfl⟩
    go_wp2_with fail
    go_ret
    exact ⟨rfl, rfl⟩
end Go.Proofs.Ytgfnajpmaaomnaa
