/- Contracts of the functions that BoundDeepest reaches: sum, the two Deepest, awake. No condition but the numbers' own bounds. -/
import Derived.Test.YtgfnajpmaaomnaaRows
import Derived.WalkKit
import Derived.ProofKit
import Derived.OpenShut
import Derived.ShutString
import Derived.WalkLawsBesides
import Derived.Below
import Derived.Lib.Hide
import Derived.Outline
namespace Go.Proofs.Ytgfnajpmaaomnaa
open Go.ChangeShapes Go.WideShapes Go.ChangeAt Go.RowKit
set_option linter.unusedVariables false

def sumI (l : List Int) : Int := l.foldl (· + ·) 0

theorem sumI_snoc (l : List Int) (x : Int) : sumI (l ++ [x]) = sumI l + x := by simp [sumI, List.foldl_append]

theorem ret_int {k : IntKind} {a b : Int} (h : a = b) : Ending.returned (.int k a) = .returned (.int k b) := by rw [h]

theorem sumI_bd (l : List Int) (h : ∀ x ∈ l, 0 ≤ x ∧ x ≤ 1000000) : 0 ≤ sumI l ∧ sumI l ≤ 1000000 * l.length := by
  have key : ∀ (l : List Int) (a : Int), (∀ x ∈ l, 0 ≤ x ∧ x ≤ 1000000) → a ≤ l.foldl (· + ·) a ∧ l.foldl (· + ·) a ≤ a + 1000000 * l.length := by
    intro l
    induction l with
    | nil => intro a _; simp
    | cons y t ih =>
      intro a hh
      have hy := hh y (by simp)
      have := ih (a + y) (fun x hx => hh x (by simp [hx]))
      simp only [List.foldl_cons, List.length_cons]
      omega
  have := key l 0 h
  unfold sumI
  omega

theorem take_snocI (l : List Int) (k : Nat) (h : k < l.length) : l.take (k + 1) = l.take k ++ [l.getD k 0] := by
  rw [List.take_succ_eq_append_getElem h]; simp [List.getD_eq_getElem?_getD, h]

set_option maxHeartbeats 400000 in
theorem sum_any (b off : Nat) (xs : List Int) (n : Nat) (w : World) (hn : n = xs.length) (hn2 : n ≤ 1000) (hx : ∀ x ∈ xs, 0 ≤ x ∧ x ≤ 1000000)
    (hc : ∀ i, i < n → w.cell? ⟨b, off + i, none⟩ = some (.int .i64 (xs.getD i 0))) :
    Calls Try.prog 43 #[.slice (some ⟨b, off, none⟩) n n] w fun e w' => e = .returned (.int .i64 (sumI xs)) ∧ w' = w := by
  subst hn
  go_enter Try.func43, Try.ntmps43
  go_wp2
  go_loop [3, 8] (fun s i => ∃ k : Nat, k ≤ xs.length ∧ i = .int .i64 k ∧ s = .int .i64 (sumI (xs.take k))) (fun _ i => xs.length - (intOf i).toNat)
  case atStart => exact ⟨0, Nat.zero_le _, rfl, rfl⟩
  case round =>
    obtain ⟨k, hk, rfl, rfl⟩ := hrel
    have hb := sumI_bd (xs.take k) (fun x hx' => hx x (List.mem_of_mem_take hx'))
    have hl : (xs.take k).length ≤ k := List.length_take_le _ _
    by_cases hlt : k < xs.length
    · have hcell := hc k hlt
      have hxk := hx (xs.getD k 0) (by rw [List.getD_eq_getElem?_getD, List.getElem?_eq_getElem hlt]; simp)
      have HS := Lib.hid (show sumI (xs.take (k + 1)) = sumI (xs.take k) + xs.getD k 0 by rw [take_snocI _ _ hlt, sumI_snoc])
      clear hc hx
      generalize xs.getD k 0 = y at *
      generalize sumI (xs.take k) = t at *
      go_wp2
      go_round
      case rel => exact ⟨k + 1, by omega, by go_num, by rw [HS.out]⟩
      case measure => simp [intOf]; omega
    · go_wp2
      go_ret
      exact ⟨ret_int (by rw [List.take_of_length_le (by omega)]), rfl⟩

def dN (d q : Int) : Int := if d < 1 ∨ 64 < d then 0 else if q < 1 ∨ 64 < q then 0 else q + d + 2
def dE (d q : Int) : Int := if d < 1 ∨ 64 < d then 21 else if q < 1 ∨ 64 < q then 2 else 0

theorem ret_two {k l : IntKind} {a b c d : Int} (h : a = c) (h' : b = d) : Ending.returned (.tuple #[.int k a, .int l b]) = .returned (.tuple #[.int k c, .int l d]) := by rw [h, h']

set_option maxHeartbeats 400000 in
theorem deepest_any (d q : Int) (w : World) :
    Calls Try.prog 12 #[.int .i64 d, .int .i64 q] w fun e w' => e = .returned (.tuple #[.int .i64 (dN d q), .int .i64 (dE d q)]) ∧ Below w.heap.size w w' := by
  by_cases h1 : d < 1
  · go_enter Try.func12, Try.ntmps12
    go_wp2
    go_ret2
    exact ⟨ret_two (by simp [dN, h1]) (by simp [dE, h1]), Below.refl _ _⟩
  by_cases h2 : 64 < d
  · go_enter Try.func12, Try.ntmps12
    go_wp2
    go_ret2
    exact ⟨ret_two (by simp [dN, h2]) (by simp [dE, h2]), Below.refl _ _⟩
  by_cases h3 : q < 1
  · go_enter Try.func12, Try.ntmps12
    go_wp2
    go_ret2
    exact ⟨ret_two (by simp [dN, h3]) (by simp [dE, h1, h2, h3]), Below.refl _ _⟩
  by_cases h4 : 64 < q
  · go_enter Try.func12, Try.ntmps12
    go_wp2
    go_ret2
    exact ⟨ret_two (by simp [dN, h4]) (by simp [dE, h1, h2, h4]), Below.refl _ _⟩
  go_enter Try.func12, Try.ntmps12
  go_wp2_with fail
  refine (sum_any w.heap.size 0 [q, d, 2] 3 _ rfl (by omega) ?_ ?_).mono ?_
  · intro x hx
    simp only [List.mem_cons, List.not_mem_nil, or_false] at hx
    rcases hx with rfl | rfl | rfl <;> omega
  · intro i hi
    have : i = 0 ∨ i = 1 ∨ i = 2 := by omega
    rcases this with rfl | rfl | rfl <;> simp
  · rintro e w' ⟨rfl, rfl⟩
    have hs : sumI [q, d, 2] = q + d + 2 := by simp [sumI]
    rw [hs]
    go_wp2
    go_ret2
    exact ⟨ret_two (by simp [dN]; omega) (by simp [dE]; omega), (Below.refl _ _).alloc (Nat.le_refl _) _⟩

set_option maxHeartbeats 400000 in
theorem ref_deepest_any (d q : Int) (w : World) :
    Calls Try.prog 13 #[.int .i64 d, .int .i64 q] w fun e w' => e = .returned (.tuple #[.int .i64 (dN d q), .int .i64 (dE d q)]) ∧ w = w' := by
  by_cases h1 : d < 1
  · go_enter Try.func13, Try.ntmps13
    go_wp2
    go_ret2
    exact ⟨ret_two (by simp [dN, h1]) (by simp [dE, h1]), rfl⟩
  by_cases h2 : 64 < d
  · go_enter Try.func13, Try.ntmps13
    go_wp2
    go_ret2
    exact ⟨ret_two (by simp [dN, h2]) (by simp [dE, h2]), rfl⟩
  by_cases h3 : q < 1
  · go_enter Try.func13, Try.ntmps13
    go_wp2
    go_ret2
    exact ⟨ret_two (by simp [dN, h3]) (by simp [dE, h1, h2, h3]), rfl⟩
  by_cases h4 : 64 < q
  · go_enter Try.func13, Try.ntmps13
    go_wp2
    go_ret2
    exact ⟨ret_two (by simp [dN, h4]) (by simp [dE, h1, h2, h4]), rfl⟩
  go_enter Try.func13, Try.ntmps13
  go_wp2
  go_ret2
  exact ⟨ret_two (by simp [dN]; omega) (by simp [dE]; omega), rfl⟩

theorem awake32 (w : World) : Calls Try.prog 14 #[] w fun e w' => e = .returned (.bool true) ∧ Below w.heap.size w w' := by
  go_enter Try.func14, Try.ntmps14
  go_wp2_with fail
  refine (deepest_any 3 4 _).mono ?_
  rintro e w' ⟨rfl, hb⟩
  have h1 : dN 3 4 = 9 := by decide
  have h2 : dE 3 4 = 0 := by decide
  rw [h1, h2]
  clear h1 h2
  go_wp2
  go_ret
  exact ⟨rfl, hb⟩

theorem below_trans {w w1 w2 : World} (h : Below w.heap.size w w1) (h' : Below w1.heap.size w1 w2) : Below w.heap.size w w2 := h.trans (h'.mono h.size)

theorem boundDeepest_walk (d q : Int) (w : World) :
    Calls Try.prog 3 #[.int .i64 d, .int .i64 q] w fun e w' => e = .returned (.bool true) ∧ Below w.heap.size w w' := by
  go_enter Try.func3, Try.ntmps3
  go_wp2_with fail
  refine (deepest_any d q _).mono ?_
  rintro e w1 ⟨rfl, hb1⟩
  go_wp2_with fail
  refine (ref_deepest_any d q _).mono ?_
  rintro e w2 ⟨rfl, rfl⟩
  go_wp2_with fail
  refine (awake32 _).mono ?_
  rintro e w2 ⟨rfl, hb2⟩
  go_wp2
  go_ret
  exact ⟨rfl, below_trans hb1 hb2⟩
end Go.Proofs.Ytgfnajpmaaomnaa
