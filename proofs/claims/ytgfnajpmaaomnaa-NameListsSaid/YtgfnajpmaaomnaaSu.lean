/- The sort of strings by a method value: reverseRange, partialInsertionSort. -/
import Derived.Test.YtgfnajpmaaomnaaSt
import Derived.Sort.Lot0
namespace Go.Proofs.Ytgfnajpmaaomnaa
open Go.ChangeShapes Go.WideShapes Go.ChangeAt Go.RowKit
open Go.Sort (swp PermIn SortedIn SWO permIn_refl permIn_trans swp_permIn insertionSort)
set_option linter.unusedVariables false

/-- what an exchange wants to know of the row -/
theorem RowS.two {w0 w : World} {g : Nat} {d : Array ByteArray} (h : RowS w0 w g d) (i j : Nat) (hi : i < d.size) (hj : j < d.size) :
    w.cell? ⟨g, i, none⟩ = some (.string d[i]!) ∧ w.cell? ⟨g, j, none⟩ = some (.string d[j]!) ∧ w.frozen? ⟨g, i, none⟩ = false ∧ w.frozen? ⟨g, j, none⟩ = false ∧
      ∃ u, (w.setCell ⟨g, i, none⟩ (.string d[j]!)).cell? ⟨g, j, none⟩ = some u :=
  ⟨h.cell i hi, h.cell j hj, h.free i, h.free j, ⟨_, (h.set i d[j]!).cell j (by simpa using hj)⟩⟩

set_option maxHeartbeats 400000 in
theorem rev_any (g cap a b : Nat) (d : Array ByteArray) (w0 w : World) (fv : Value) (S : RowS w0 w g d) (hab : a < b) (hb : b ≤ d.size) (hsz : d.size ≤ 1000) :
    Calls Try.prog 66 #[.slice (some ⟨g, 0, none⟩) d.size cap, .int .i64 a, .int .i64 b, fv] w fun e w' => e = .returned (.tuple #[]) ∧ ∃ d', RowS w0 w' g d' ∧ PermIn a b d d' := by
  replace S := Lib.hid S
  go_enter Try.func66, Try.ntmps66
  go_wp2
  go_loopg [8, 9] b (fun k vi vj wr => ∃ (i j : Nat) (dk : Array ByteArray), vi = .int .i64 i ∧ vj = .int .i64 ((j : Int) - 1) ∧ a ≤ i ∧ i ≤ b ∧ j ≤ b ∧ j ≤ k ∧ dk.size = d.size ∧ RowS w0 wr g dk ∧ PermIn a b d dk)
  case atStart => exact ⟨a, b, d, rfl, rfl, Nat.le_refl _, by omega, Nat.le_refl _, Nat.le_refl _, rfl, S.out, permIn_refl d a b⟩
  case round =>
    obtain ⟨i, j, dk, rfl, rfl, hai, hib, hjb, hjk, hsk, S1, hP⟩ := hrel
    replace S1 := Lib.hid S1
    replace hP := Lib.hid hP
    by_cases hlt : (i : Int) < (j : Int) - 1
    · obtain ⟨jp, hjp⟩ : ∃ q, j = q + 1 := ⟨j - 1, by omega⟩
      have zj : (j : Int) - 1 = (jp : Int) := by omega
      obtain ⟨d1, d2, f1, f2, u, d3⟩ := S1.out.two i jp (by omega) (by omega)
      have S3 := Lib.hid (S1.out.swp i jp)
      generalize dk[i]! = x at *
      generalize dk[jp]! = y at *
      have z1 : (0 : Int) ≤ i := by omega
      have z2 : (i : Int) < d.size := by omega
      have z3 : (0 : Int) ≤ jp := by omega
      have z4 : (jp : Int) < d.size := by omega
      have z5 : (i : Int) < (jp : Int) := by omega
      replace hjp := Lib.hid hjp
      go_wp2_with fail
      go_region
      generalize ((wr.setCell ⟨g, i, none⟩ (.string y)).setCell ⟨g, jp, none⟩ (.string x)).drew = w3 at S3
      clear d1 d2 d3 f1 f2 S1
      go_wp2_with fail
      go_roundg jp
      case measure => have := hjp.out; omega
      case rel =>
        have hj := hjp.out
        exact ⟨i + 1, jp, swp dk i jp, by go_num, by first | rfl | go_num, by omega, by omega, by omega, Nat.le_refl _, by simpa [swp] using hsk, S3.out, permIn_trans _ _ _ _ _ hP.out (swp_permIn _ _ _ _ _ hai (by omega) (by omega) (by omega) (by omega))⟩
    · go_wp2_with fail
      go_end0
      exact ⟨rfl, dk, S1.out, hP.out⟩

theorem ltB_true (x y : ByteArray) : ltB x y = true ↔ cmpB x y < 0 := by simp [ltB]
theorem ltB_false (x y : ByteArray) : ltB x y = false ↔ 0 ≤ cmpB x y := by simp [ltB]
theorem swoB : SWO ltB where
  irrefl x := by rw [ltB_false]; have := cmpL_refl x.data.toList; unfold cmpB; omega
  trans x y z h1 h2 := by
    rw [ltB_true] at *
    have := cmpB_trans x y z (by omega) (by omega)
    exact this.2 h1
  ntrans x y z h1 h2 := by
    rw [ltB_false] at *
    have a1 := cmpB_anti x y
    have a2 := cmpB_anti y z
    have a3 := cmpB_anti x z
    have := cmpB_trans z y x (by omega) (by omega)
    omega

set_option maxRecDepth 100000 in
set_option maxHeartbeats 1000000 in
theorem part_ins_any (g cap a b : Nat) (d : Array ByteArray) (w0 w : World) (S : RowS w0 w g d) (hab : a < b) (hb : b ≤ d.size) (hsz : d.size ≤ 49) :
    Calls Try.prog 67 #[.slice (some ⟨g, 0, none⟩) d.size cap, .int .i64 a, .int .i64 b, .func (Fn.func 57) #[.agg #[]] #[]] w fun e w' => ∃ x : Bool, e = .returned (.bool x) ∧ RowS w0 w' g d ∧ (x = true → SortedIn ltB a b d) := by
  replace S := Lib.hid S
  go_enter Try.func67, Try.ntmps67
  go_wp2
  go_loopg [9, 10] 1 (fun k vi vj wr => vi = .int .i64 ((a : Int) + 1) ∧ vj = .int .i64 0 ∧ RowS w0 wr g d)
  case atStart => exact ⟨rfl, rfl, S.out⟩
  case round =>
    obtain ⟨rfl, rfl, S1⟩ := hrel
    replace S1 := Lib.hid S1
    go_wp2_with fail
    go_loopg [9] b (fun k vi wr => ∃ i : Nat, vi = .int .i64 i ∧ a < i ∧ i ≤ b ∧ b - i ≤ k ∧ RowS w0 wr g d ∧ SortedIn ltB a i d)
    case atStart => exact ⟨a + 1, by go_num, by omega, by omega, by omega, S1.out, fun i j h1 h2 h3 => by omega⟩
    case round =>
      obtain ⟨i, rfl, hai, hib, hik, S2, hO⟩ := hrel
      replace S2 := Lib.hid S2
      replace hO := Lib.hid hO
      have z2 : (0 : Int) ≤ i := by omega
      by_cases hlt : i < b
      · obtain ⟨ip, hip⟩ : ∃ q, i = q + 1 := ⟨i - 1, by omega⟩
        have c1 := cell_kept (S2.out.cell i (by omega))
        have c2 := cell_kept (S2.out.cell ip (by omega))
        generalize hx : d[i]! = x at c1
        generalize hy : d[ip]! = y at c2
        replace hx := Lib.hid hx
        replace hy := Lib.hid hy
        replace hip := Lib.hid hip
        have hz : (i : Int) < (b : Int) := by omega
        have z3 : (i : Int) < d.size := by omega
        have z4 : (0 : Int) ≤ i - 1 := by have := hip.out; omega
        have z5 : ((i : Int) - 1) < d.size := by omega
        have z6 : ((i : Int) - 1).toNat = ip := by have := hip.out; omega
        by_cases hv : cmpB x y < 0
        · have hvd : decide (cmpB x y < 0) = true := decide_eq_true hv
          have hib2 : ¬ i = b := by omega
          have hbb : ((i : Int) == (b : Int)) = false := by simp; omega
          have hba : ((b : Int) - a) < 50 := by omega
          go_wp2_with fail
          refine wp_region_kept (by kernel_rfl) (by kernel_rfl) ?_
          repeat (go_big_quiet_step ((go_at_call 57; exact Calls.kept_by (by_any _ _ _))))
          refine wpQuiet_nil ?_
          rintro _ ⟨p, rfl⟩
          replace S2 := Lib.hid (S2.out.below p.kept)
          generalize p.world = w2 at S2
          clear c1 c2
          go_wp2_with fail
          go_ret
          exact ⟨false, rfl, S2.out, fun h => by cases h⟩
        · have hvd : decide (cmpB x y < 0) = false := decide_eq_false hv
          have hO2 := Lib.hid (Go.Sort.SortedIn.snoc swoB hO.out (by
            rw [show i - 1 = ip by have := hip.out; omega, hx.out, hy.out, ltB_false]; omega))
          go_wp2_with fail
          refine wp_region_kept (by kernel_rfl) (by kernel_rfl) ?_
          repeat (go_big_quiet_step ((go_at_call 57; exact Calls.kept_by (by_any _ _ _))))
          refine wpQuiet_nil ?_
          rintro _ ⟨p, rfl⟩
          replace S2 := Lib.hid (S2.out.below p.kept)
          generalize p.world = w2 at S2
          clear c1 c2
          go_wp2_with fail
          go_roundg (b - (i + 1))
          case measure => omega
          case rel => exact ⟨i + 1, by go_num, by omega, by omega, by omega, S2.out, hO2.out⟩
      · obtain rfl : i = b := by omega
        have hz : decide ((i : Int) < (i : Int)) = false := by simp
        go_wp2_with fail
        go_quiet (fail)
        replace S2 := Lib.hid (S2.out.drewN nq)
        go_wp2_with fail
        go_ret
        exact ⟨true, rfl, S2.out, fun _ => hO.out⟩
end Go.Proofs.Ytgfnajpmaaomnaa
