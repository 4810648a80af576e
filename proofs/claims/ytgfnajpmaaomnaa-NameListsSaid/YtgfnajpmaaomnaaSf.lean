/- SortFunc by a method value, the copies of a list of strings, and Sorted. -/
import Derived.Test.YtgfnajpmaaomnaaSd
import Derived.Test.YtgfnajpmaaomnaaSb
import Derived.Test.YtgfnajpmaaomnaaTw
namespace Go.Proofs.Ytgfnajpmaaomnaa
open Go.ChangeShapes Go.WideShapes Go.ChangeAt Go.RowKit
open Go.Sort (swp PermIn SortedIn permIn_refl permIn_trans permIn_mono permIn_all)
set_option linter.unusedVariables false

theorem ins_zero (a : Option Addr) (cap : Nat) (fv : Value) (w : World) : Calls Try.prog 62 #[.slice a 0 cap, .int .i64 0, .int .i64 0, fv] w fun e w' => e = .returned (.tuple #[]) ∧ w = w' := by
  go_enter Try.func62, Try.ntmps62
  go_wp2_with fail
  go_loopg [8] 1 (fun k v8 wr => v8 = .int .i64 1 ∧ w = wr)
  case atStart => exact ⟨rfl, rfl⟩
  case round =>
    obtain ⟨rfl, rfl⟩ := hrel
    go_wp2_with fail
    go_end0
    exact ⟨rfl, rfl⟩

set_option maxRecDepth 100000 in
theorem pdq_zero (a : Option Addr) (cap : Nat) (fv : Value) (w : World) : Calls Try.prog 60 #[.slice a 0 cap, .int .i64 0, .int .i64 0, .int .i64 0, fv] w fun e w' => e = .returned (.tuple #[]) ∧ w = w' := by
  go_enter Try.func60, Try.ntmps60
  go_wp2_with fail
  go_loopg [1, 2] 1 (fun k v1 v2 wr => v1 = .int .i64 0 ∧ v2 = .int .i64 0 ∧ w = wr)
  case atStart => exact ⟨rfl, rfl, rfl⟩
  case round =>
    obtain ⟨rfl, rfl, rfl⟩ := hrel
    go_wp2_with fail
    refine (ins_zero a cap fv w).mono ?_
    rintro e w' ⟨rfl, rfl⟩
    go_wp2_with fail
    refine bodyPost_ret (results_none rfl _ _ _) rfl ?_
    exact ⟨rfl, rfl⟩

theorem bl_zero : bl 0 = 0 := rfl
theorem sortf_zero (a : Option Addr) (cap : Nat) (fv : Value) (w : World) : Calls Try.prog 56 #[.slice a 0 cap, fv] w fun e w' => e = .returned (.tuple #[]) ∧ w = w' := by
  go_enter Try.func56, Try.ntmps56
  go_wp2_with fail
  refine (len_any2 0 w (by omega)).mono ?_
  rintro e w' ⟨rfl, rfl⟩
  go_wp2_with fail
  refine (pdq_zero a cap fv w).mono ?_
  rintro e w' ⟨rfl, rfl⟩
  go_wp2_with fail
  go_end0
  exact ⟨rfl, rfl⟩

theorem bl_le (x : Nat) (h : x ≤ 49) : bl x ≤ 6 := by
  have : ∀ y : Fin 50, bl y.1 ≤ 6 := by decide
  exact this ⟨x, by omega⟩

theorem sortf_any (g cap L : Nat) (d : Array ByteArray) (w0 w : World) (hL : d.size = L) (hL49 : L ≤ 49) (S : RowS w0 w g d) :
    Calls Try.prog 56 #[.slice (some ⟨g, 0, none⟩) L cap, .func (Fn.func 57) #[.agg #[]] #[]] w (PdqPost w0 g d 0 L) := by
  replace S := Lib.hid S
  have hb := bl_le L hL49
  replace hL := Lib.hid hL
  have hz0 : (0 : Int) ≤ L := by omega
  have hz1 : (L : Int) ≤ 49 := by omega
  go_enter Try.func56, Try.ntmps56
  go_wp2_with fail
  refine (len_any2 L w hL49).mono ?_
  rintro e w' ⟨rfl, rfl⟩
  go_wp2_with fail
  refine (pdq_any g cap L w0 hL49 L 0 L (bl L : Int) d w (by omega) hL.out S.out (by omega) (Nat.le_refl _) (by omega) (by omega) (.inl rfl)).mono ?_
  rintro e w' hP
  have he := hP.1
  subst he
  replace hP := Lib.hid hP
  go_wp2_with fail
  go_end0
  exact hP.out
end Go.Proofs.Ytgfnajpmaaomnaa
