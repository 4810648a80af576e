/- The sort of strings by a method value: the row of the call's own, and insertion sort. -/
import Derived.Test.YtgfnajpmaaomnaaKb
import Derived.Sort.LotA
import Derived.Sort.LotB
import Derived.Sort.WalkA
import Derived.StillTailTactics
import Derived.BigRegion
import Derived.RegionTactic
import Derived.Deep.RegionWith
import Derived.BigGuard
import Derived.BigCall
namespace Go.Proofs.Ytgfnajpmaaomnaa
open Go.ChangeShapes Go.WideShapes Go.ChangeAt Go.RowKit
set_option linter.unusedVariables false

/-- the comparison that the sort is given -/
def ltB (x y : ByteArray) : Bool := decide (cmpB x y < 0)
/-- the row of strings that the call has made: block g holds d, and what was there before is as it was -/
def RowS (w0 w : World) (g : Nat) (d : Array ByteArray) : Prop :=
  Kept w0 w ∧ w0.heap.size ≤ g ∧ ∃ cur : Array Value, w.heap[g]? = some (.cells cur 9 (0, 0)) ∧ d.size ≤ cur.size ∧ ∀ i, i < d.size → cur[i]? = some (.string d[i]!)

theorem RowS.cell {w0 w : World} {g : Nat} {d : Array ByteArray} (h : RowS w0 w g d) (i : Nat) (hi : i < d.size) : w.cell? ⟨g, i, none⟩ = some (.string d[i]!) := by
  obtain ⟨_, _, cur, hg, hs, hc⟩ := h
  simp [World.cell?, hg, hc i hi]
theorem RowS.free {w0 w : World} {g : Nat} {d : Array ByteArray} (h : RowS w0 w g d) (i : Nat) : w.frozen? ⟨g, i, none⟩ = false := by
  obtain ⟨_, _, cur, hg, _⟩ := h
  simp [World.frozen?, hg]
theorem RowS.lt {w0 w : World} {g : Nat} {d : Array ByteArray} (h : RowS w0 w g d) : g < w.heap.size := by
  obtain ⟨_, _, cur, hg, _⟩ := h
  rcases Nat.lt_or_ge g w.heap.size with hlt | hge
  · exact hlt
  · rw [Array.getElem?_eq_none hge] at hg; cases hg
theorem RowS.below {w0 w w' : World} {g : Nat} {d : Array ByteArray} (h : RowS w0 w g d) (hb : Below w.heap.size w w') : RowS w0 w' g d := by
  have hlt := h.lt
  obtain ⟨h1, h2, cur, hg, hs, hc⟩ := h
  exact ⟨h1.trans (hb.mono h1.size), h2, cur, by rw [hb.block g hlt]; exact hg, hs, hc⟩
theorem RowS.drewN {w0 w : World} {g : Nat} {d : Array ByteArray} (h : RowS w0 w g d) (n : Nat) : RowS w0 (w.drewN n) g d := h.below (below_drewN (Below.refl _ _) n)
theorem RowS.set {w0 w : World} {g : Nat} {d : Array ByteArray} (h : RowS w0 w g d) (i : Nat) (x : ByteArray) : RowS w0 (w.setCell ⟨g, i, none⟩ (.string x)) g (d.setIfInBounds i x) := by
  obtain ⟨h1, h2, cur, hg, hs, hc⟩ := h
  refine ⟨Below.setCell h1 h2 _, h2, cur.setIfInBounds i (.string x), ?_, by simpa using hs, ?_⟩
  · simp [World.setCell, Array.getElem?_modify, hg]
  · intro j hj
    have hj' : j < d.size := by simpa using hj
    by_cases hij : i = j
    · subst hij
      rw [Array.getElem?_setIfInBounds_self_of_lt (by omega)]
      simp [hj']
    · rw [Array.getElem?_setIfInBounds_ne hij, hc j hj']
      simp [Array.getElem!_eq_getD, Array.getD_eq_getD_getElem?, Array.getElem?_setIfInBounds_ne hij]

theorem by_any (x y : ByteArray) (w : World) : Calls Try.prog 57 #[.agg #[], .string x, .string y] w fun e w' => e = .returned (.int .i64 (cmpB x y)) ∧ Below w.heap.size w w' := by
  go_enter Try.func57, Try.ntmps57
  go_wp2_with fail
  refine (ncompare_any _ _ _).mono ?_
  rintro e w' ⟨rfl, rfl⟩
  go_wp2_with fail
  go_ret
  exact ⟨rfl, (Below.refl _ _).alloc (Nat.le_refl _) _⟩

open Go.Sort

theorem RowS.swp {w0 w : World} {g : Nat} {d : Array ByteArray} (h : RowS w0 w g d) (i j : Nat) : RowS w0 ((w.setCell ⟨g, i, none⟩ (.string d[j]!)).setCell ⟨g, j, none⟩ (.string d[i]!)).drew g (swp d i j) :=
  (((h.set i d[j]!).set j d[i]!).drewN 1)

set_option maxHeartbeats 400000 in
theorem ins_any (g cap a b : Nat) (d : Array ByteArray) (w0 w : World) (S : RowS w0 w g d) (hab : a ≤ b) (hb : b ≤ d.size) (hsz : d.size ≤ 1000) :
    Calls Try.prog 62 #[.slice (some ⟨g, 0, none⟩) d.size cap, .int .i64 a, .int .i64 b, .func (Fn.func 57) #[.agg #[]] #[]] w fun e w' => e = .returned (.tuple #[]) ∧ RowS w0 w' g (insertionSort ltB d a b) := by
  have S0 := Lib.hid S
  clear S
  go_enter Try.func62, Try.ntmps62
  go_wp2
  go_loopg [8] (b - a) (fun g1 vi wr => ∃ (i : Nat) (dk : Array ByteArray), vi = .int .i64 i ∧ a < i ∧ i ≤ b + 1 ∧ b + 1 - i ≤ g1 + 1 ∧ dk.size = d.size ∧ RowS w0 wr g dk ∧ insOuter ltB a b i dk = insOuter ltB a b (a + 1) d)
  case atStart => exact ⟨a + 1, d, by go_num, by omega, by omega, by omega, rfl, S0.out, rfl⟩
  case round =>
    obtain ⟨i, dk, rfl, hai, hib, hg1, hsk, S1, HO⟩ := hrel
    replace S1 := Lib.hid S1
    replace HO := Lib.hid HO
    by_cases hlt : i < b
    · have hltz : (i : Int) < (b : Int) := by omega
      go_wp2_with fail
      go_loopg [9] i (fun g2 vj wr2 => ∃ (j : Nat) (dj : Array ByteArray), vj = .int .i64 j ∧ a ≤ j ∧ j ≤ i ∧ j ≤ g2 ∧ dj.size = d.size ∧ RowS w0 wr2 g dj ∧ insInner ltB a j dj = insInner ltB a i dk)
      case atStart => exact ⟨i, dk, rfl, by omega, Nat.le_refl _, Nat.le_refl _, hsk, S1.out, rfl⟩
      case round =>
        obtain ⟨j, dj, rfl, haj, hji, hg2, hsj, SJ, HI⟩ := hrel
        replace SJ := Lib.hid SJ
        replace HI := Lib.hid HI
        by_cases hja : a < j
        · obtain ⟨jp, hjp⟩ : ∃ q, j = q + 1 := ⟨j - 1, by omega⟩
          have c1 := cell_kept (SJ.out.cell j (by omega))
          have c2 := cell_kept (SJ.out.cell jp (by omega))
          generalize hx : dj[j]! = x at c1
          generalize hy : dj[jp]! = y at c2
          replace hx := Lib.hid hx
          replace hy := Lib.hid hy
          replace hjp := Lib.hid hjp
          have hz : decide ((a : Int) < (j : Int)) = true := by simp; omega
          have z2 : (0 : Int) ≤ j := by omega
          have z3 : (j : Int) < d.size := by omega
          have z4 : (0 : Int) ≤ j - 1 := by have := hjp.out; omega
          have z5 : ((j : Int) - 1) < d.size := by omega
          have z6 : ((j : Int) - 1).toNat = jp := by have := hjp.out; omega
          go_wp2_with fail
          refine wp_region_kept (by kernel_rfl) (by kernel_rfl) ?_
          repeat (go_big_quiet_step ((go_at_call 57; exact Calls.kept_by (by_any _ _ _))))
          refine wpQuiet_nil ?_
          rintro _ ⟨p, rfl⟩
          have S2 := Lib.hid (SJ.out.below p.kept)
          generalize p.world = w2 at S2
          clear c1 c2 SJ
          cases hlv : ltB x y with
          | true =>
            have hv : cmpB x y < 0 := of_decide_eq_true hlv
            have d1 := S2.out.cell j (by omega)
            have d2 := S2.out.cell jp (by have := hjp.out; omega)
            rw [hx.out] at d1
            rw [hy.out] at d2
            have f1 := S2.out.free j
            have f2 := S2.out.free jp
            have d3 : (w2.setCell ⟨g, j, none⟩ (.string y)).cell? ⟨g, jp, none⟩ = some (.string y) := by
              rw [World.cell?_setCell_other _ _ _ _ (by intro e; simp only [Addr.mk.injEq] at e; have := hjp.out; omega)]; exact d2
            go_wp2_with fail
            go_region
            have S3 := S2.out.swp j jp
            rw [hx.out, hy.out] at S3
            replace S3 := Lib.hid S3
            generalize ((w2.setCell ⟨g, j, none⟩ (.string y)).setCell ⟨g, jp, none⟩ (.string x)).drew = w3 at S3
            clear d1 d2 d3 f1 f2 S2
            go_wp2_with fail
            go_roundg jp
            case measure => have := hjp.out; omega
            case rel =>
              obtain rfl := hjp.out
              exact ⟨jp, swp dj (jp + 1) jp, by first | rfl | go_num, by omega, by omega, Nat.le_refl _, by simpa [swp] using hsj, S3.out, by rw [← HI.out, insInner_go (lt := ltB) a (jp + 1) dj hja (by simp only [Nat.add_sub_cancel]; rw [hx.out, hy.out]; exact hlv)]; rfl⟩
          | false =>
            have hv : ¬ cmpB x y < 0 := of_decide_eq_false hlv
            have HO2 := Lib.hid (show insOuter ltB a b (i + 1) dj = insOuter ltB a b (a + 1) d by
              rw [← HO.out, insOuter_go (lt := ltB) _ _ _ _ hlt, ← HI.out, insInner_stop (lt := ltB) _ _ _ (.inr (by
                have e : j - 1 = jp := by have := hjp.out; omega
                rw [e, hx.out, hy.out]; exact hlv))])
            go_wp2_with fail
            go_roundg (b - (i + 1))
            case measure => omega
            case rel => exact ⟨i + 1, dj, by go_num, by omega, by omega, by omega, hsj, S2.out, HO2.out⟩
        · have hjaz : decide ((a : Int) < (j : Int)) = false := decide_eq_false (by omega)
          have HO2 := Lib.hid (show insOuter ltB a b (i + 1) dj = insOuter ltB a b (a + 1) d by
            rw [← HO.out, insOuter_go (lt := ltB) _ _ _ _ hlt, ← HI.out, insInner_stop (lt := ltB) _ _ _ (.inl (by omega))])
          go_wp2_with fail
          go_quiet (fail)
          have S2 := Lib.hid (SJ.out.drewN nq)
          clear SJ
          go_wp2_with fail
          go_roundg (b - (i + 1))
          case measure => omega
          case rel => exact ⟨i + 1, dj, by go_num, by omega, by omega, by omega, hsj, S2.out, HO2.out⟩
    · have hltz : ¬ (i : Int) < (b : Int) := by omega
      go_wp2_with fail
      go_end0
      exact ⟨rfl, by unfold insertionSort; rw [← HO.out, insOuter_stop (lt := ltB) _ _ _ _ hlt]; exact S1.out⟩
end Go.Proofs.Ytgfnajpmaaomnaa
