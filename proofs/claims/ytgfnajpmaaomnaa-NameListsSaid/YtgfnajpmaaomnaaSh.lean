/- The sort of strings by a method value: siftDown, heapSort. -/
import Derived.Test.YtgfnajpmaaomnaaSu
namespace Go.Proofs.Ytgfnajpmaaomnaa
open Go.ChangeShapes Go.WideShapes Go.ChangeAt Go.RowKit
open Go.Sort (swp PermIn SortedIn SWO permIn_refl permIn_trans swp_permIn siftDown heapBuild heapPop heapSort)
set_option linter.unusedVariables false

theorem sift_end (hi first root : Nat) (d : Array ByteArray) (h : hi ≤ 2 * root + 1) : siftDown ltB hi first root d = d := by rw [siftDown, dif_pos h]
/-- the greater child -/
def chil (hi first root : Nat) (d : Array ByteArray) : Nat := if 2 * root + 1 + 1 < hi ∧ ltB d[first + (2 * root + 1)]! d[first + (2 * root + 1) + 1]! = true then 2 * root + 2 else 2 * root + 1
theorem sift_step (hi first root : Nat) (d : Array ByteArray) (h : ¬ hi ≤ 2 * root + 1) :
    siftDown ltB hi first root d = if ltB d[first + root]! d[first + chil hi first root d]! = true then siftDown ltB hi first (chil hi first root d) (swp d (first + root) (first + chil hi first root d)) else d := by
  conv => lhs; rw [siftDown, dif_neg h]
  have flip : ∀ (x y : Array ByteArray) (b : Bool), (if (!b) = true then x else y) = if b = true then y else x := by intro x y b; cases b <;> rfl
  unfold chil
  by_cases h1 : 2 * root + 1 + 1 < hi
  · cases ltB d[first + (2 * root + 1)]! d[first + (2 * root + 1) + 1]!
    · simp only [flip, Bool.and_false, Bool.false_eq_true, if_false, and_false]
    · have h3 : 2 * root + 2 < hi := by omega
      simp only [flip, h1, dif_pos, decide_true, Bool.and_self, if_true, and_self]
  · simp only [flip, h1, decide_false, Bool.false_and, Bool.false_eq_true, if_false, false_and]

set_option maxRecDepth 100000 in
set_option maxHeartbeats 4000000 in
theorem sift_any (g cap lo hi first : Nat) (d : Array ByteArray) (w0 w : World) (S : RowS w0 w g d) (hb : first + hi ≤ d.size) (hsz : d.size ≤ 1000) (hlo : lo ≤ hi) :
    Calls Try.prog 72 #[.slice (some ⟨g, 0, none⟩) d.size cap, .int .i64 lo, .int .i64 hi, .int .i64 first, .func (Fn.func 57) #[.agg #[]] #[]] w fun e w' => e = .returned (.tuple #[]) ∧ RowS w0 w' g (siftDown ltB hi first lo d) := by
  replace S := Lib.hid S
  go_enter Try.func72, Try.ntmps72
  go_wp2
  go_loopg [10] hi (fun k vi wr => ∃ (root : Nat) (dk : Array ByteArray), vi = .int .i64 root ∧ root ≤ hi ∧ hi - root ≤ k ∧ dk.size = d.size ∧ RowS w0 wr g dk ∧ siftDown ltB hi first root dk = siftDown ltB hi first lo d)
  case atStart => exact ⟨lo, d, rfl, hlo, by omega, rfl, S.out, rfl⟩
  case round =>
    obtain ⟨root, dk, rfl, hr, hrk, hsk, S1, hE⟩ := hrel
    replace S1 := Lib.hid S1
    replace hE := Lib.hid hE
    obtain ⟨c, hc⟩ : ∃ c, c = 2 * root + 1 := ⟨_, rfl⟩
    have hcz : 2 * (root : Int) + 1 = (c : Int) := by omega
    have zr : (0 : Int) ≤ root := by omega
    have zr2 : (root : Int) ≤ 1000 := by omega
    have zc : (0 : Int) ≤ c := by omega
    have zc2 : (c : Int) ≤ 3000 := by omega
    by_cases hend : hi ≤ c
    · have hF := Lib.hid ((sift_end hi first root dk (by omega)).symm.trans hE.out)
      have hz : (hi : Int) ≤ c := by omega
      replace hc := Lib.hid hc
      go_wp2_with fail
      go_end0
      exact ⟨rfl, by rw [← hF.out]; exact S1.out⟩
    · have hst := Lib.hid ((sift_step hi first root dk (by omega)).symm.trans hE.out)
      have hz : ¬ (hi : Int) ≤ c := by omega
      obtain ⟨p0, hp0⟩ : ∃ p, p = first + root := ⟨_, rfl⟩
      obtain ⟨p1, hp1⟩ : ∃ p, p = first + c := ⟨_, rfl⟩
      have q0 : ((first : Int) + root).toNat = p0 := by omega
      have q0a : (0 : Int) ≤ (first : Int) + root := by omega
      have q0b : (first : Int) + root < d.size := by omega
      have q1 : ((first : Int) + c).toNat = p1 := by omega
      have q1a : (0 : Int) ≤ (first : Int) + c := by omega
      have q1b : (first : Int) + c < d.size := by omega
      have c0 := cell_kept (S1.out.cell p0 (by omega))
      have c1 := cell_kept (S1.out.cell p1 (by omega))
      generalize hx0 : dk[p0]! = x0 at c0
      generalize hx1 : dk[p1]! = x1 at c1
      by_cases h2 : c + 1 < hi
      · obtain ⟨p2, hp2⟩ : ∃ p, p = first + c + 1 := ⟨_, rfl⟩
        have q2 : ((first : Int) + c + 1).toNat = p2 := by omega
        have q2a : (0 : Int) ≤ (first : Int) + c + 1 := by omega
        have q2b : (first : Int) + c + 1 < d.size := by omega
        have c2 := cell_kept (S1.out.cell p2 (by omega))
        generalize hx2 : dk[p2]! = x2 at c2
        have hg : decide ((c : Int) + 1 < (hi : Int)) = true := decide_eq_true (by omega)
        by_cases hv : cmpB x1 x2 < 0
        · have hvd : decide (cmpB x1 x2 < 0) = true := decide_eq_true hv
          have hch : chil hi first root dk = c + 1 := by
            have e : first + (2 * root + 1) = p1 := by omega
            unfold chil
            rw [e, hx1, show p1 + 1 = p2 by omega, hx2, if_pos ⟨by omega, (ltB_true _ _).2 hv⟩]; omega
          have H0 := Lib.hid hx0
          have H1 := Lib.hid hx1
          have H2 := Lib.hid hx2
          have HP2 := Lib.hid (show first + (c + 1) = p2 by omega)
          have q3 : ((first : Int) + (c + 1)).toNat = p2 := by omega
          have q3a : (0 : Int) ≤ (first : Int) + (c + 1) := by omega
          have q3b : (first : Int) + (c + 1) < d.size := by omega
          replace hch := Lib.hid hch
          replace hc := Lib.hid hc
          have hp0h := Lib.hid hp0
          replace hp1 := Lib.hid hp1
          replace hp2 := Lib.hid hp2
          clear hp0
          clear hx0 hx1 hx2
          by_cases hl : cmpB x0 x2 < 0
          · have hld : decide (cmpB x0 x2 < 0) = true := decide_eq_true hl
            have hN := Lib.hid (show siftDown ltB hi first (c + 1) (swp dk p0 p2) = siftDown ltB hi first lo d by
              have h := hst.out
              rw [hch.out, ← hp0h.out, HP2.out, H0.out, H2.out, if_pos ((ltB_true _ _).2 hl)] at h
              exact h)
            go_wp2_with fail
            refine wp_region_kept (by kernel_rfl) (by kernel_rfl) ?_
            repeat (go_big_quiet_step ((go_at_call 57; exact Calls.kept_by (by_any _ _ _))))
            refine wpQuiet_nil ?_
            rintro _ ⟨p, rfl⟩
            replace S1 := Lib.hid (S1.out.below p.kept)
            generalize p.world = w1 at S1
            replace c0 := cell_kept (S1.out.cell p0 (by omega))
            rw [H0.out] at c0
            replace c1 := cell_kept (S1.out.cell p1 (by omega))
            rw [H1.out] at c1
            replace c2 := cell_kept (S1.out.cell p2 (by omega))
            rw [H2.out] at c2
            go_wp2_with fail
            refine wp_region_kept (by kernel_rfl) (by kernel_rfl) ?_
            repeat (go_big_quiet_step ((go_at_call 57; exact Calls.kept_by (by_any _ _ _))))
            refine wpQuiet_nil ?_
            rintro _ ⟨p, rfl⟩
            replace S1 := Lib.hid (S1.out.below p.kept)
            generalize p.world = w2 at S1
            clear c0 c1 c2
            obtain ⟨d1, d2, f1, f2, u, d3⟩ := S1.out.two p0 p2 (by omega) (by have := HP2.out; omega)
            have S3 := Lib.hid (S1.out.swp p0 p2)
            rw [H0.out, H2.out] at S3
            rw [H0.out] at d1
            rw [H2.out] at d2
            rw [H2.out] at d3
            go_wp2_with fail
            go_region
            generalize ((w2.setCell ⟨g, p0, none⟩ (.string x2)).setCell ⟨g, p2, none⟩ (.string x0)).drew = w3 at S3
            clear d1 d2 d3 f1 f2 S1
            go_wp2_with fail
            go_roundg (hi - (c + 1))
            case measure => omega
            case rel => exact ⟨c + 1, swp dk p0 p2, by first | rfl | go_num, by omega, Nat.le_refl _, by simpa [swp] using hsk, S3.out, hN.out⟩
          · have hld : decide (cmpB x0 x2 < 0) = false := decide_eq_false hl
            have hN := Lib.hid (show dk = siftDown ltB hi first lo d by
              have h := hst.out
              rw [hch.out, ← hp0h.out, HP2.out, H0.out, H2.out, if_neg (by rw [ltB_true]; exact hl)] at h
              exact h)
            go_wp2_with fail
            refine wp_region_kept (by kernel_rfl) (by kernel_rfl) ?_
            repeat (go_big_quiet_step ((go_at_call 57; exact Calls.kept_by (by_any _ _ _))))
            refine wpQuiet_nil ?_
            rintro _ ⟨p, rfl⟩
            replace S1 := Lib.hid (S1.out.below p.kept)
            generalize p.world = w1 at S1
            replace c0 := cell_kept (S1.out.cell p0 (by omega))
            rw [H0.out] at c0
            replace c1 := cell_kept (S1.out.cell p1 (by omega))
            rw [H1.out] at c1
            replace c2 := cell_kept (S1.out.cell p2 (by omega))
            rw [H2.out] at c2
            go_wp2_with fail
            refine wp_region_kept (by kernel_rfl) (by kernel_rfl) ?_
            repeat (go_big_quiet_step ((go_at_call 57; exact Calls.kept_by (by_any _ _ _))))
            refine wpQuiet_nil ?_
            rintro _ ⟨p, rfl⟩
            replace S1 := Lib.hid (S1.out.below p.kept)
            generalize p.world = w2 at S1
            go_wp2_with fail
            refine bodyPost_ret (results_none rfl _ _ _) rfl ?_
            exact ⟨rfl, by rw [← hN.out]; exact S1.out⟩
        · have hvd : decide (cmpB x1 x2 < 0) = false := decide_eq_false hv
          have hch : chil hi first root dk = c := by
            have e : first + (2 * root + 1) = p1 := by omega
            unfold chil
            rw [e, hx1, show p1 + 1 = p2 by omega, hx2, if_neg (by rw [ltB_true]; exact fun h => hv h.2)]; omega
          have H0 := Lib.hid hx0
          have H1 := Lib.hid hx1
          have H2 := Lib.hid hx2
          have HP1 := Lib.hid (show first + c = p1 by omega)
          replace hch := Lib.hid hch
          replace hc := Lib.hid hc
          have hp0h := Lib.hid hp0
          replace hp1 := Lib.hid hp1
          replace hp2 := Lib.hid hp2
          clear hp0
          clear hx0 hx1 hx2
          by_cases hl : cmpB x0 x1 < 0
          · have hld : decide (cmpB x0 x1 < 0) = true := decide_eq_true hl
            have hN := Lib.hid (show siftDown ltB hi first (c) (swp dk p0 p1) = siftDown ltB hi first lo d by
              have h := hst.out
              rw [hch.out, ← hp0h.out, HP1.out, H0.out, H1.out, if_pos ((ltB_true _ _).2 hl)] at h
              exact h)
            go_wp2_with fail
            refine wp_region_kept (by kernel_rfl) (by kernel_rfl) ?_
            repeat (go_big_quiet_step ((go_at_call 57; exact Calls.kept_by (by_any _ _ _))))
            refine wpQuiet_nil ?_
            rintro _ ⟨p, rfl⟩
            replace S1 := Lib.hid (S1.out.below p.kept)
            generalize p.world = w1 at S1
            replace c0 := cell_kept (S1.out.cell p0 (by omega))
            rw [H0.out] at c0
            replace c1 := cell_kept (S1.out.cell p1 (by omega))
            rw [H1.out] at c1
            replace c2 := cell_kept (S1.out.cell p2 (by omega))
            rw [H2.out] at c2
            go_wp2_with fail
            refine wp_region_kept (by kernel_rfl) (by kernel_rfl) ?_
            repeat (go_big_quiet_step ((go_at_call 57; exact Calls.kept_by (by_any _ _ _))))
            refine wpQuiet_nil ?_
            rintro _ ⟨p, rfl⟩
            replace S1 := Lib.hid (S1.out.below p.kept)
            generalize p.world = w2 at S1
            clear c0 c1 c2
            obtain ⟨d1, d2, f1, f2, u, d3⟩ := S1.out.two p0 p1 (by omega) (by have := HP1.out; omega)
            have S3 := Lib.hid (S1.out.swp p0 p1)
            rw [H0.out, H1.out] at S3
            rw [H0.out] at d1
            rw [H1.out] at d2
            rw [H1.out] at d3
            go_wp2_with fail
            go_region
            generalize ((w2.setCell ⟨g, p0, none⟩ (.string x1)).setCell ⟨g, p1, none⟩ (.string x0)).drew = w3 at S3
            clear d1 d2 d3 f1 f2 S1
            go_wp2_with fail
            go_roundg (hi - (c))
            case measure => omega
            case rel => exact ⟨c, swp dk p0 p1, by first | rfl | go_num, by omega, Nat.le_refl _, by simpa [swp] using hsk, S3.out, hN.out⟩
          · have hld : decide (cmpB x0 x1 < 0) = false := decide_eq_false hl
            have hN := Lib.hid (show dk = siftDown ltB hi first lo d by
              have h := hst.out
              rw [hch.out, ← hp0h.out, HP1.out, H0.out, H1.out, if_neg (by rw [ltB_true]; exact hl)] at h
              exact h)
            go_wp2_with fail
            refine wp_region_kept (by kernel_rfl) (by kernel_rfl) ?_
            repeat (go_big_quiet_step ((go_at_call 57; exact Calls.kept_by (by_any _ _ _))))
            refine wpQuiet_nil ?_
            rintro _ ⟨p, rfl⟩
            replace S1 := Lib.hid (S1.out.below p.kept)
            generalize p.world = w1 at S1
            replace c0 := cell_kept (S1.out.cell p0 (by omega))
            rw [H0.out] at c0
            replace c1 := cell_kept (S1.out.cell p1 (by omega))
            rw [H1.out] at c1
            replace c2 := cell_kept (S1.out.cell p2 (by omega))
            rw [H2.out] at c2
            go_wp2_with fail
            refine wp_region_kept (by kernel_rfl) (by kernel_rfl) ?_
            repeat (go_big_quiet_step ((go_at_call 57; exact Calls.kept_by (by_any _ _ _))))
            refine wpQuiet_nil ?_
            rintro _ ⟨p, rfl⟩
            replace S1 := Lib.hid (S1.out.below p.kept)
            generalize p.world = w2 at S1
            go_wp2_with fail
            refine bodyPost_ret (results_none rfl _ _ _) rfl ?_
            exact ⟨rfl, by rw [← hN.out]; exact S1.out⟩
      · have hg : decide ((c : Int) + 1 < (hi : Int)) = false := decide_eq_false (by omega)
        have hch : chil hi first root dk = c := by
          unfold chil
          rw [if_neg (by omega)]; omega
        have H0 := Lib.hid hx0
        have H1 := Lib.hid hx1
        have HP1 := Lib.hid (show first + c = p1 by omega)
        replace hch := Lib.hid hch
        replace hc := Lib.hid hc
        have hp0h := Lib.hid hp0
        replace hp1 := Lib.hid hp1
        clear hp0
        clear hx0 hx1 
        by_cases hl : cmpB x0 x1 < 0
        · have hld : decide (cmpB x0 x1 < 0) = true := decide_eq_true hl
          have hN := Lib.hid (show siftDown ltB hi first (c) (swp dk p0 p1) = siftDown ltB hi first lo d by
            have h := hst.out
            rw [hch.out, ← hp0h.out, HP1.out, H0.out, H1.out, if_pos ((ltB_true _ _).2 hl)] at h
            exact h)
          go_wp2_with fail
          go_quiet (fail)
          replace S1 := Lib.hid (S1.out.drewN nq)
          generalize wr.drewN nq = w1 at S1
          replace c0 := cell_kept (S1.out.cell p0 (by omega))
          replace c1 := cell_kept (S1.out.cell p1 (by omega))
          rw [H0.out] at c0
          rw [H1.out] at c1
          go_wp2_with fail
          refine wp_region_kept (by kernel_rfl) (by kernel_rfl) ?_
          repeat (go_big_quiet_step ((go_at_call 57; exact Calls.kept_by (by_any _ _ _))))
          refine wpQuiet_nil ?_
          rintro _ ⟨p, rfl⟩
          replace S1 := Lib.hid (S1.out.below p.kept)
          generalize p.world = w2 at S1
          clear c0 c1 
          obtain ⟨d1, d2, f1, f2, u, d3⟩ := S1.out.two p0 p1 (by omega) (by have := HP1.out; omega)
          have S3 := Lib.hid (S1.out.swp p0 p1)
          rw [H0.out, H1.out] at S3
          rw [H0.out] at d1
          rw [H1.out] at d2
          rw [H1.out] at d3
          go_wp2_with fail
          go_region
          generalize ((w2.setCell ⟨g, p0, none⟩ (.string x1)).setCell ⟨g, p1, none⟩ (.string x0)).drew = w3 at S3
          clear d1 d2 d3 f1 f2 S1
          go_wp2_with fail
          go_roundg (hi - (c))
          case measure => omega
          case rel => exact ⟨c, swp dk p0 p1, by first | rfl | go_num, by omega, Nat.le_refl _, by simpa [swp] using hsk, S3.out, hN.out⟩
        · have hld : decide (cmpB x0 x1 < 0) = false := decide_eq_false hl
          have hN := Lib.hid (show dk = siftDown ltB hi first lo d by
            have h := hst.out
            rw [hch.out, ← hp0h.out, HP1.out, H0.out, H1.out, if_neg (by rw [ltB_true]; exact hl)] at h
            exact h)
          go_wp2_with fail
          go_quiet (fail)
          replace S1 := Lib.hid (S1.out.drewN nq)
          generalize wr.drewN nq = w1 at S1
          replace c0 := cell_kept (S1.out.cell p0 (by omega))
          replace c1 := cell_kept (S1.out.cell p1 (by omega))
          rw [H0.out] at c0
          rw [H1.out] at c1
          go_wp2_with fail
          refine wp_region_kept (by kernel_rfl) (by kernel_rfl) ?_
          repeat (go_big_quiet_step ((go_at_call 57; exact Calls.kept_by (by_any _ _ _))))
          refine wpQuiet_nil ?_
          rintro _ ⟨p, rfl⟩
          replace S1 := Lib.hid (S1.out.below p.kept)
          generalize p.world = w2 at S1
          go_wp2_with fail
          refine bodyPost_ret (results_none rfl _ _ _) rfl ?_
          exact ⟨rfl, by rw [← hN.out]; exact S1.out⟩
end Go.Proofs.Ytgfnajpmaaomnaa
