/- Contracts of layer 3 (name): Small, Capital, Compare, of the program and of the reference; awake. -/
import Derived.Test.YtgfnajpmaaomnaaIx
namespace Go.Proofs.Ytgfnajpmaaomnaa
open Go.ChangeShapes Go.WideShapes Go.ChangeAt Go.RowKit
set_option linter.unusedVariables false

theorem check_pos (s : ByteArray) (h : checkE s = 0) : 0 < s.size := (wordE_zero s (checkE_zero s h).1).1

theorem small_any (s : ByteArray) (w : World) (hs : s.size ≤ maxLen) : Calls Try.prog 19 #[.string s] w fun e w' => e = .returned (.bool (smallB s)) ∧ Below w.heap.size w w' := by
  have hs' := Lib.hid hs
  unfold maxLen at hs
  by_cases h0 : checkE s = 0
  · have hp := check_pos s h0
    have hbt := (byteAt_get s 0 hp).symm
    have hC : smallB s = decide (97 ≤ byteAt s 0) := by simp [smallB, h0]
    rw [hC]
    generalize byteAt s 0 = r at hbt hC
    clear hC
    go_enter Try.func19, Try.ntmps19
    go_wp2_with fail
    refine (check_any s _ hs'.out).mono ?_
    rintro e w1 ⟨rfl, hb1⟩
    rw [h0]
    go_wp2_with fail
    go_ret
    exact ⟨ret_bool rfl, hb1⟩
  · have hC : smallB s = false := by simp [smallB, h0]
    rw [hC]
    have h0b : (checkE s == 0) = false := by simpa using h0
    clear h0 hC
    go_enter Try.func19, Try.ntmps19
    go_wp2_with fail
    refine (check_any s _ hs'.out).mono ?_
    rintro e w1 ⟨rfl, hb1⟩
    go_wp2_with fail
    go_ret
    exact ⟨rfl, hb1⟩

theorem cap_any (s : ByteArray) (w : World) (hs : s.size ≤ maxLen) : Calls Try.prog 20 #[.string s] w fun e w' => e = .returned (.bool (capB s)) ∧ Below w.heap.size w w' := by
  have hs' := Lib.hid hs
  unfold maxLen at hs
  by_cases h0 : checkE s = 0
  · have hp := check_pos s h0
    have hbt := (byteAt_get s 0 hp).symm
    have hC : capB s = decide (byteAt s 0 < 97) := by simp [capB, h0]
    rw [hC]
    generalize byteAt s 0 = r at hbt hC
    clear hC
    go_enter Try.func20, Try.ntmps20
    go_wp2_with fail
    refine (check_any s _ hs'.out).mono ?_
    rintro e w1 ⟨rfl, hb1⟩
    rw [h0]
    go_wp2_with fail
    go_ret
    exact ⟨ret_bool rfl, hb1⟩
  · have hC : capB s = false := by simp [capB, h0]
    rw [hC]
    have h0b : (checkE s == 0) = false := by simpa using h0
    clear h0 hC
    go_enter Try.func20, Try.ntmps20
    go_wp2_with fail
    refine (check_any s _ hs'.out).mono ?_
    rintro e w1 ⟨rfl, hb1⟩
    go_wp2_with fail
    go_ret
    exact ⟨rfl, hb1⟩

theorem rsmall_any (s : ByteArray) (w : World) (hs : s.size ≤ maxLen) : Calls Try.prog 27 #[.string s] w fun e w' => e = .returned (.bool (smallB s)) ∧ w = w' := by
  have hs' := Lib.hid hs
  unfold maxLen at hs
  by_cases h0 : checkE s = 0
  · have hp := check_pos s h0
    have hbt := (byteAt_get s 0 hp).symm
    have hf := word_first s (checkE_zero s h0).1
    have hC : smallB s = decide (97 ≤ byteAt s 0) := by simp [smallB, h0]
    rw [hC]
    generalize byteAt s 0 = r at hbt hC hf
    simp only [letrI, decide_eq_true_eq] at hf
    clear hC
    by_cases h1 : 97 ≤ r
    · have h2 : r ≤ 122 := by omega
      rw [decide_eq_true h1]
      clear hf
      go_enter Try.func27, Try.ntmps27
      go_wp2_with fail
      refine (rcheck_any s _ hs'.out).mono ?_
      rintro e w1 ⟨rfl, rfl⟩
      rw [h0]
      go_wp2_with fail
      go_ret
      exact ⟨rfl, rfl⟩
    · rw [decide_eq_false h1]
      clear hf
      go_enter Try.func27, Try.ntmps27
      go_wp2_with fail
      refine (rcheck_any s _ hs'.out).mono ?_
      rintro e w1 ⟨rfl, rfl⟩
      rw [h0]
      go_wp2_with fail
      go_ret
      exact ⟨rfl, rfl⟩
  · have hC : smallB s = false := by simp [smallB, h0]
    rw [hC]
    have h0b : (checkE s == 0) = false := by simpa using h0
    clear h0 hC
    go_enter Try.func27, Try.ntmps27
    go_wp2_with fail
    refine (rcheck_any s _ hs'.out).mono ?_
    rintro e w1 ⟨rfl, rfl⟩
    go_wp2_with fail
    go_ret
    exact ⟨rfl, rfl⟩

theorem rcap_any (s : ByteArray) (w : World) (hs : s.size ≤ maxLen) : Calls Try.prog 28 #[.string s] w fun e w' => e = .returned (.bool (capB s)) ∧ w = w' := by
  have hs' := Lib.hid hs
  unfold maxLen at hs
  by_cases h0 : checkE s = 0
  · have hp := check_pos s h0
    have hbt := (byteAt_get s 0 hp).symm
    have hf := word_first s (checkE_zero s h0).1
    have hC : capB s = decide (byteAt s 0 < 97) := by simp [capB, h0]
    rw [hC]
    generalize byteAt s 0 = r at hbt hC hf
    simp only [letrI, decide_eq_true_eq] at hf
    clear hC
    have h0 := Lib.hid h0
    by_cases h1 : r < 97
    · have h2 : 65 ≤ r := by omega
      have h3 : r ≤ 90 := by omega
      rw [decide_eq_true h1]
      clear hf
      go_enter Try.func28, Try.ntmps28
      go_wp2_with fail
      refine (rcheck_any s _ hs'.out).mono ?_
      rintro e w1 ⟨rfl, rfl⟩
      rw [h0.out]
      go_wp2_with fail
      go_ret
      exact ⟨rfl, rfl⟩
    · rw [decide_eq_false h1]
      have h2 : 65 ≤ r := by omega
      have h3 : ¬ r ≤ 90 := by omega
      clear hf
      go_enter Try.func28, Try.ntmps28
      go_wp2_with fail
      refine (rcheck_any s _ hs'.out).mono ?_
      rintro e w1 ⟨rfl, rfl⟩
      rw [h0.out]
      go_wp2_with fail
      go_ret
      exact ⟨ret_bool (decide_eq_false (by omega)), rfl⟩
  · have hC : capB s = false := by simp [capB, h0]
    rw [hC]
    have h0b : (checkE s == 0) = false := by simpa using h0
    clear h0 hC
    go_enter Try.func28, Try.ntmps28
    go_wp2_with fail
    refine (rcheck_any s _ hs'.out).mono ?_
    rintro e w1 ⟨rfl, rfl⟩
    go_wp2_with fail
    go_ret
    exact ⟨rfl, rfl⟩

theorem cmp_less (a b : ByteArray) : Op.bytesLess a.toList b.toList = decide (cmpB a b = -1) := by
  rw [ByteArray.toList_eq, ByteArray.toList_eq]; exact less_iff _ _
theorem cmp_eq (a b : ByteArray) : (a.toList == b.toList) = decide (cmpB a b = 0) := by
  rw [ByteArray.toList_eq, ByteArray.toList_eq]
  by_cases h : cmpB a b = 0
  · rw [decide_eq_true h, cmpL_eq _ _ h]; simp
  · rw [decide_eq_false h, beq_eq_false_iff_ne]
    intro h2
    apply h
    unfold cmpB
    rw [h2]; exact cmpL_refl _

set_option maxHeartbeats 400000 in
theorem compare_any (a b : ByteArray) (w : World) : Calls Try.prog 48 #[.string a, .string b] w fun e w' => e = .returned (.int .i64 (cmpB a b)) ∧ w = w' := by
  have h1 := cmp_less a b
  have h2 := cmp_eq a b
  have hv := cmpL_vals a.data.toList b.data.toList
  change cmpB a b = -1 ∨ cmpB a b = 0 ∨ cmpB a b = 1 at hv
  generalize cmpB a b = k at *
  rcases hv with rfl | rfl | rfl
  all_goals
    simp only [decide_true, show decide ((0 : Int) = -1) = false from rfl, show decide ((-1 : Int) = 0) = false from rfl, show decide ((1 : Int) = 0) = false from rfl, show decide ((1 : Int) = -1) = false from rfl] at h1 h2
    go_enter Try.func48, Try.ntmps48
    go_wp2
    go_ret
    exact ⟨rfl, rfl⟩

theorem ncompare_any (a b : ByteArray) (w : World) : Calls Try.prog 22 #[.string a, .string b] w fun e w' => e = .returned (.int .i64 (cmpB a b)) ∧ w = w' := by
  go_enter Try.func22, Try.ntmps22
  go_wp2_with fail
  refine (compare_any a b _).mono ?_
  rintro e w1 ⟨rfl, rfl⟩
  go_wp2_with fail
  go_ret
  exact ⟨rfl, rfl⟩

theorem wordE_1a : wordE ⟨#[49, 97]⟩ = 3 := by decide +kernel
theorem smallB_a : smallB ⟨#[97]⟩ = true := by decide +kernel
theorem smallB_A : smallB ⟨#[65]⟩ = false := by decide +kernel
theorem mkB_12 : mkB 12 true = ⟨#[78, 49, 50]⟩ := by decide +kernel
theorem mkE_12 : mkE 12 = 0 := by decide +kernel

theorem awake03 (w : World) : Calls Try.prog 17 #[] w fun e w' => e = .returned (.bool true) ∧ Below w.heap.size w w' := by
  go_enter Try.func17, Try.ntmps17
  go_wp2_with fail
  refine (make_any 12 true _).mono ?_
  rintro e w1 ⟨rfl, rfl⟩
  rw [mkB_12, mkE_12]
  go_wp2_with fail
  refine (word_any _ _ (by decide +kernel)).mono ?_
  rintro e w1 ⟨rfl, hb1⟩
  rw [wordE_1a]
  go_wp2_with fail
  refine (small_any _ _ (by decide +kernel)).mono ?_
  rintro e w2 ⟨rfl, hb2⟩
  rw [smallB_a]
  go_wp2_with fail
  refine (small_any _ _ (by decide +kernel)).mono ?_
  rintro e w3 ⟨rfl, hb3⟩
  rw [smallB_A]
  go_wp2_with fail
  go_ret
  exact ⟨rfl, (hb1.trans (hb2.mono hb1.size)).trans (hb3.mono (Nat.le_trans hb1.size hb2.size))⟩

theorem nameMakes_walk (n : Int) (c : Bool) (w : World) :
    Calls Try.prog 4 #[.int .i64 n, .bool c] w fun e w' => e = .returned (.bool true) ∧ Below w.heap.size w w' := by
  by_cases h : mkE n = 0
  · go_enter Try.func4, Try.ntmps4
    go_wp2_with fail
    refine (make_any n c _).mono ?_
    rintro e w1 ⟨rfl, rfl⟩
    rw [h]
    go_wp2_with fail
    refine (rmake_any n c _).mono ?_
    rintro e w1 ⟨rfl, k, rfl⟩
    rw [h]
    go_wp2_with fail
    refine (awake03 _).mono ?_
    rintro e w2 ⟨rfl, hb2⟩
    go_wp2_with fail
    go_ret
    exact ⟨rfl, (below_drewN (Below.refl _ _) k).trans hb2⟩
  · have h2 : mkB n c = ByteArray.empty := by
      unfold mkE at h; unfold mkB
      split at h
      · rename_i h'; rw [if_pos h']
      · exact absurd rfl h
    have h0 : (mkE n == 0) = false := by simpa using h
    clear h
    go_enter Try.func4, Try.ntmps4
    go_wp2_with fail
    refine (make_any n c _).mono ?_
    rintro e w1 ⟨rfl, rfl⟩
    rw [h2]
    go_wp2_with fail
    refine (rmake_any n c _).mono ?_
    rintro e w1 ⟨rfl, k, rfl⟩
    rw [h2]
    go_wp2_with fail
    refine (awake03 _).mono ?_
    rintro e w2 ⟨rfl, hb2⟩
    go_wp2_with fail
    go_ret
    exact ⟨rfl, (below_drewN (Below.refl _ _) k).trans hb2⟩
end Go.Proofs.Ytgfnajpmaaomnaa
