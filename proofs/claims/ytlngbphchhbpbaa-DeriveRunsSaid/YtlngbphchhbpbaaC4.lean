/- Walks and plain laws, part 4 of 6: grammar.Check; The kit: Mod, At, OwnTexts, OwnInts; Grammars out of numbers, plainly; what a right grammar gives; derive.Sentences: the walk; The place of a form; append behind a slice without room, or an own one; derive.step; derive.Run; SameInts, SameLists; The chapter's example; SameLists; awake; The statements' own helper awake: the chapter's examples hold; SmallGrammar: what it lets by; The symbols of a grammar; Check of both sides; Check of both sides; Leftmost of both sides. Conditions: none beyond those that each theorem states. -/
import Derived.Test.YtlngbphchhbpbaaC3
import Derived.Deep.OwnRows
import Derived.ArgAppend
/- grammar.Check. -/
namespace Go.Proofs.Ytlngbphchhbpbaa
open Go.ChangeShapes Go.WideShapes Go.ChangeAt Go.RowKit
set_option linter.unusedVariables false

/-- the six questions, in their order -/
def stepE (g : Gr) : Nat → Int
  | 0 => if fullB g = false then 6 else 0
  | 1 => if shortB g = true then 5 else if nameB g = false then 12 else 0
  | 2 => if ((g.toks ++ [g.sep]) ++ g.names).Nodup then 0 else 8
  | 3 => if symB g = false then 14 else 0
  | 4 => if ordB g = false then 9 else 0
  | _ => if compB g = false then 7 else 0

theorem small_not_cap (s : ByteArray) (h1 : smallB s = true) (h2 : capB s = true) : False := by
  unfold smallB at h1; unfold capB at h2
  simp only [Bool.and_eq_true, decide_eq_true_eq] at h1 h2
  omega

theorem diff_of_name (g : Gr) (h : nameB g = true) : (((g.toks ++ [g.sep]) ++ g.names).Nodup ↔ diffB g = true) := by
  unfold nameB at h
  unfold diffB
  rw [Bool.and_eq_true, List.all_eq_true, List.all_eq_true] at h
  rw [List.nodup_append]
  simp only [Bool.and_eq_true, decide_eq_true_eq]
  constructor
  · intro hh; exact ⟨hh.1, hh.2.1⟩
  · intro hh; exact ⟨hh.1, hh.2, fun a ha b hb e => small_not_cap a (h.1 a ha) (by rw [e]; exact h.2 b hb)⟩

theorem gchk_step (g : Gr) (hk : ¬ (g.k < 1 ∨ 4 < g.k)) (j : Nat) (hj : j < 6) (h0 : ∀ i, i < j → stepE g i = 0) (h1 : stepE g j ≠ 0) : gchk g = stepE g j := by
  have a0 := fun h => h0 0 h
  have a1 := fun h => h0 1 h
  have a2 := fun h => h0 2 h
  have a3 := fun h => h0 3 h
  have a4 := fun h => h0 4 h
  unfold gchk
  rw [if_neg hk]
  have hd := diff_of_name g
  have e4 : nameB g = true → (diffB g = false ↔ ¬ ((g.toks ++ [g.sep]) ++ g.names).Nodup) := fun h => by rw [hd h]; simp
  simp only [List.append_assoc, List.cons_append, List.nil_append] at e4
  clear hd
  rcases (show j = 0 ∨ j = 1 ∨ j = 2 ∨ j = 3 ∨ j = 4 ∨ j = 5 by omega) with rfl | rfl | rfl | rfl | rfl | rfl <;>
    simp [stepE] at a0 a1 a2 a3 a4 h1 ⊢ <;> (cases hsh : shortB g <;> cases hnm : nameB g <;> simp_all)

theorem gchk_last (g : Gr) (hk : ¬ (g.k < 1 ∨ 4 < g.k)) (h0 : ∀ i, i < 6 → stepE g i = 0) : gchk g = 0 := by
  have a0 := h0 0 (by omega)
  have a1 := h0 1 (by omega)
  have a2 := h0 2 (by omega)
  have a3 := h0 3 (by omega)
  have a4 := h0 4 (by omega)
  have a5 := h0 5 (by omega)
  unfold gchk
  rw [if_neg hk]
  have hd := diff_of_name g
  have e4 : nameB g = true → (diffB g = false ↔ ¬ ((g.toks ++ [g.sep]) ++ g.names).Nodup) := fun h => by rw [hd h]; simp
  simp only [List.append_assoc, List.cons_append, List.nil_append] at e4
  clear hd
  simp [stepE] at a0 a1 a2 a3 a4 a5 ⊢
  cases hsh : shortB g <;> cases hnm : nameB g <;> simp_all

theorem zeros_succ {f : Nat → Int} {n : Nat} (h : ∀ i, i < n → f i = 0) (h2 : f n = 0) : ∀ i, i < n + 1 → f i = 0 := fun i hi => by
  rcases Nat.lt_succ_iff_lt_or_eq.1 hi with h3 | rfl
  · exact h i h3
  · exact h2

def chkFuns : Array Value := #[.func (.func 50) #[] #[], .func (.func 51) #[] #[], .func (.func 52) #[] #[], .func (.func 53) #[] #[], .func (.func 54) #[] #[], .func (.func 55) #[] #[]]

set_option maxHeartbeats 4000000 in
theorem gcheck_any (g : Gr) (a : GA) (w : World) (hg : GrAt w w.heap.size g a) (hs : Small g) : Calls Try.prog 36 #[gval g a] w fun e w' => e = .returned (.int .i64 (gchk g)) ∧ Below w.heap.size w w' := by
  obtain ⟨ta, tc, na, nc, pa, pc⟩ := a
  obtain ⟨R, hR⟩ : ∃ R : Int, R = gchk g := ⟨_, rfl⟩
  rw [← hR]
  replace hR := Lib.hid hR
  have hG0 := GB.start hg
  have hS := Lib.hid (gchk_step g)
  have hL := Lib.hid (gchk_last g)
  have hA := Lib.hid (fun W (h : GrAt W W.heap.size g ⟨ta, tc, na, nc, pa, pc⟩) => show Calls Try.prog 50 #[gval g ⟨ta, tc, na, nc, pa, pc⟩] W fun e w' => e = .returned (.int .i64 (stepE g 0)) ∧ Below W.heap.size W w' from many_any g ⟨ta, tc, na, nc, pa, pc⟩ W h hs)
  have hB := Lib.hid (fun W (h : GrAt W W.heap.size g ⟨ta, tc, na, nc, pa, pc⟩) => show Calls Try.prog 51 #[gval g ⟨ta, tc, na, nc, pa, pc⟩] W fun e w' => e = .returned (.int .i64 (stepE g 1)) ∧ Below W.heap.size W w' from named_any g ⟨ta, tc, na, nc, pa, pc⟩ W h hs)
  have hC := Lib.hid (fun W (h : GrAt W W.heap.size g ⟨ta, tc, na, nc, pa, pc⟩) (h1 : stepE g 1 = 0) => show Calls Try.prog 52 #[gval g ⟨ta, tc, na, nc, pa, pc⟩] W fun e w' => e = .returned (.int .i64 (stepE g 2)) ∧ Below W.heap.size W w' from different_any g ⟨ta, tc, na, nc, pa, pc⟩ W h hs (fun h0 => by simp [stepE, shortB, h0] at h1))
  have hD := Lib.hid (fun W (h : GrAt W W.heap.size g ⟨ta, tc, na, nc, pa, pc⟩) => show Calls Try.prog 53 #[gval g ⟨ta, tc, na, nc, pa, pc⟩] W fun e w' => e = .returned (.int .i64 (stepE g 3)) ∧ Below W.heap.size W w' from symbols_any g ⟨ta, tc, na, nc, pa, pc⟩ W h hs)
  have hE := Lib.hid (fun W (h : GrAt W W.heap.size g ⟨ta, tc, na, nc, pa, pc⟩) => show Calls Try.prog 54 #[gval g ⟨ta, tc, na, nc, pa, pc⟩] W fun e w' => e = .returned (.int .i64 (stepE g 4)) ∧ Below W.heap.size W w' from ordered_any g ⟨ta, tc, na, nc, pa, pc⟩ W h hs)
  have hF := Lib.hid (fun W (h : GrAt W W.heap.size g ⟨ta, tc, na, nc, pa, pc⟩) => show Calls Try.prog 55 #[gval g ⟨ta, tc, na, nc, pa, pc⟩] W fun e w' => e = .returned (.int .i64 (stepE g 5)) ∧ Below W.heap.size W w' from complete_any g ⟨ta, tc, na, nc, pa, pc⟩ W h hs)
  clear hg hs
  unfold gval at *
  unfold gcells at hA hB hC hD hE hF hG0 ⊢
  dsimp only at *
  go_enter Try.func36, Try.ntmps36
  go_wp2_with fail
  go_step3
  go_upto_region 1 with (fail)
  obtain ⟨W, hW⟩ : ∃ W, W = w.alloc (.cells #[.int .i64 g.k, .slice ta g.toks.length tc, .string g.sep, .slice na g.names.length nc, .int .i64 g.start, .slice pa g.prods.length pc] 25) := ⟨_, rfl⟩
  rw [← hW] at hG0 ⊢
  clear hW
  obtain ⟨c0, c1, c2, c3, c4, c5⟩ := hG0.cells
  dsimp only at c1 c3 c5
  by_cases k1 : g.k < 1
  · have hR1 : R = 2 := hR.out.trans (gchk_1 (.inl k1))
    subst hR1
    go_wp2_with fail
    try rw [Exit.noGoto_ret]
    go_ret
    exact ⟨rfl, hG0.2.2⟩
  by_cases k2 : 4 < g.k
  · have hR1 : R = 2 := hR.out.trans (gchk_1 (.inr k2))
    subst hR1
    go_wp2_with fail
    try rw [Exit.noGoto_ret]
    go_ret
    exact ⟨rfl, hG0.2.2⟩
  have hk : ¬ (g.k < 1 ∨ 4 < g.k) := by omega
  replace hk := Lib.hid hk
  obtain ⟨B, hB0⟩ : ∃ B, B = W.heap.size := ⟨_, rfl⟩
  have hbF : Blk (W.alloc (.cells chkFuns 58)) B 58 chkFuns := Blk.newAt _ _ _ _ hB0
  have hG := hG0.alloc (.cells chkFuns 58)
  have hBw : w.heap.size < B := by rw [hB0]; exact hG0.lt
  clear hG0
  unfold chkFuns at hbF hG
  replace hB0 := Lib.hid hB0
  go_wp2_with fail
  go_step3
  go_wp2_with fail
  rw [← hB0.out]
  clear hB0 c0 c1 c2 c3 c4 c5
  go_loopg [15, 2] 6 (fun gk s15 s2 wr => ∃ j : Nat, s15 = .int .i64 j ∧ s2 = .int .i64 0 ∧ j + gk = 6 ∧ GB w g ⟨ta, tc, na, nc, pa, pc⟩ wr ∧ Blk wr B 58 #[.func (.func 50) #[] #[], .func (.func 51) #[] #[], .func (.func 52) #[] #[], .func (.func 53) #[] #[], .func (.func 54) #[] #[], .func (.func 55) #[] #[]] ∧ ∀ i, i < j → stepE g i = 0)
  case atStart => exact ⟨0, rfl, rfl, rfl, hG, hbF, by intro i h; omega⟩
  case round =>
    clear hG hbF
    obtain ⟨j, rfl, rfl, hj, hG, hbF, h0⟩ := hrel
    replace h0 := Lib.hid h0
    have cB0 := hbF.cell 0
    have cB1 := hbF.cell 1
    have cB2 := hbF.cell 2
    have cB3 := hbF.cell 3
    have cB4 := hbF.cell 4
    have cB5 := hbF.cell 5
    simp only [List.getElem?_toArray, List.getElem?_cons_zero, List.getElem?_cons_succ] at cB0 cB1 cB2 cB3 cB4 cB5
    obtain ⟨c0, c1, c2, c3, c4, c5⟩ := hG.cells
    dsimp only at c1 c3 c5
    by_cases hj6 : j = 6
    · subst hj6
      have hR3 : R = 0 := hR.out.trans (hL.out hk.out h0.out)
      subst hR3
      go_wp2_with fail
      try rw [Exit.noGoto_ret]
      go_ret
      exact ⟨rfl, hG.2.2⟩
    rcases (show j = 0 ∨ j = 1 ∨ j = 2 ∨ j = 3 ∨ j = 4 ∨ j = 5 by omega) with rfl | rfl | rfl | rfl | rfl | rfl
    · obtain ⟨E, hE0⟩ : ∃ E, E = stepE g 0 := ⟨_, rfl⟩
      have hc := Lib.hid (hA.out wr (hG.2.1.mono hG.2.2.size))
      rw [← hE0] at hc
      replace hE0 := Lib.hid hE0
      by_cases hz : E = 0
      · have hzz := Lib.hid (hE0.out.symm.trans hz)
        subst hz
        go_wp2_with (go_at_call 50; refine hc.out.mono ?_; rintro e w3 ⟨rfl, hb3⟩)
        go_roundg (6 - (0 + 1))
        case measure => omega
        case rel => exact ⟨0 + 1, by go_num, rfl, by omega, hG.step hb3, hbF.step hb3, zeros_succ h0.out hzz.out⟩
      · have hR3 : R = E := by rw [hR.out, hS.out hk.out 0 (by omega) h0.out (by rw [← hE0.out]; exact hz), ← hE0.out]
        subst hR3
        have hzb : (R == 0) = false := by simpa using hz
        go_wp2_with (go_at_call 50; refine hc.out.mono ?_; rintro e w3 ⟨rfl, hb3⟩)
        try rw [Exit.noGoto_ret]
        go_ret
        exact ⟨rfl, (hG.step hb3).2.2⟩
    · obtain ⟨E, hE0⟩ : ∃ E, E = stepE g 1 := ⟨_, rfl⟩
      have hc := Lib.hid (hB.out wr (hG.2.1.mono hG.2.2.size))
      rw [← hE0] at hc
      replace hE0 := Lib.hid hE0
      by_cases hz : E = 0
      · have hzz := Lib.hid (hE0.out.symm.trans hz)
        subst hz
        go_wp2_with (go_at_call 51; refine hc.out.mono ?_; rintro e w3 ⟨rfl, hb3⟩)
        go_roundg (6 - (1 + 1))
        case measure => omega
        case rel => exact ⟨1 + 1, by go_num, rfl, by omega, hG.step hb3, hbF.step hb3, zeros_succ h0.out hzz.out⟩
      · have hR3 : R = E := by rw [hR.out, hS.out hk.out 1 (by omega) h0.out (by rw [← hE0.out]; exact hz), ← hE0.out]
        subst hR3
        have hzb : (R == 0) = false := by simpa using hz
        go_wp2_with (go_at_call 51; refine hc.out.mono ?_; rintro e w3 ⟨rfl, hb3⟩)
        try rw [Exit.noGoto_ret]
        go_ret
        exact ⟨rfl, (hG.step hb3).2.2⟩
    · obtain ⟨E, hE0⟩ : ∃ E, E = stepE g 2 := ⟨_, rfl⟩
      have hc := Lib.hid (hC.out wr (hG.2.1.mono hG.2.2.size) (h0.out 1 (by omega)))
      rw [← hE0] at hc
      replace hE0 := Lib.hid hE0
      by_cases hz : E = 0
      · have hzz := Lib.hid (hE0.out.symm.trans hz)
        subst hz
        go_wp2_with (go_at_call 52; refine hc.out.mono ?_; rintro e w3 ⟨rfl, hb3⟩)
        go_roundg (6 - (2 + 1))
        case measure => omega
        case rel => exact ⟨2 + 1, by go_num, rfl, by omega, hG.step hb3, hbF.step hb3, zeros_succ h0.out hzz.out⟩
      · have hR3 : R = E := by rw [hR.out, hS.out hk.out 2 (by omega) h0.out (by rw [← hE0.out]; exact hz), ← hE0.out]
        subst hR3
        have hzb : (R == 0) = false := by simpa using hz
        go_wp2_with (go_at_call 52; refine hc.out.mono ?_; rintro e w3 ⟨rfl, hb3⟩)
        try rw [Exit.noGoto_ret]
        go_ret
        exact ⟨rfl, (hG.step hb3).2.2⟩
    · obtain ⟨E, hE0⟩ : ∃ E, E = stepE g 3 := ⟨_, rfl⟩
      have hc := Lib.hid (hD.out wr (hG.2.1.mono hG.2.2.size))
      rw [← hE0] at hc
      replace hE0 := Lib.hid hE0
      by_cases hz : E = 0
      · have hzz := Lib.hid (hE0.out.symm.trans hz)
        subst hz
        go_wp2_with (go_at_call 53; refine hc.out.mono ?_; rintro e w3 ⟨rfl, hb3⟩)
        go_roundg (6 - (3 + 1))
        case measure => omega
        case rel => exact ⟨3 + 1, by go_num, rfl, by omega, hG.step hb3, hbF.step hb3, zeros_succ h0.out hzz.out⟩
      · have hR3 : R = E := by rw [hR.out, hS.out hk.out 3 (by omega) h0.out (by rw [← hE0.out]; exact hz), ← hE0.out]
        subst hR3
        have hzb : (R == 0) = false := by simpa using hz
        go_wp2_with (go_at_call 53; refine hc.out.mono ?_; rintro e w3 ⟨rfl, hb3⟩)
        try rw [Exit.noGoto_ret]
        go_ret
        exact ⟨rfl, (hG.step hb3).2.2⟩
    · obtain ⟨E, hE0⟩ : ∃ E, E = stepE g 4 := ⟨_, rfl⟩
      have hc := Lib.hid (hE.out wr (hG.2.1.mono hG.2.2.size))
      rw [← hE0] at hc
      replace hE0 := Lib.hid hE0
      by_cases hz : E = 0
      · have hzz := Lib.hid (hE0.out.symm.trans hz)
        subst hz
        go_wp2_with (go_at_call 54; refine hc.out.mono ?_; rintro e w3 ⟨rfl, hb3⟩)
        go_roundg (6 - (4 + 1))
        case measure => omega
        case rel => exact ⟨4 + 1, by go_num, rfl, by omega, hG.step hb3, hbF.step hb3, zeros_succ h0.out hzz.out⟩
      · have hR3 : R = E := by rw [hR.out, hS.out hk.out 4 (by omega) h0.out (by rw [← hE0.out]; exact hz), ← hE0.out]
        subst hR3
        have hzb : (R == 0) = false := by simpa using hz
        go_wp2_with (go_at_call 54; refine hc.out.mono ?_; rintro e w3 ⟨rfl, hb3⟩)
        try rw [Exit.noGoto_ret]
        go_ret
        exact ⟨rfl, (hG.step hb3).2.2⟩
    · obtain ⟨E, hE0⟩ : ∃ E, E = stepE g 5 := ⟨_, rfl⟩
      have hc := Lib.hid (hF.out wr (hG.2.1.mono hG.2.2.size))
      rw [← hE0] at hc
      replace hE0 := Lib.hid hE0
      by_cases hz : E = 0
      · have hzz := Lib.hid (hE0.out.symm.trans hz)
        subst hz
        go_wp2_with (go_at_call 55; refine hc.out.mono ?_; rintro e w3 ⟨rfl, hb3⟩)
        go_roundg (6 - (5 + 1))
        case measure => omega
        case rel => exact ⟨5 + 1, by go_num, rfl, by omega, hG.step hb3, hbF.step hb3, zeros_succ h0.out hzz.out⟩
      · have hR3 : R = E := by rw [hR.out, hS.out hk.out 5 (by omega) h0.out (by rw [← hE0.out]; exact hz), ← hE0.out]
        subst hR3
        have hzb : (R == 0) = false := by simpa using hz
        go_wp2_with (go_at_call 55; refine hc.out.mono ?_; rintro e w3 ⟨rfl, hb3⟩)
        try rw [Exit.noGoto_ret]
        go_ret
        exact ⟨rfl, (hG.step hb3).2.2⟩
end Go.Proofs.Ytlngbphchhbpbaa

/- The kit: Mod, At, OwnTexts, OwnInts. -/
namespace Go.Proofs.Ytlngbphchhbpbaa
open Go.ChangeShapes Go.WideShapes Go.ChangeAt Go.RowKit
set_option linter.unusedVariables false

theorem mod_lo (a m : Int) (hm : 0 < m) (h : a.tmod m < 0) : a.tmod m + m = a % m := by
  have h1 := (Int.tmod_eq_emod : a.tmod m = _)
  have h2 := Int.emod_nonneg a (by omega : m ≠ 0)
  have h3 := Int.emod_lt_of_pos a hm
  split at h1 <;> omega
theorem mod_hi (a m : Int) (hm : 0 < m) (h : ¬ a.tmod m < 0) : a.tmod m = a % m := by
  have h1 := (Int.tmod_eq_emod : a.tmod m = _)
  have h2 := Int.emod_nonneg a (by omega : m ≠ 0)
  have h3 := Int.emod_lt_of_pos a hm
  split at h1 <;> omega
theorem mod_bd (a m : Int) (hm : 0 < m) : -m < a.tmod m ∧ a.tmod m < m := by
  have h1 := (Int.tmod_eq_emod : a.tmod m = _)
  have h2 := Int.emod_nonneg a (by omega : m ≠ 0)
  have h3 := Int.emod_lt_of_pos a hm
  split at h1 <;> omega

set_option maxHeartbeats 400000 in
theorem mod_any (a m : Int) (w : World) (wa : (Lit.int .i64 a).wf = true) (h1 : 1 ≤ m) (h2 : m ≤ 1099511627776) :
    Calls Try.prog 20 #[.int .i64 a, .int .i64 m] w fun e w' => e = .returned (.int .i64 (a % m)) ∧ w = w' := by
  have hb := mod_bd a m (by omega)
  have hne : ¬ m = 0 := by omega
  have hnb : (m == 0) = false := by simpa using hne
  by_cases h : a.tmod m < 0
  · have hL := Lib.hid (mod_lo a m (by omega) h)
    go_enter Try.func20, Try.ntmps20
    go_wp2_with fail
    go_ret
    exact ⟨ret_int hL.out, rfl⟩
  · have hL := Lib.hid (mod_hi a m (by omega) h)
    go_enter Try.func20, Try.ntmps20
    go_wp2_with fail
    go_ret
    exact ⟨ret_int hL.out, rfl⟩

set_option maxHeartbeats 400000 in
theorem at_any (A : Option Addr) (n c : Nat) (l : List Int) (i : Nat) (B : Nat) (w : World) (h : Rd1 w B A n (ints l)) (hn : n ≤ maxLen) (hi : i ≤ 1000000) :
    Calls Try.prog 40 #[.slice A n c, .int .i64 i] w fun e w' => e = .returned (.int .i64 (l.getD i 0)) ∧ w = w' := by
  have hl : l.length = n := by have := h.1; simpa [ints] using this
  by_cases hin : i < n
  · have hxi : (ints l)[i]? = some (.int .i64 (l.getD i 0)) := by
      have : i < l.length := by omega
      simp [ints, this]
    obtain ⟨b, off, rfl, hbt, x0⟩ := h.get hxi
    generalize l.getD i 0 = x at *
    have hz1 : (0 : Int) ≤ i := by omega
    have hz2 : (i : Int) < n := by omega
    replace hl := Lib.hid hl
    replace hxi := Lib.hid hxi
    go_enter Try.func40, Try.ntmps40
    go_wp2_with fail
    go_ret
    exact ⟨rfl, rfl⟩
  · have hx : l.getD i 0 = 0 := by simp [List.getD_eq_getElem?_getD, show l.length ≤ i by omega]
    rw [hx]
    have hz1 : (0 : Int) ≤ i := by omega
    have hz2 : (n : Int) ≤ i := by omega
    replace hl := Lib.hid hl
    replace hx := Lib.hid hx
    go_enter Try.func40, Try.ntmps40
    go_wp2_with fail
    go_ret
    exact ⟨rfl, rfl⟩

def RetS (w : World) (l : List ByteArray) (e : Ending) (w' : World) : Prop := ∃ v, e = .returned v ∧ Own1 w' w.heap.size 9 v (strs l) ∧ Below w.heap.size w w'
theorem ownints_any (A : Option Addr) (n c : Nat) (l : List Int) (w : World) (h : Rd1 w w.heap.size A n (ints l)) (hn : n ≤ 1000000) : Calls Try.prog 9 #[.slice A n c] w (RetI w l) := by
  have hP := Lib.hid (fun (v : Value) (w' : World) (h1 : Own1 w' w.heap.size 3 v (ints l)) (h2 : Below w.heap.size w w') => (show RetI w l (.returned v) w' from ⟨v, rfl, h1, h2⟩))
  have hoe := Own1.empty w w.heap.size 3 (Nat.le_refl _)
  have ha' := h.below ((Below.refl w.heap.size w).alloc (Nat.le_refl _) (.cells #[] 3))
  go_enter Try.func9, Try.ntmps9
  go_wp2_with (at_builtin; refine wpList_join1 _ rfl _ _ 26 rfl w.heap.size 3 _ 8 under22 info3 rfl _ [] rfl hoe w.heap.size A n c (ints l) rfl ha' ints_one (by simp; omega) (by omega) (by simp) ?_; intro v' w1 hown1 hg1 hat1 hb1)
  go_ret
  exact hP.out _ _ hown1 (hb1 w (bAlc (Below.refl _ _) _))
end Go.Proofs.Ytlngbphchhbpbaa

/- Grammars out of numbers, plainly; what a right grammar gives. -/
namespace Go.Proofs.Ytlngbphchhbpbaa
set_option linter.unusedVariables false

/-- a grammar that is right, as the sets use it -/
structure GOk (g : Gr) (k : Nat) : Prop where
  hk : g.k = (k : Int)
  k1 : 1 ≤ k
  k4 : k ≤ 4
  tk : 1 ≤ g.toks.length ∧ g.toks.length ≤ 8
  nm : 1 ≤ g.names.length ∧ g.names.length ≤ 8
  pl : g.prods.length ≤ 24
  st : 16 ≤ g.start ∧ g.start < 16 + (g.names.length : Int)
  pr : ∀ p ∈ g.prods, (16 ≤ p.left ∧ p.left < 16 + (g.names.length : Int)) ∧ p.right.length ≤ 6 ∧ ∀ s ∈ p.right, (0 ≤ s ∧ s < g.toks.length) ∨ (16 ≤ s ∧ s < 16 + (g.names.length : Int))
theorem fullB_iff (g : Gr) : fullB g = true ↔ g.toks.length ≤ 8 ∧ g.names.length ≤ 8 ∧ g.prods.length ≤ 24 ∧ ∀ p ∈ g.prods, p.right.length ≤ 6 := by
  simp [fullB]
theorem shortB_iff (g : Gr) : shortB g = false ↔ 1 ≤ g.toks.length ∧ 1 ≤ g.names.length := by
  unfold shortB
  rw [Bool.or_eq_false_iff, decide_eq_false_iff_not, decide_eq_false_iff_not]
  omega
theorem symB_iff (g : Gr) : symB g = true ↔ (16 ≤ g.start ∧ g.start < 16 + (g.names.length : Int)) ∧ ∀ p ∈ g.prods, (16 ≤ p.left ∧ p.left < 16 + (g.names.length : Int)) ∧ ∀ s ∈ p.right, (0 ≤ s ∧ s < (g.toks.length : Int)) ∨ (16 ≤ s ∧ s < 16 + (g.names.length : Int)) := by
  unfold symB ntB tmB
  rw [Bool.and_eq_true, decide_eq_true_iff, List.all_eq_true]
  refine and_congr Iff.rfl (forall_congr' fun p => imp_congr Iff.rfl ?_)
  rw [Bool.and_eq_true, decide_eq_true_iff, List.all_eq_true]
  refine and_congr Iff.rfl (forall_congr' fun s => imp_congr Iff.rfl ?_)
  rw [Bool.or_eq_true, decide_eq_true_iff, decide_eq_true_iff]
theorem gchk_iff (g : Gr) : gchk g = 0 ↔ (1 ≤ g.k ∧ g.k ≤ 4) ∧ fullB g = true ∧ shortB g = false ∧ nameB g = true ∧ diffB g = true ∧ symB g = true ∧ ordB g = true ∧ compB g = true := by
  unfold gchk
  by_cases h1 : g.k < 1 ∨ 4 < g.k
  · rw [if_pos h1]; constructor
    · intro h; cases h
    · rintro ⟨⟨a, b⟩, _⟩; omega
  · rw [if_neg h1]
    have h1' : 1 ≤ g.k ∧ g.k ≤ 4 := by omega
    cases fullB g <;> cases shortB g <;> cases nameB g <;> cases diffB g <;> cases symB g <;> cases ordB g <;> cases compB g <;> simp [h1']
theorem gok_of {g : Gr} (h : gchk g = 0) : GOk g g.k.toNat := by
  obtain ⟨⟨h1, h2⟩, h3, h4, _, _, h5, _, _⟩ := (gchk_iff g).1 h
  obtain ⟨f1, f2, f3, f4⟩ := (fullB_iff g).1 h3
  obtain ⟨s1, s2⟩ := (shortB_iff g).1 h4
  obtain ⟨y1, y2⟩ := (symB_iff g).1 h5
  exact ⟨by omega, by omega, by omega, ⟨s1, f1⟩, ⟨s2, f2⟩, f3, y1, fun p hp => ⟨(y2 p hp).1, f4 p hp, (y2 p hp).2⟩⟩

/-- number i, made small -/
def numA (l : List Int) (i : Nat) : Int := l.getD i 0 % 1073741824
theorem numA_bd (l : List Int) (i : Nat) : 0 ≤ numA l i ∧ numA l i < 1073741824 := by unfold numA; omega
def symA (t m z : Int) : Int := if z % 5 < 3 then z % t else 16 + z % m
def digA (y : Int) (s : Nat) : Int := y / 4 / (16 ^ s : Nat) % 16
def rightA (t m y : Int) : List Int := (List.range (y % 4).toNat).map fun s => symA t m (digA y s)
def prA (l : List Int) (t m : Int) (i j : Nat) : Pr := ⟨16 + (i : Int), rightA t m (numA l (4 + 3 * i + j))⟩
def addA (l : List Int) (t m : Int) (i : Nat) (ps : List Pr) (j : Nat) : List Pr := if ps.length < 7 then ps ++ [prA l t m i j] else ps
def rowA (l : List Int) (t m : Int) (i : Nat) (ps : List Pr) : List Pr := (List.range ((numA l (1 + i) % 3).toNat + 1)).foldl (addA l t m i) ps
def prodsA (l : List Int) (t m : Int) (n : Nat) : List Pr := (List.range n).foldl (fun ps i => rowA l t m i ps) []
def nameA (i : Nat) : ByteArray := ⟨#[UInt8.ofNat (83 + i)]⟩
def toksA (t : Nat) : List ByteArray := [(⟨#[97]⟩ : ByteArray), ⟨#[98]⟩].take t
def tA (l : List Int) : Nat := 1 + (numA l 0 / 2 % 2).toNat
def mA (l : List Int) : Nat := 1 + (numA l 0 / 4 % 3).toNat
def anyG (l : List Int) : Gr := ⟨1 + numA l 0 % 2, toksA (tA l), ⟨#[122]⟩, (List.range (mA l)).map nameA, 16, prodsA l (tA l) (mA l) (mA l)⟩

theorem tA_bd (l : List Int) : tA l = 1 ∨ tA l = 2 := by unfold tA; omega
theorem mA_bd (l : List Int) : mA l = 1 ∨ mA l = 2 ∨ mA l = 3 := by unfold mA; omega
theorem toksA_len (t : Nat) (h : t = 1 ∨ t = 2) : (toksA t).length = t := by rcases h with rfl | rfl <;> rfl

/-- a production made of numbers is right -/
def PrRight (t m : Nat) (p : Pr) : Prop := p.right.length ≤ 3 ∧ ∀ s ∈ p.right, (0 ≤ s ∧ s < (t : Int)) ∨ (16 ≤ s ∧ s < 16 + (m : Int))
theorem symA_right (t m : Nat) (ht : 1 ≤ t) (hm : 1 ≤ m) (z : Int) (hz : 0 ≤ z) : (0 ≤ symA t m z ∧ symA t m z < (t : Int)) ∨ (16 ≤ symA t m z ∧ symA t m z < 16 + (m : Int)) := by
  unfold symA
  split
  · left; exact ⟨Int.emod_nonneg _ (by omega), Int.emod_lt_of_pos _ (by omega)⟩
  · right
    have := Int.emod_nonneg z (show (m : Int) ≠ 0 by omega)
    have := Int.emod_lt_of_pos z (show (0 : Int) < m by omega)
    omega
theorem prA_right (l : List Int) (t m : Nat) (ht : 1 ≤ t) (hm : 1 ≤ m) (i j : Nat) : PrRight t m (prA l t m i j) := by
  refine ⟨by simp only [prA, rightA, List.length_map, List.length_range]; omega, ?_⟩
  intro s hs
  simp only [prA, rightA, List.mem_map] at hs
  obtain ⟨d, _, rfl⟩ := hs
  exact symA_right t m ht hm _ (by unfold digA; omega)
/-- what holds of the productions when i nonterminals have theirs -/
structure RowsA (t m i : Nat) (ps : List Pr) : Prop where
  right : ∀ p ∈ ps, PrRight t m p
  left : ∀ p ∈ ps, 16 ≤ p.left ∧ p.left < 16 + (i : Int)
  asc : ps.Pairwise fun p q => p.left ≤ q.left
  all : ∀ j : Nat, j < i → ∃ p ∈ ps, p.left = 16 + (j : Int)
  len : ps.length ≤ 7
theorem addA_facts (l : List Int) (t m : Nat) (ht : 1 ≤ t) (hm : 1 ≤ m) (i : Nat) {ps : List Pr} (h1 : ∀ p ∈ ps, PrRight t m p) (h2 : ∀ p ∈ ps, 16 ≤ p.left ∧ p.left < 16 + ((i + 1 : Nat) : Int)) (h3 : ps.Pairwise fun p q => p.left ≤ q.left) (h5 : ps.length ≤ 7) (j : Nat) :
    (∀ p ∈ addA l t m i ps j, PrRight t m p) ∧ (∀ p ∈ addA l t m i ps j, 16 ≤ p.left ∧ p.left < 16 + ((i + 1 : Nat) : Int)) ∧ (addA l t m i ps j).Pairwise (fun p q => p.left ≤ q.left) ∧ (addA l t m i ps j).length ≤ 7 ∧ (∀ p ∈ ps, p ∈ addA l t m i ps j) ∧ (addA l t m i ps j).length ≤ ps.length + 1 := by
  unfold addA
  split
  · rename_i h
    refine ⟨?_, ?_, ?_, by simp; omega, fun p hp => List.mem_append_left _ hp, by simp⟩
    · intro p hp
      rcases List.mem_append.1 hp with h | h
      · exact h1 p h
      · simp at h; subst h; exact prA_right l t m ht hm i j
    · intro p hp
      rcases List.mem_append.1 hp with h | h
      · exact h2 p h
      · simp at h; subst h; simp only [prA]; omega
    · rw [List.pairwise_append]
      refine ⟨h3, List.pairwise_singleton _ _, fun p hp q hq => ?_⟩
      simp at hq; subst hq
      have := h2 p hp
      simp only [prA]; omega
  · exact ⟨h1, h2, h3, h5, fun p hp => hp, by omega⟩
theorem foldA_facts (l : List Int) (t m : Nat) (ht : 1 ≤ t) (hm : 1 ≤ m) (i : Nat) : ∀ (js : List Nat) {ps : List Pr} (h1 : ∀ p ∈ ps, PrRight t m p) (h2 : ∀ p ∈ ps, 16 ≤ p.left ∧ p.left < 16 + ((i + 1 : Nat) : Int)) (h3 : ps.Pairwise fun p q => p.left ≤ q.left) (h5 : ps.length ≤ 7),
    (∀ p ∈ js.foldl (addA l t m i) ps, PrRight t m p) ∧ (∀ p ∈ js.foldl (addA l t m i) ps, 16 ≤ p.left ∧ p.left < 16 + ((i + 1 : Nat) : Int)) ∧ (js.foldl (addA l t m i) ps).Pairwise (fun p q => p.left ≤ q.left) ∧ (js.foldl (addA l t m i) ps).length ≤ 7 ∧ (∀ p ∈ ps, p ∈ js.foldl (addA l t m i) ps) ∧ (js.foldl (addA l t m i) ps).length ≤ ps.length + js.length
  | [], ps, h1, h2, h3, h5 => ⟨h1, h2, h3, h5, fun p hp => hp, by simp⟩
  | j :: js, ps, h1, h2, h3, h5 => by
    obtain ⟨a1, a2, a3, a4, a5, a6⟩ := addA_facts l t m ht hm i h1 h2 h3 h5 j
    obtain ⟨b1, b2, b3, b4, b5, b6⟩ := foldA_facts l t m ht hm i js a1 a2 a3 a4
    refine ⟨b1, b2, b3, b4, fun p hp => b5 p (a5 p hp), ?_⟩
    simp only [List.foldl_cons, List.length_cons]
    omega
theorem rowA_len (l : List Int) (t m : Nat) (ht : 1 ≤ t) (hm : 1 ≤ m) (i : Nat) {ps : List Pr} (h : RowsA t m i ps) : (rowA l t m i ps).length ≤ ps.length + 3 := by
  obtain ⟨_, _, _, _, _, b6⟩ := foldA_facts l t m ht hm i (List.range ((numA l (1 + i) % 3).toNat + 1)) h.right (fun p hp => by have := h.left p hp; omega) h.asc h.len
  rw [List.length_range] at b6
  unfold rowA; omega
theorem rowA_facts (l : List Int) (t m : Nat) (ht : 1 ≤ t) (hm : 1 ≤ m) (i : Nat) {ps : List Pr} (h : RowsA t m i ps) (h6 : ps.length ≤ 6) : RowsA t m (i + 1) (rowA l t m i ps) := by
  obtain ⟨b1, b2, b3, b4, b5, b6⟩ := foldA_facts l t m ht hm i (List.range ((numA l (1 + i) % 3).toNat + 1)) h.right (fun p hp => by have := h.left p hp; omega) h.asc h.len
  refine ⟨b1, b2, b3, fun j hj => ?_, b4⟩
  by_cases hji : j < i
  · obtain ⟨p, hp, e⟩ := h.all j hji
    exact ⟨p, b5 p hp, e⟩
  · have : j = i := by omega
    subst this
    unfold rowA
    rw [List.range_succ_eq_map, List.foldl_cons]
    have ha : addA l t m j ps 0 = ps ++ [prA l t m j 0] := by unfold addA; rw [if_pos (by omega)]
    obtain ⟨a1, a2, a3, a4, _, _⟩ := addA_facts l t m ht hm j h.right (fun p hp => by have := h.left p hp; omega) h.asc h.len 0
    obtain ⟨_, _, _, _, c5, _⟩ := foldA_facts l t m ht hm j ((List.range (numA l (1 + j) % 3).toNat).map Nat.succ) a1 a2 a3 a4
    exact ⟨prA l t m j 0, c5 _ (by rw [ha]; simp), rfl⟩
theorem prodsA_facts (l : List Int) (t m : Nat) (ht : 1 ≤ t) (hm : 1 ≤ m) : ∀ n, n ≤ 3 → RowsA t m n (prodsA l t m n) ∧ (prodsA l t m n).length ≤ 3 * n
  | 0, _ => ⟨⟨by simp [prodsA], by simp [prodsA], by simp [prodsA], by omega, by simp [prodsA]⟩, by simp [prodsA]⟩
  | n + 1, h => by
    obtain ⟨h1, h2⟩ := prodsA_facts l t m ht hm n (by omega)
    have e : prodsA l t m (n + 1) = rowA l t m n (prodsA l t m n) := by simp [prodsA, List.range_succ]
    rw [e]
    have := rowA_len l t m ht hm n h1
    exact ⟨rowA_facts l t m ht hm n h1 (by omega), by omega⟩
theorem ordB_asc {g : Gr} (h : g.prods.Pairwise fun p q => p.left ≤ q.left) : ordB g = true := by
  unfold ordB
  rw [List.all_eq_true]
  intro i hi
  have hi := List.mem_range.1 hi
  by_cases h0 : i = 0
  · simp [h0]
  · have := List.pairwise_iff_getElem.1 h (i - 1) i (by omega) hi (by omega)
    simp [List.getD_eq_getElem?_getD, hi, show i - 1 < g.prods.length by omega, this]
theorem namesA_ok (t m : Nat) (ht : t = 1 ∨ t = 2) (hm : m = 1 ∨ m = 2 ∨ m = 3) : nameB ⟨1, toksA t, ⟨#[122]⟩, (List.range m).map nameA, 16, []⟩ = true ∧ diffB ⟨1, toksA t, ⟨#[122]⟩, (List.range m).map nameA, 16, []⟩ = true := by
  rcases ht with rfl | rfl <;> rcases hm with rfl | rfl | rfl <;> exact ⟨by decide +kernel, by decide +kernel⟩
/-- a grammar made of numbers is right -/
theorem anyG_ok (l : List Int) : gchk (anyG l) = 0 := by
  obtain ⟨⟨r1, r2, r3, r4, r5⟩, _⟩ := prodsA_facts l (tA l) (mA l) (by unfold tA; omega) (by unfold mA; omega) (mA l) (by unfold mA; omega)
  have ht := tA_bd l
  have hm := mA_bd l
  have hn := numA_bd l 0
  have hts := toksA_len (tA l) ht
  have hml : ((anyG l).names.length : Int) = (mA l : Int) := by simp [anyG]
  have htl : ((anyG l).toks.length : Int) = (tA l : Int) := by simp [anyG, hts]
  rw [gchk_iff]
  refine ⟨by simp only [anyG]; omega, ?_, ?_, ?_, ?_, ?_, ?_, ?_⟩
  · rw [fullB_iff]
    refine ⟨by omega, by omega, by simp only [anyG]; omega, fun p hp => ?_⟩
    have := (r1 p hp).1
    omega
  · rw [shortB_iff]; omega
  · have e : nameB (anyG l) = nameB ⟨1, toksA (tA l), ⟨#[122]⟩, (List.range (mA l)).map nameA, 16, []⟩ := rfl
    rw [e]
    exact (namesA_ok _ _ ht hm).1
  · have e : diffB (anyG l) = diffB ⟨1, toksA (tA l), ⟨#[122]⟩, (List.range (mA l)).map nameA, 16, []⟩ := rfl
    rw [e]
    exact (namesA_ok _ _ ht hm).2
  · rw [symB_iff, hml, htl]
    refine ⟨by simp only [anyG]; omega, fun p hp => ⟨?_, (r1 p hp).2⟩⟩
    have := r2 p hp
    omega
  · exact ordB_asc r3
  · unfold compB
    rw [List.all_eq_true]
    intro i hi
    have hi := List.mem_range.1 hi
    obtain ⟨p, hp, e⟩ := r4 i (by omega)
    rw [List.any_eq_true]
    exact ⟨p, hp, decide_eq_true e⟩
end Go.Proofs.Ytlngbphchhbpbaa

/- derive.Sentences: the walk. -/
namespace Go.Proofs.Ytlngbphchhbpbaa
open Go.ChangeShapes Go.WideShapes Go.ChangeAt Go.RowKit
set_option linter.unusedVariables false

def SetsO (W : World) (base bo n : Nat) (ss : List (List (List Int))) : Prop :=
  ∃ (cs : Array Value) (mbs : List Nat), Blk W bo 66 cs ∧ cs.size = n ∧ mbs.length = ss.length ∧ mbs.Nodup ∧ (∀ m ∈ mbs, base ≤ m ∧ m < W.heap.size) ∧
    ∀ (i m : Nat) (s : List (List Int)), mbs[i]? = some m → ss[i]? = some s → cs[i]? = some (.map (some m)) ∧ MapK textKey W m s
theorem SetsO.step {W W' : World} {base bo n : Nat} {ss : List (List (List Int))} (h : SetsO W base bo n ss) (hb : Below W.heap.size W W') : SetsO W' base bo n ss := by
  obtain ⟨cs, mbs, h1, h2, h3, h4, h5, h6⟩ := h
  exact ⟨cs, mbs, h1.step hb, h2, h3, h4, fun m hm => ⟨(h5 m hm).1, Nat.lt_of_lt_of_le (h5 m hm).2 hb.size⟩, fun i m s a b => ⟨(h6 i m s a b).1, (h6 i m s a b).2.step hb⟩⟩
theorem SetsO.put {W : World} {base bo n : Nat} {ss : List (List (List Int))} (h : SetsO W base bo n ss) {g : Nat} {t : TypeId} {cs' : Array Value} (q : Blk W g t cs') (hg : g ≠ bo) (i : Nat) (v : Value) : SetsO (W.setCell ⟨g, i, none⟩ v) base bo n ss := by
  obtain ⟨cs, mbs, h1, h2, h3, h4, h5, h6⟩ := h
  refine ⟨cs, mbs, h1.far (Ne.symm hg) v, h2, h3, h4, fun m hm => ?_, fun j m s a b => ⟨(h6 j m s a b).1, ?_⟩⟩
  · have := h5 m hm; simpa using this
  · have hm := (h6 j m s a b).2
    exact hm.grown (setCell_grown W g i v) (by simpa using mapk_blk hm q)
theorem SetsO.push {W : World} {base bo n : Nat} {ss : List (List (List Int))} (h : SetsO W base bo n ss) (hn : ss.length < n) (hb : base ≤ W.heap.size) :
    SetsO ((W.alloc (.map #[] 0)).setCell ⟨bo, ss.length, none⟩ (.map (some W.heap.size))) base bo n (ss ++ [[]]) := by
  obtain ⟨cs, mbs, h1, h2, h3, h4, h5, h6⟩ := h
  have hlt := h1.lt
  have hbo : W.heap.size ≠ bo := by omega
  refine ⟨cs.setIfInBounds ss.length (.map (some W.heap.size)), mbs ++ [W.heap.size], (h1.alloc _).put _ _, by simpa using h2, by simp [h3], ?_, ?_, ?_⟩
  · rw [List.nodup_append]
    refine ⟨h4, by simp, fun a ha b hb' => ?_⟩
    simp at hb'; subst hb'
    have := (h5 a ha).2
    omega
  · intro m hm
    rcases List.mem_append.1 hm with hm | hm
    · have := h5 m hm; simp; omega
    · simp at hm; subst hm; simp; omega
  · intro i m s hmi hsi
    by_cases hi : i < ss.length
    · rw [List.getElem?_append_left (by omega)] at hmi hsi
      obtain ⟨a, b⟩ := h6 i m s hmi hsi
      refine ⟨by rw [Array.getElem?_setIfInBounds_ne (by omega)]; exact a, ?_⟩
      have b2 := b.step (w' := W.alloc (.map #[] 0)) (bAlc (Below.refl _ _) _)
      exact b2.grown (setCell_grown _ bo _ _) (by simpa using mapk_blk b h1)
    · have hi2 : i = ss.length := by have := (List.getElem?_eq_some_iff.1 hsi).1; simp at this; omega
      subst hi2
      rw [← h3] at hmi
      simp at hmi hsi
      subst hmi; subst hsi
      refine ⟨by rw [Array.getElem?_setIfInBounds_self]; simp [h2, hn], ?_⟩
      exact (mapk_new textKey W W.heap.size rfl).grown (setCell_grown _ bo _ _) (by simpa using hbo)


theorem SetsO.toM {W : World} {base bo n : Nat} {ss : List (List (List Int))} (h : SetsO W base bo n ss) : ∃ mbs, SetsM W bo n mbs ss ∧ mbs.Nodup ∧ ∀ m ∈ mbs, base ≤ m ∧ m < W.heap.size := by
  obtain ⟨cs, mbs, h1, h2, h3, h4, h5, h6⟩ := h
  exact ⟨mbs, ⟨cs, h1, h2, h3, h6⟩, h4, h5⟩
theorem SetsO.blk {W : World} {base bo n : Nat} {ss : List (List (List Int))} (h : SetsO W base bo n ss) {i : Nat} (hi : i < n) : (∃ v, W.cell? ⟨bo, i, none⟩ = some v) ∧ W.frozen? ⟨bo, i, none⟩ = false ∧ bo < W.heap.size := by
  obtain ⟨cs, mbs, h1, h2, h3, h4, h5, h6⟩ := h
  refine ⟨⟨cs[i]'(by omega), ?_⟩, h1.frozen i, h1.lt⟩
  rw [h1.cell]; simp [h2, hi]
theorem SetsO.start {W : World} {base bo n : Nat} {cs : Array Value} (h : Blk W bo 66 cs) (hn : cs.size = n) : SetsO W base bo n [] :=
  ⟨cs, [], h, hn, rfl, List.nodup_nil, by simp, by simp⟩
theorem GB.low {w : World} {g : Gr} {a : GA} {W W' : World} {lo : Nat} (h : GB w g a W) (hlo : w.heap.size < lo) (hb : Below lo W W') : GB w g a W' :=
  ⟨h.1.below hb hlo, h.2.1.below (hb.mono (by omega)), h.2.2.trans (hb.mono (by omega))⟩
theorem small_of {g : Gr} (h : gchk g = 0) : Small g := by
  have := gok_of h
  exact ⟨by have := this.tk; omega, by have := this.nm; omega, by have := this.pl; omega, fun p hp => by have := (this.pr p hp).2.1; omega⟩
theorem info66 : (Try.prog.info? 66).map (fun i => (i.zero, i.size, i.bytes)) = some (some (.map none), 1, 8) := by kernel_rfl
theorem under65 : Try.prog.underlying 65 = some (.slice 66) := by kernel_rfl
theorem snd_start (ps : List Pr) (most n : Nat) : SndS ps most (setsF (List.replicate n [])) := by
  intro a x hx
  unfold setsF at hx
  split at hx
  · cases hx
  · rw [List.getD_eq_getElem?_getD, List.getElem?_replicate] at hx
    split at hx <;> simp at hx
/-- how many rounds there may still be -/
def measS (n : Nat) (ss : List (List (List Int))) (lg gr : Bool) : Nat := if lg = true ∨ gr = false then 0 else n * 600 + 1 - tot ss
/-- the strings of the start, in order -/
def SSet (g : Gr) (most : Nat) (L : List (List Int)) : Prop := AscT L ∧ ∀ x, x ∈ L ↔ Yld g.prods g.start x ∧ x.length ≤ most
/-- what Sentences hands back -/
def RetSn (g : Gr) (most : Nat) (w : World) (e : Ending) (w' : World) : Prop :=
  Below w.heap.size w w' ∧ ((Big g.toks.length most ∧ e = .returned (.tuple #[.slice none 0 0, .int .i64 19])) ∨ ∃ v L addr, e = .returned (.tuple #[v, .int .i64 0]) ∧ SSet g most L ∧ OwnTT w' w.heap.size v L addr)

set_option maxRecDepth 100000 in
set_option maxHeartbeats 4000000 in
theorem sentences_any (g : Gr) (a : GA) (most : Nat) (w : World) (hg : GrAt w w.heap.size g a) (hok : gchk g = 0) (hm12 : most ≤ 12) : Calls Try.prog 21 #[gval g a, .int .i64 most] w (RetSn g most w) := by
  obtain ⟨ta, tc, na, nc, pa, pc⟩ := a
  have hG0 := GB.start hg
  have hC := Lib.hid (fun (W : World) (h : GrAt W W.heap.size g ⟨ta, tc, na, nc, pa, pc⟩) => gcheck_any g ⟨ta, tc, na, nc, pa, pc⟩ W h (small_of hok))
  rw [hok] at hC
  have hk := gok_of hok
  obtain ⟨i66, hi66, hq0, hq1, hq2⟩ := info_parts info66
  obtain ⟨n, hn⟩ : ∃ n, n = g.names.length := ⟨_, rfl⟩
  obtain ⟨m, hm⟩ : ∃ m, m = g.prods.length := ⟨_, rfl⟩
  have hn8 : n ≤ 8 := by rw [hn]; exact hk.nm.2
  have hm24 : m ≤ 24 := by rw [hm]; exact hk.pl
  replace hk := Lib.hid hk
  clear hg hok
  unfold gval at *
  unfold gcells at *
  dsimp only at *
  rw [← hn, ← hm] at hG0 hC ⊢
  replace hn := Lib.hid hn
  replace hm := Lib.hid hm
  have hzm : (0 : Int) ≤ most := by omega
  have hzm2 : (most : Int) ≤ 12 := by omega
  have hzn : (0 : Int) ≤ n := by omega
  go_enter Try.func21, Try.ntmps21
  go_upto_region 1 with (fail)
  have qm0 : Blk ((w.alloc (.cells #[.int .i64 g.k, .slice ta g.toks.length tc, .string g.sep, .slice na n nc, .int .i64 g.start, .slice pa m pc] 25)).alloc (.cells #[.int .i64 most] 3)) (w.heap.size + 1) 3 #[.int .i64 most] := Blk.newAt _ _ _ _ (by simp)
  have hG1 := hG0.alloc (.cells #[.int .i64 most] 3)
  clear hG0
  generalize (w.alloc (.cells #[.int .i64 g.k, .slice ta g.toks.length tc, .string g.sep, .slice na n nc, .int .i64 g.start, .slice pa m pc] 25)).alloc (.cells #[.int .i64 most] 3) = w1 at *
  obtain ⟨c0, c1, c2, c3, c4, c5⟩ := hG1.cells
  dsimp only at c1 c3 c5
  rw [← hn.out] at c3
  rw [← hm.out] at c5
  go_upto_region 2 with (go_at_call 36; refine (hC.out _ (hG1.2.1.mono hG1.2.2.size)).mono ?_; rintro e w2 ⟨rfl, hb2⟩)
  have hG2 := hG1.step hb2
  have qm := qm0.step hb2
  clear hG1 qm0 c0 c1 c2 c3 c4 c5 hb2 hC
  obtain ⟨c0, c1, c2, c3, c4, c5⟩ := hG2.cells
  dsimp only at c1 c3 c5
  rw [← hn.out] at c3
  have d0 : w2.cell? ⟨w.heap.size + 1, 0, none⟩ = some (.int .i64 most) := qm.cell 0
  have hlt2 := qm.lt
  have hz1 : ¬ (12 : Int) < most := by omega
  go_upto_region 6 with (fail)
  clear d0
  go_upto_region 7 with (at_make; refine wpList_make_row _ rfl _ _ 65 rfl 66 i66 (.map none) under65 hi66 hq0 hq1 rfl _ _ n rfl rfl (by rw [hq2]; omega) (by omega) ?_)
  have hG3 := (hG2.alloc (.cells (madeCells #[.map none] n) 66)).alloc (.cells #[.slice (some ⟨w2.heap.size, 0, none⟩) n n] 65)
  have qm3 := (qm.alloc (.cells (madeCells #[.map none] n) 66)).alloc (.cells #[.slice (some ⟨w2.heap.size, 0, none⟩) n n] 65)
  have qs3 : Blk ((w2.alloc (.cells (madeCells #[.map none] n) 66)).alloc (.cells #[.slice (some ⟨w2.heap.size, 0, none⟩) n n] 65)) (w2.heap.size + 1) 65 #[.slice (some ⟨w2.heap.size, 0, none⟩) n n] := Blk.newAt _ _ _ _ (by simp)
  have hS3 : SetsO ((w2.alloc (.cells (madeCells #[.map none] n) 66)).alloc (.cells #[.slice (some ⟨w2.heap.size, 0, none⟩) n n] 65)) (w2.heap.size + 1 + 1) w2.heap.size n [] := SetsO.start ((Blk.new w2 66 _).alloc _) (by simp [madeCells])
  have hz3 : ((w2.alloc (.cells (madeCells #[.map none] n) 66)).alloc (.cells #[.slice (some ⟨w2.heap.size, 0, none⟩) n n] 65)).heap.size = w2.heap.size + 1 + 1 := by simp
  replace hz3 := Lib.hid hz3
  clear hG2 qm c0 c1 c2 c3 c4 c5
  generalize (w2.alloc (.cells (madeCells #[.map none] n) 66)).alloc (.cells #[.slice (some ⟨w2.heap.size, 0, none⟩) n n] 65) = w3 at *
  generalize w2.heap.size = bo at *
  have e0 : w3.cell? ⟨bo + 1, 0, none⟩ = some (.slice (some ⟨bo, 0, none⟩) n n) := qs3.cell 0
  go_wp2_with fail
  clear e0
  have hz4 := hz3.out
  have hz4' : bo + 1 + 1 ≤ w3.heap.size := by omega
  clear hz4
  go_loopg [31] n (fun gk s31 wr => ∃ i : Nat, s31 = .int .i64 i ∧ i + gk = n ∧ SetsO wr (bo + 1 + 1) bo n (List.replicate i []) ∧ GB w g ⟨ta, tc, na, nc, pa, pc⟩ wr ∧ Blk wr (w.heap.size + 1) 3 #[.int .i64 most] ∧ Blk wr (bo + 1) 65 #[.slice (some ⟨bo, 0, none⟩) n n] ∧ bo + 1 + 1 ≤ wr.heap.size)
  case atStart => exact ⟨0, rfl, by omega, hS3, hG3, qm3, qs3, hz4'⟩
  case round =>
    clear hS3 hG3 qm3 qs3 hz4' hz3
    obtain ⟨i, rfl, hi, hS, hG, qm, qs, hz⟩ := hrel
    replace hi := Lib.hid hi
    have hmm := @run_makeMap Try.prog
    by_cases hin : i < n
    · obtain ⟨⟨cv, hcv⟩, hfz, hlt⟩ := hS.blk hin
      have hfz' : (wr.alloc (.map #[] 0)).frozen? ⟨bo, i, none⟩ = false := by
        obtain ⟨cs, mbs, h1, _⟩ := hS
        exact (h1.alloc _).frozen i
      have hcv' : (wr.alloc (.map #[] 0)).cell? ⟨bo, i, none⟩ = some cv := cell_later (bAlc (Below.refl _ _) _) hcv
      have hzi : (0 : Int) ≤ i := by omega
      have hzin : (i : Int) < n := by omega
      have e0 : wr.cell? ⟨bo + 1, 0, none⟩ = some (.slice (some ⟨bo, 0, none⟩) n n) := qs.cell 0
      go_wp2_with fail
      go_roundg (n - (i + 1))
      case measure => have := hi.out; omega
      case rel =>
        rw [← World.setCell_alloc_past _ _ _ _ hlt]
        have h1 := hS.push (by simp; omega) (by omega)
        rw [List.length_replicate, ← List.replicate_succ'] at h1
        exact ⟨i + 1, by go_num, by have := hi.out; omega, h1, (hG.alloc _).far _ _ (by simp; omega), (qm.alloc _).far (by simp; omega) _, (qs.alloc _).far (by simp) _, by simp; omega⟩
    · have hik : i = n := by have := hi.out; omega
      obtain ⟨mbs, hM, hnd, hml⟩ := hS.toM
      rw [hik] at hM
      clear hS hmm
      replace hik := Lib.hid hik
      go_upto_region 13 with (fail)
      have qm4 := (qm.alloc (.cells #[.bool true] 4)).alloc (.cells #[.bool false] 4)
      have qs4 := (qs.alloc (.cells #[.bool true] 4)).alloc (.cells #[.bool false] 4)
      have hM4 : SetsM ((wr.alloc (.cells #[.bool true] 4)).alloc (.cells #[.bool false] 4)) bo n mbs (List.replicate n []) := (hM.step (bAlc (Below.refl _ _) _)).step (bAlc (Below.refl _ _) _)
      have hG4 := (hG.alloc (.cells #[.bool true] 4)).alloc (.cells #[.bool false] 4)
      have qg4 : Blk ((wr.alloc (.cells #[.bool true] 4)).alloc (.cells #[.bool false] 4)) wr.heap.size 4 #[.bool true] := (Blk.new _ _ _).alloc _
      have ql4 : Blk ((wr.alloc (.cells #[.bool true] 4)).alloc (.cells #[.bool false] 4)) (wr.heap.size + 1) 4 #[.bool false] := Blk.newAt _ _ _ _ (by simp)
      have hGS : GS (w.heap.size + 1) (w.heap.size + 1) (bo + 1) bo (wr.heap.size + 1) wr.heap.size n most mbs (List.replicate n []) false true ((wr.alloc (.cells #[.bool true] 4)).alloc (.cells #[.bool false] 4)) :=
        ⟨qm4, qs4, hM4, ql4, qg4, by omega, hnd, by simp, by omega, by omega, fun m hm => by have := (hml m hm).1; omega⟩
      clear qm qs hM hG qm4 qs4 hM4 qg4 ql4 hml hnd
      generalize (wr.alloc (.cells #[.bool true] 4)).alloc (.cells #[.bool false] 4) = W13 at *
      generalize wr.heap.size = Bg at *
      go_wp2_with fail
      go_loopg [40] (n * 600 + 1) (fun gk s40 wr => ∃ (ss : List (List (List Int))) (lg gr : Bool), GS (w.heap.size + 1) (w.heap.size + 1) (bo + 1) bo (Bg + 1) Bg n most mbs ss lg gr wr ∧ GB w g ⟨ta, tc, na, nc, pa, pc⟩ wr ∧ Hid (gk = measS n ss lg gr) ∧ Hid (SndS g.prods most (setsF ss)) ∧ Hid (lg = true → Big g.toks.length most) ∧ Hid (lg = false → (∀ s ∈ ss, s.length ≤ 600) ∧ (gr = false → ClsS g.prods most (setsF ss))))
      case atStart => exact ⟨List.replicate n [], false, true, hGS, hG4, Lib.hid (by simp [measS, tot]), Lib.hid (snd_start _ _ _), Lib.hid (fun h => by cases h), Lib.hid (fun _ => ⟨fun s hs => by have := (List.mem_replicate.1 hs).2; subst this; simp, fun h => by cases h⟩)⟩
      case round =>
        clear hGS hG4
        obtain ⟨ss, lg, gr, hGS, hG, hgk, hsnd, hbig, hfit⟩ := hrel
        have k9 := hGS.2.2.2.2.1.cell 0
        have k10 := hGS.2.2.2.1.cell 0
        simp only [List.getElem?_toArray, List.getElem?_cons_zero] at k9 k10
        cases lg with
        | true =>
          have hb := Lib.hid (hbig.out rfl)
          cases gr with
          | true =>
            go_wp2_with fail
            go_ret2
            exact ⟨hG.2.2, .inl ⟨hb.out, rfl⟩⟩
          | false =>
            go_wp2_with fail
            go_ret2
            exact ⟨hG.2.2, .inl ⟨hb.out, rfl⟩⟩
        | false =>
          cases gr with
          | false =>
            have hcls := Lib.hid ((hfit.out rfl).2 rfl)
            have hst := hk.out.st
            rw [← hn.out] at hst
            obtain ⟨j, hj⟩ := Int.eq_ofNat_of_zero_le (show 0 ≤ g.start - 16 by omega)
            have hjn : j < n := by omega
            have hssn : ss.length = n := hGS.2.2.2.2.2.2.2.1
            obtain ⟨mb, hmb, z0, hMb, hne⟩ := hGS.2.2.1.get (i := j) (by omega)
            have hT : Hid (setsF ss g.start = ss.getD j []) := Lib.hid (by rw [setsF_at (by omega), show (g.start - 16).toNat = j by omega])
            have hTl : (ss.getD j []).length ≤ 600 := by
              rw [List.getD_eq_getElem?_getD, List.getElem?_eq_getElem (by omega)]
              exact (hfit.out rfl).1 _ (List.getElem_mem _)
            have hSet := Lib.hid (fun (x : List Int) => sets_yld hsnd.out hcls.out g.start x)
            generalize ss.getD j [] = T at *
            have k7 : wr.cell? ⟨bo + 1, 0, none⟩ = some (.slice (some ⟨bo, 0, none⟩) n n) := hGS.2.1.cell 0
            obtain ⟨c0, c1, c2, c3, c4, c5⟩ := hG.cells
            have hzj : (0 : Int) ≤ j := by omega
            have hzjn : (j : Int) < n := by omega
            have hsrt := Lib.hid (sorted_any mb T wr hMb (by omega))
            have hbw := Lib.hid hG.2.2
            clear c0 c1 c2 c3 c5 hGS hG hMb hne hst hmb hssn
            go_wp2_with (go_at_call 44; refine hsrt.out.mono ?_; rintro e w5 ⟨v, L, addr, rfl, hA, hmem, hown, hb5⟩)
            go_ret2
            refine ⟨bStep hbw.out hb5, .inr ⟨v, L, addr, rfl, ⟨hA, fun x => ?_⟩, hown.mono hbw.out.size⟩⟩
            rw [hmem x, ← hT.out]
            exact hSet.out x
          | true =>
            have hfit0 := Lib.hid (hfit.out rfl).1
            clear hfit hbig
            have f1 := hGS.2.2.2.2.1.frozen 0
            have f2 := hGS.2.2.2.2.1.lt
            obtain ⟨c0, c1, c2, c3, c4, c5⟩ := hG.cells
            dsimp only at c5
            rw [← hm.out] at c5
            clear c0 c1 c2 c3 c4
            go_upto_region 16 with (fail)
            have hGS2 := hGS.setG false
            have hG2 := hG.far ⟨Bg, 0, none⟩ (.bool false) (show w.heap.size < Bg by omega)
            have hgk1 : Hid (0 < gk) := Lib.hid (by
              have h1 := hgk.out
              have h2 := tot_le 600 ss hfit0.out
              rw [hGS.2.2.2.2.2.2.2.1] at h2
              simp [measS] at h1
              omega)
            clear hGS hG k9 k10 f1 f2 c5
            generalize wr.setCell ⟨Bg, 0, none⟩ (.bool false) = W15 at *
            obtain ⟨c0, c1, c2, c3, c4, c5⟩ := hG2.cells
            dsimp only at c5
            rw [← hm.out] at c5
            clear c0 c1 c2 c3 c4
            go_wp2_with fail
            clear c5
            have hG2' := hG2
            have hGS2' := hGS2
            go_loopg [48] m (fun gk2 s48 wr => ∃ (i : Nat) (ss2 : List (List (List Int))) (lg2 gr2 : Bool), s48 = .int .i64 i ∧ i + gk2 = m ∧ GS (w.heap.size + 1) (w.heap.size + 1) (bo + 1) bo (Bg + 1) Bg n most mbs ss2 lg2 gr2 wr ∧ GB w g ⟨ta, tc, na, nc, pa, pc⟩ wr ∧ Hid (SndS g.prods most (setsF ss2)) ∧ Hid (lg2 = true → Big g.toks.length most) ∧
              Hid (lg2 = false → (∀ s ∈ ss2, s.length ≤ 600) ∧ ((gr2 = false ∧ ss2 = ss ∧ ∀ p ∈ g.prods.take i, ∀ x, Cat (setsF ss) p.right x → x.length ≤ most → x ∈ setsF ss p.left) ∨ (gr2 = true ∧ tot ss < tot ss2))))
            case atStart => exact ⟨0, ss, false, false, rfl, by omega, hGS2', hG2', hsnd, Lib.hid (fun h => by cases h), Lib.hid (fun _ => ⟨hfit0.out, .inl ⟨rfl, rfl, by simp⟩⟩)⟩
            case round =>
              clear hGS2 hG2 hGS2' hG2'
              obtain ⟨i, ss2, lg2, gr2, rfl, hi, hGS, hG, hsnd2, hbig2, hfit2⟩ := hrel
              replace hi := Lib.hid hi
              by_cases hin : i < m
              · have hil : i < g.prods.length := by have := hm.out; omega
                have hxi : g.prods[i]? = some g.prods[i] := List.getElem?_eq_getElem hil
                obtain ⟨b, off, rfl, hbt, y0, RA, rc, y1, hRd, hrl, hrm⟩ := hG.2.1.prods.get hxi
                have hpm := List.getElem_mem hil
                have htk : g.prods.take (i + 1) = g.prods.take i ++ [g.prods[i]] := List.take_succ_eq_append_getElem hil
                have hok := hk.out.pr _ hpm
                generalize g.prods[i] = p at *
                obtain ⟨pl, pr⟩ := p
                dsimp only at y0 y1 hRd hrl hok
                replace hxi := Lib.hid hxi
                replace htk := Lib.hid htk
                replace hpm := Lib.hid hpm
                replace hok := Lib.hid hok
                have hzi : (0 : Int) ≤ i := by omega
                have hzim : (i : Int) < m := by omega
                have hmul : (i : Int) * 2 ≤ 100 := by omega
                go_upto_region 19 with (fail)
                have hGS3 := hGS.step (bAlc (Below.refl _ _) (.cells #[.int .i64 pl, .slice RA pr.length rc] 49))
                have hG3 := hG.alloc (.cells #[.int .i64 pl, .slice RA pr.length rc] 49)
                have qp : Blk (wr.alloc (.cells #[.int .i64 pl, .slice RA pr.length rc] 49)) wr.heap.size 49 #[.int .i64 pl, .slice RA pr.length rc] := Blk.new _ _ _
                have hRd3 : Rd1 (wr.alloc (.cells #[.int .i64 pl, .slice RA pr.length rc] 49)) (w.heap.size + 1) RA pr.length (ints pr) := (hRd.below ((bAlc (Below.refl _ _) (.cells #[.int .i64 pl, .slice RA pr.length rc] 49)).mono hG.2.2.size)).mono (by omega)
                have hlo3 := hG3.1.lt
                clear hGS hG hRd y0 y1
                generalize wr.alloc (.cells #[.int .i64 pl, .slice RA pr.length rc] 49) = W18 at *
                generalize wr.heap.size = Bp at *
                have k10 := hGS3.2.2.2.1.cell 0
                have p0 := qp.cell 0
                have p1 := qp.cell 1
                simp only [List.getElem?_toArray, List.getElem?_cons_zero, List.getElem?_cons_succ] at k10 p0 p1
                cases lg2 with
                | true =>
                  have hb2 := Lib.hid (hbig2.out rfl)
                  clear hbig2 hfit2
                  go_wp2_with fail
                  go_roundg (m - (i + 1))
                  case measure => have := hi.out; omega
                  case rel => exact ⟨i + 1, ss2, true, gr2, by go_num, by have := hi.out; omega, hGS3, hG3, hsnd2, Lib.hid (fun _ => hb2.out), Lib.hid (fun h => by cases h)⟩
                | false =>
                  obtain ⟨hf2, hD2⟩ := hfit2.out rfl
                  replace hf2 := Lib.hid hf2
                  replace hD2 := Lib.hid hD2
                  clear hbig2 hfit2
                  have hgrow := Lib.hid (grow_any g.prods ⟨pl, pr⟩ g.toks.length most n (w.heap.size + 1) (w.heap.size + 1) (bo + 1) bo (Bg + 1) Bg mbs ss2 gr2 RA rc W18 hpm.out (by rw [hn.out]; exact hok.out.1) (by rw [hn.out]; exact hok.out.2.2) hok.out.2.1 hk.out.tk.2 hn8 hm12
                    (fun q hq u hu h => by
                      rcases (hk.out.pr q hq).2.2 u hu with h' | h'
                      · exact h'
                      · omega) hGS3 hRd3 hlo3 hrl hrm hsnd2.out hf2.out)
                  dsimp only at hgrow
                  go_wp2_with (go_at_call 41; refine hgrow.out.mono ?_; rintro e w5 ⟨ss3, lg3, gr3, rfl, hGS5, hb5, hsnd3, hbig3, hfit3⟩)
                  have hG5 := hG3.low (Nat.lt_succ_self _) hb5
                  replace hsnd3 := Lib.hid hsnd3
                  replace hbig3 := Lib.hid hbig3
                  go_roundg (m - (i + 1))
                  case measure => have := hi.out; omega
                  case rel => exact ⟨i + 1, ss3, lg3, gr3, by go_num, by have := hi.out; omega, hGS5, hG5, hsnd3, hbig3, Lib.hid (fun hl => by
                    obtain ⟨a1, a2⟩ := hfit3 hl
                    refine ⟨a1, ?_⟩
                    rcases hD2.out with ⟨b1, b2, b3⟩ | ⟨b1, b2⟩
                    · rcases a2 with ⟨d1, d2, d3⟩ | ⟨d1, d2⟩
                      · left
                        refine ⟨by rw [d1, b1], by rw [d2, b2], fun q hq => ?_⟩
                        rw [htk.out] at hq
                        rcases List.mem_append.1 hq with hq | hq
                        · exact b3 q hq
                        · have : q = ⟨pl, pr⟩ := by simpa using hq
                          subst this
                          rw [b2] at d3
                          exact d3
                      · right; exact ⟨d1, by rw [b2] at d2; exact d2⟩
                    · rcases a2 with ⟨d1, d2, d3⟩ | ⟨d1, d2⟩
                      · right; exact ⟨by rw [d1, b1], by rw [d2]; exact b2⟩
                      · right; exact ⟨d1, by omega⟩)⟩
              · have him : i = m := by have := hi.out; omega
                have hssn : ss2.length = n := hGS.2.2.2.2.2.2.2.1
                replace him := Lib.hid him
                replace hssn := Lib.hid hssn
                go_wp2_with fail
                go_roundg (measS n ss2 lg2 gr2)
                case measure =>
                  have h0 := hgk1.out
                  have h1 := hgk.out
                  unfold measS at h1 ⊢
                  rw [if_neg (by simp)] at h1
                  split
                  · exact h0
                  · rename_i hne
                    have e1 : lg2 = false := by cases lg2 <;> simp at hne ⊢
                    have e2 : gr2 = true := by cases gr2 <;> simp [e1] at hne ⊢
                    obtain ⟨a1, a2⟩ := hfit2.out e1
                    have h2 := tot_le 600 ss2 a1
                    rw [hssn.out] at h2
                    rcases a2 with ⟨b1, _⟩ | ⟨_, b2⟩
                    · rw [e2] at b1; cases b1
                    · omega
                case rel => exact ⟨ss2, lg2, gr2, hGS, hG, Lib.hid rfl, hsnd2, hbig2, Lib.hid (fun h => ⟨(hfit2.out h).1, fun hg => by
                    rcases (hfit2.out h).2 with ⟨b1, b2, b3⟩ | ⟨b1, _⟩
                    · rw [b2]
                      intro p hp x h1 h2
                      exact b3 p (by rw [him.out, hm.out, List.take_of_length_le (Nat.le_refl _)]; exact hp) x h1 h2
                    · rw [hg] at b1; cases b1⟩)⟩
end Go.Proofs.Ytlngbphchhbpbaa

/- The place of a form; append behind a slice without room, or an own one. -/
namespace Go.Proofs.Ytlngbphchhbpbaa
open Go.ChangeShapes Go.WideShapes Go.ChangeAt Go.RowKit
set_option linter.unusedVariables false

/-- the place of a form: its length, if there is none -/
def atN : List Int → Nat
  | [] => 0
  | s :: f => if 16 ≤ s then 0 else atN f + 1
theorem atN_le : ∀ f, atN f ≤ f.length
  | [] => Nat.le_refl _
  | s :: f => by
    have := atN_le f
    unfold atN
    split <;> simp <;> omega
theorem atN_lt : ∀ (f : List Int) (j : Nat) (s : Int), j < atN f → f[j]? = some s → s < 16
  | [], j, s, h, _ => by simp [atN] at h
  | a :: f, 0, s, h, e => by
    unfold atN at h
    split at h
    · omega
    · simp at e; omega
  | a :: f, j + 1, s, h, e => by
    unfold atN at h
    split at h
    · omega
    · exact atN_lt f j s (by omega) (by simpa using e)
theorem atN_at : ∀ (f : List Int) (s : Int), f[atN f]? = some s → 16 ≤ s
  | [], s, h => by simp at h
  | a :: f, s, h => by
    unfold atN at h
    split at h
    · simp at h; omega
    · exact atN_at f s (by simpa using h)
def atI (f : List Int) : Int := if atN f < f.length then atN f else -1

set_option maxHeartbeats 1000000 in
theorem place_any (A : Option Addr) (k c : Nat) (f : List Int) (w : World) (B : Nat) (hf : Rd1 w B A k (ints f)) (hk : k ≤ 1000000) : Calls Try.prog 32 #[.slice A k c, .func (.func 33) #[] #[]] w fun e w' => e = .returned (.int .i64 (atI f)) ∧ w = w' := by
  have hfl : f.length = k := by have := hf.1; simpa [ints] using this
  obtain ⟨R, hR⟩ : ∃ R, R = atI f := ⟨_, rfl⟩
  rw [← hR]
  replace hR := Lib.hid hR
  replace hfl := Lib.hid hfl
  have hN := Lib.hid isnt_any
  go_enter Try.func32, Try.ntmps32
  go_wp2_with fail
  go_loopg [8] k (fun gk s8 wr => ∃ i : Nat, s8 = .int .i64 i ∧ i + gk = k ∧ Hid (i ≤ atN f) ∧ w = wr)
  case atStart => exact ⟨0, rfl, by omega, Lib.hid (Nat.zero_le _), rfl⟩
  case round =>
    obtain ⟨i, rfl, hi, hat, rfl⟩ := hrel
    replace hi := Lib.hid hi
    by_cases hin : i < k
    · have hil : i < f.length := by have := hfl.out; omega
      have hx : f[i]? = some f[i] := List.getElem?_eq_getElem hil
      obtain ⟨b, off, rfl, hbt, x0⟩ := hf.get (show (ints f)[i]? = some (.int .i64 f[i]) by rw [ints, List.getElem?_map, hx]; rfl)
      generalize f[i] = s at *
      have hz0 : (0 : Int) ≤ i := by omega
      have hz1 : (i : Int) < k := by omega
      by_cases h16 : 16 ≤ s
      · have hd : decide (16 ≤ s) = true := decide_eq_true h16
        have hRi : R = i := by
          have : atN f = i := by
            rcases Nat.lt_or_ge i (atN f) with h | h
            · have := atN_lt f i s h hx; omega
            · have := hat.out; omega
          rw [hR.out]; unfold atI; rw [if_pos (by omega), this]
        subst hRi
        clear h16
        replace hx := Lib.hid hx
        go_wp2_with (go_at_call 33; refine (hN.out s _).mono ?_; rintro e w1 ⟨rfl, rfl⟩; rw [hd])
        go_ret
        exact ⟨rfl, rfl⟩
      · have hd : decide (16 ≤ s) = false := decide_eq_false h16
        have hat2 : Hid (i + 1 ≤ atN f) := Lib.hid (by
          rcases Nat.lt_or_ge i (atN f) with h | h
          · exact h
          · have e : atN f = i := by have := hat.out; omega
            have := atN_at f s (by rw [e]; exact hx)
            omega)
        clear h16
        replace hx := Lib.hid hx
        go_wp2_with (go_at_call 33; refine (hN.out s _).mono ?_; rintro e w1 ⟨rfl, rfl⟩; rw [hd])
        go_roundg (k - (i + 1))
        case measure => have := hi.out; omega
        case rel => exact ⟨i + 1, by go_num, by have := hi.out; omega, hat2, rfl⟩
    · have hRi : R = -1 := by
        rw [hR.out]; unfold atI
        rw [if_neg (by have := hat.out; have := hi.out; have := hfl.out; omega)]
      subst hRi
      go_wp2_with fail
      go_ret
      exact ⟨rfl, rfl⟩

theorem wpList_appR (w : World) {ops : Array Oper} {rest : List Oper} {o : Oper} {a : Act} {Q : Exit → Act → World → Prop} (hg : o.guard = none) (s x : Operand) (t : TypeId) (ho : o.op = .call { callee := .builtin .append, args := #[s, x], argTypes := #[t, t] })
    (v u : Value) (hs : a.eval s = v) (hx : a.eval x = u) (r : Value) (w' : World) (hrun : (Builtin.append_ #[t, t] o.type #[v, u]).run Try.prog w = .ok r w') (h : wpList Try.prog ops Q rest (a.put o.dst r) w') : wpList Try.prog ops Q (o :: rest) a w :=
  wpList_plain hg fun _ hK => by
    unfold Oper.wp execOp
    simp only [ho, resolve, invoke, builtin, Sem.run_bind, Sem.run_pure, Result.andThen_ok, List.map_toArray, List.map_cons, List.map_nil, hs, hx, hrun]
    exact hK _ _ h
/-- a slice of numbers that an append leaves whole: without room, or the call's own -/
def Src1 (W : World) (base : Nat) (v : Value) (l : List Int) : Prop :=
  (∃ A, v = .slice A l.length l.length ∧ Rd1 W W.heap.size A l.length (ints l)) ∨ Own1 W base 3 v (ints l)
theorem Src1.reads {W : World} {base : Nat} {v : Value} {l : List Int} (h : Src1 W base v l) (hl : l.length ≤ 1000000) : ∃ A c, v = .slice A l.length c ∧ Rd1 W W.heap.size A l.length (ints l) ∧ l.length ≤ c ∧ c ≤ maxLen := by
  rcases h with ⟨A, rfl, h⟩ | h
  · exact ⟨A, _, rfl, h, Nat.le_refl _, by unfold maxLen; omega⟩
  · obtain ⟨A, c, rfl, h1, h2, h3, _⟩ := h.reads
    have e : (ints l).length = l.length := by simp [ints]
    rw [e] at h1 h2
    rw [e]
    exact ⟨A, c, rfl, h1, h2, h3⟩
theorem app_src {W : World} {base : Nat} {v : Value} {l k : List Int} {B : Option Addr} {m c : Nat} (h : Src1 W base v l) (hb : base ≤ W.heap.size) (hk : Rd1 W W.heap.size B m (ints k)) (hlen : l.length + m ≤ 1000000) :
    ∃ v' W', (Builtin.append_ #[26, 26] 26 #[v, .slice B m c]).run Try.prog W = .ok v' W' ∧ Src1 W' base v' (l ++ k) ∧ Below base W W' := by
  obtain ⟨i0, hi0, hz0, hz1, hz2⟩ := info_parts info3
  have hkm : k.length = m := by have := hk.1; simpa [ints] using this
  have hle : (ints l).length = l.length := by simp [ints]
  have hke : (ints k).length = k.length := by simp [ints]
  have hap : ints (l ++ k) = ints l ++ ints k := by simp [ints]
  by_cases hm : m = 0
  · subst hm
    have : k = [] := List.eq_nil_of_length_eq_zero hkm
    subst this
    refine ⟨v, W, ?_, by rw [List.append_nil]; exact h, Below.refl _ _⟩
    have hv : ∃ A n c', v = .slice A n c' ∧ n ≤ c' := by
      obtain ⟨A, c', e, _, h2, _⟩ := h.reads (by omega)
      exact ⟨A, _, c', e, h2⟩
    obtain ⟨A, n, c', rfl, hnc⟩ := hv
    have hl : ∀ (x : Addr), (loadCells x 0).run Try.prog W = .ok #[] W := fun x => by simpa using run_loadCells_list (P := Try.prog) W x [] (by simp)
    cases A <;> cases B <;> simp [Builtin.append_, run_underlying under22, sizeOf, typeInfo, hi0, Builtin.lenOf, Builtin.firstCells, storeCells, hnc, hl]
  · obtain ⟨bb, boff, rfl, hbt, hbc⟩ : ∃ b off, B = some ⟨b, off, none⟩ ∧ b < W.heap.size ∧ ∀ (i : Nat) (v : Value), (ints k)[i]? = some v → W.cell? ⟨b, off + i, none⟩ = some v := by
      rcases hk.2 with h0 | h0
      · exact absurd h0 hm
      · exact h0
    have hnews : ∀ j u, (ints k)[j]? = some u → W.cell? ((⟨bb, boff, none⟩ : Addr).add j) = some u := by
      intro j u hu
      have hadd : (⟨bb, boff, none⟩ : Addr).add j = ⟨bb, boff + j, none⟩ := by unfold Addr.add; split <;> simp_all
      rw [hadd]
      exact hbc j u hu
    have own : ∀ v, Own1 W base 3 v (ints l) → ∃ v' W', (Builtin.append_ #[26, 26] 26 #[v, .slice (some ⟨bb, boff, none⟩) m c]).run Try.prog W = .ok v' W' ∧ Src1 W' base v' (l ++ k) ∧ Below base W W' := by
      intro v hown
      obtain ⟨v', w', hrun, h2, h3, h4, h5⟩ := run_append_own_at (P := Try.prog) W base 26 26 3 i0 (.int .i64 0) 1 8 under22 hi0 hz0 hz1 hz2 rfl (by omega) v (ints l).length (ints l) hown ⟨bb, boff, none⟩ m c (ints k) (by rw [hk.1]; omega) hnews ints_one (by unfold maxLen; omega) (by omega) hb
      refine ⟨v', w', hrun, .inr ?_, (Below.refl base W).grown h3 hb (fun j hj => (own_in hown j hj).1)⟩
      unfold Own1
      rw [hap, List.length_append, hk.1]
      exact h2
    rcases h with ⟨A, rfl, hA⟩ | hown
    · rcases A with _ | ad
      · have hl0 : l = [] := by
          rcases hA.2 with h0 | ⟨_, _, h0, _⟩
          · exact List.eq_nil_of_length_eq_zero h0
          · cases h0
        subst hl0
        exact own _ (Own1.nil W base 3)
      · have hcell : ∀ j u, (ints l)[j]? = some u → W.cell? (ad.add j) = some u := by
          intro j u hu
          have hlt := (List.getElem?_eq_some_iff.1 hu).1
          rcases hA.2 with h0 | ⟨b, off, h0, _, hc⟩
          · omega
          · cases h0
            have hadd : (⟨b, off, none⟩ : Addr).add j = ⟨b, off + j, none⟩ := by unfold Addr.add; split <;> simp_all
            rw [hadd]
            exact hc j u hu
        obtain ⟨v', w', hrun, r1, r2⟩ := run_append_arg_grows (P := Try.prog) W 26 26 3 i0 (.int .i64 0) 1 8 under22 hi0 hz0 hz1 hz2 rfl (by omega) ad l.length l.length (ints l) (by rw [hle]; omega) hcell ⟨bb, boff, none⟩ m c (ints k) (by rw [hk.1]; omega) hnews (by omega) (by unfold maxLen; omega) (by omega)
        refine ⟨v', w', hrun, .inr ?_, (Below.refl base W).grown r2 hb (fun j hj => by cases hj)⟩
        have r3 : w'.ownsRow base 3 1 v' (l.length + m) (ints l ++ ints k) := by
          refine ⟨r1.1, ?_⟩
          rcases r1.2 with h0 | ⟨g, cap, cur, e, h1, h2⟩
          · exact .inl h0
          · exact .inr ⟨g, cap, cur, e, by omega, h2⟩
        unfold Own1
        rw [hap, List.length_append, hk.1, hle]
        exact r3
    · exact own v hown
end Go.Proofs.Ytlngbphchhbpbaa

/- derive.step. -/
namespace Go.Proofs.Ytlngbphchhbpbaa
open Go.ChangeShapes Go.WideShapes Go.ChangeAt Go.RowKit
set_option linter.unusedVariables false

/-- the production number p -/
def dprG (g : Gr) (p : Int) : Pr := g.prods.getD p.toNat default
/-- the error of a step -/
def dstE (g : Gr) (f : List Int) (p : Int) : Int :=
  if p < 0 ∨ (g.prods.length : Int) ≤ p then 2 else if f.length ≤ atN f then 7 else if (dprG g p).left ≠ f.getD (atN f) 0 then 24 else if 200 < (f.length : Int) - 1 + (dprG g p).right.length then 6 else 0
/-- the form behind a step -/
def dstL (g : Gr) (f : List Int) (p : Int) : List Int := f.take (atN f) ++ (dprG g p).right ++ f.drop (atN f + 1)
/-- a slice that reads as the numbers l -/
def RdI (W : World) (v : Value) (l : List Int) : Prop := ∃ A c, v = .slice A l.length c ∧ Rd1 W W.heap.size A l.length (ints l) ∧ l.length ≤ c ∧ c ≤ maxLen
theorem rd_take {W : World} {B : Nat} {A : Option Addr} {k : Nat} {l : List Int} (h : Rd1 W B A k (ints l)) (t : Nat) (ht : t ≤ k) : Rd1 W B A t (ints (l.take t)) := by
  have hl : l.length = k := by have := h.1; simpa [ints] using this
  refine ⟨by simp [ints]; omega, ?_⟩
  rcases h.2 with h0 | ⟨b, off, rfl, hb, hc⟩
  · left; omega
  · refine .inr ⟨b, off, rfl, hb, fun i u hu => hc i u ?_⟩
    simp only [ints, List.map_take] at hu ⊢
    have := (List.getElem?_eq_some_iff.1 hu).1
    rw [List.getElem?_take_of_lt (by simp at this; omega)] at hu
    exact hu
theorem rd_drop {W : World} {B : Nat} {A : Option Addr} {k : Nat} {l : List Int} (h : Rd1 W B A k (ints l)) (t c : Nat) (ht : t ≤ k) (hc : k ≤ c) : Rd1 W B (if c = t then A else A.map (·.add t)) (k - t) (ints (l.drop t)) := by
  have := h.drop t c ht hc
  rwa [show (ints l).drop t = ints (l.drop t) by simp [ints]] at this
/-- what step hands back -/
def RetSt (g : Gr) (f : List Int) (p : Int) (w : World) (e : Ending) (w' : World) : Prop :=
  Below w.heap.size w w' ∧ ((dstE g f p ≠ 0 ∧ e = .returned (.tuple #[.slice none 0 0, .int .i64 (dstE g f p)])) ∨ (dstE g f p = 0 ∧ ∃ v, e = .returned (.tuple #[v, .int .i64 0]) ∧ RdI w' v (dstL g f p)))

set_option maxRecDepth 100000 in
set_option maxHeartbeats 2000000 in
theorem step_any (g : Gr) (a : GA) (A : Option Addr) (k c : Nat) (f : List Int) (p : Int) (w : World) (hg : GrAt w w.heap.size g a) (hok : gchk g = 0) (hf : Rd1 w w.heap.size A k (ints f)) (hk2 : k ≤ 1000) (hkc : k ≤ c) (hcm : c ≤ maxLen) :
    Calls Try.prog 34 #[gval g a, .slice A k c, .int .i64 p] w (RetSt g f p w) := by
  obtain ⟨ta, tc, na, nc, pa, pc⟩ := a
  have hfl : f.length = k := by have := hf.1; simpa [ints] using this
  have hG0 := GB.start hg
  have hkk := Lib.hid (gok_of hok)
  have hm24 := hkk.out.pl
  have hP1 := Lib.hid (fun (E : Int) (h : dstE g f p = E) => (show (E ≠ 0 → ∀ w', Below w.heap.size w w' → RetSt g f p w (.returned (.tuple #[.slice none 0 0, .int .i64 E])) w') ∧ (E = 0 → ∀ v w', Below w.heap.size w w' → RdI w' v (dstL g f p) → RetSt g f p w (.returned (.tuple #[v, .int .i64 0])) w') from
    ⟨fun h0 w' hb => ⟨hb, .inl ⟨by rw [h]; exact h0, by rw [h]⟩⟩, fun h0 v w' hb hv => ⟨hb, .inr ⟨by rw [h, h0], v, rfl, hv⟩⟩⟩))
  have hat1 := atN_le f
  rw [hfl] at hat1
  have hpl := place_any A k c f
  unfold atI at hpl
  rw [hfl] at hpl
  replace hpl := Lib.hid hpl
  have hE := Lib.hid (show dstE g f p = dstE g f p from rfl)
  unfold dstE at hP1
  rw [hfl] at hP1
  unfold maxLen at hcm
  obtain ⟨m, hm⟩ : ∃ m, m = g.prods.length := ⟨_, rfl⟩
  rw [← hm] at hm24 hP1
  clear hg hok hE
  unfold gval at *
  unfold gcells at *
  dsimp only at *
  rw [← hm] at hG0 ⊢
  replace hm := Lib.hid hm
  replace hfl := Lib.hid hfl
  generalize hatt : atN f = t at *
  replace hatt := Lib.hid hatt
  have hzk : (0 : Int) ≤ k := by omega
  have hzm : (0 : Int) ≤ m := by omega
  by_cases hp : p < 0 ∨ (m : Int) ≤ p
  · have hR := Lib.hid ((hP1.out 2 (by rw [if_pos hp])).1 (by omega))
    clear hP1
    by_cases hp0 : p < 0
    · clear hp
      go_enter Try.func34, Try.ntmps34
      go_wp2_with (go_at_call 32; refine (hpl.out _ _ (hf.below (bAlc (Below.refl _ _) _)) (by omega)).mono ?_; rintro e w1 ⟨rfl, rfl⟩)
      all_goals first
        | (go_ret2; exact hR.out _ hG0.2.2)
        | (exfalso; simp_all; omega)
    · have hpm : (m : Int) ≤ p := by omega
      clear hp
      go_enter Try.func34, Try.ntmps34
      obtain ⟨c0, c1, c2, c3, c4, c5⟩ := hG0.cells
      dsimp only at c5
      rw [← hm.out] at c5
      clear c0 c1 c2 c3 c4
      go_wp2_with (go_at_call 32; refine (hpl.out _ _ (hf.below (bAlc (Below.refl _ _) _)) (by omega)).mono ?_; rintro e w1 ⟨rfl, rfl⟩)
      all_goals first
        | (go_ret2; exact hR.out _ hG0.2.2)
        | (exfalso; simp_all; omega)
  · rw [if_neg hp] at hP1
    have hp0 : 0 ≤ p := by omega
    have hpm : p < m := by omega
    obtain ⟨j, rfl⟩ := Int.eq_ofNat_of_zero_le hp0
    have hjm : j < m := by omega
    have hn1 : ¬ (j : Int) < 0 := by omega
    clear hp
    by_cases htk : k ≤ t
    · have hR := Lib.hid ((hP1.out 7 (by rw [if_pos htk])).1 (by omega))
      rw [if_neg (by omega)] at hpl
      clear hP1
      go_enter Try.func34, Try.ntmps34
      obtain ⟨c0, c1, c2, c3, c4, c5⟩ := hG0.cells
      dsimp only at c5
      rw [← hm.out] at c5
      clear c0 c1 c2 c3 c4
      go_wp2_with (go_at_call 32; refine (hpl.out _ _ (hf.below (bAlc (Below.refl _ _) _)) (by omega)).mono ?_; rintro e w1 ⟨rfl, rfl⟩)
      all_goals first
        | (go_ret2; exact hR.out _ hG0.2.2)
        | (exfalso; simp_all; omega)
    · rw [if_neg htk] at hP1
      rw [if_pos (by omega)] at hpl
      have htl : t < f.length := by have := hfl.out; omega
      have hx : f[t]? = some f[t] := List.getElem?_eq_getElem htl
      have hgd : f.getD t 0 = f[t] := by simp [List.getD_eq_getElem?_getD, htl]
      rw [hgd] at hP1
      have hxi : g.prods[j]? = some (dprG g j) := by
        unfold dprG
        rw [Int.toNat_natCast, List.getD_eq_getElem?_getD, List.getElem?_eq_getElem (by have := hm.out; omega)]; rfl
      obtain ⟨fb, foff, rfl, hfb, x0⟩ := hf.get (show (ints f)[t]? = some (.int .i64 f[t]) by rw [ints, List.getElem?_map, hx]; rfl)
      generalize f[t] = s at *
      replace hx := Lib.hid hx
      replace hgd := Lib.hid hgd
      have hrr := (hkk.out.pr _ (List.mem_of_getElem? hxi)).2.1
      obtain ⟨b, off, hpa, hbt, y0, RA, rc, y1, hRd, hrl, hrm⟩ := hG0.2.1.prods.get hxi
      dsimp only at hpa
      subst hpa
      have hL : Hid (dstL g f j = f.take t ++ (dprG g j).right ++ f.drop (t + 1)) := Lib.hid (by unfold dstL; rw [hatt.out])
      generalize dprG g j = q at *
      obtain ⟨ql, qr⟩ := q
      dsimp only at hP1 y0 y1 hRd hrl hrr hL
      replace hxi := Lib.hid hxi
      have x0' := cell_later (bAlc (Below.refl _ _) (.cells #[.int .i64 g.k, .slice ta g.toks.length tc, .string g.sep, .slice na g.names.length nc, .int .i64 g.start, .slice (some ⟨b, off, none⟩) m pc] 25)) x0
      have hzj : (0 : Int) ≤ j := by omega
      have hmul : (j : Int) * 2 ≤ 100 := by omega
      have hzt : (0 : Int) ≤ t := by omega
      have htk2 : (t : Int) < k := by omega
      unfold maxLen at hrm
      by_cases hls : ql = s
      · subst hls
        rw [if_neg (by simp)] at hP1
        go_enter Try.func34, Try.ntmps34
        obtain ⟨c0, c1, c2, c3, c4, c5⟩ := hG0.cells
        dsimp only at c5
        rw [← hm.out] at c5
        clear c0 c1 c2 c3 c4
        go_upto_region 6 with (go_at_call 32; refine (hpl.out _ _ (hf.below (bAlc (Below.refl _ _) _)) (by omega)).mono ?_; rintro e w1 ⟨rfl, rfl⟩)
        go_quiet (fail)
        have hG1 := hG0.drewN nq
        have hf1 : Rd1 ((w.alloc (.cells #[.int .i64 g.k, .slice ta g.toks.length tc, .string g.sep, .slice na g.names.length nc, .int .i64 g.start, .slice (some ⟨b, off, none⟩) m pc] 25)).drewN nq) w.heap.size (some ⟨fb, foff, none⟩) k (ints f) := (hf.below (bAlc (Below.refl _ _) _)).below (bDrwN' _ nq)
        have y2 := cell_later (bDrwN' _ nq) y1
        have hRd1 := hRd.below (bDrwN' _ nq)
        clear c5 y0 x0' y1 hRd hG0 x0
        generalize (w.alloc (.cells #[.int .i64 g.k, .slice ta g.toks.length tc, .string g.sep, .slice na g.names.length nc, .int .i64 g.start, .slice (some ⟨b, off, none⟩) m pc] 25)).drewN nq = W2 at *
        obtain ⟨c0, c1, c2, c3, c4, c5⟩ := hG1.cells
        dsimp only at c5
        rw [← hm.out] at c5
        clear c0 c1 c2 c3 c4
        by_cases h200 : 200 < (k : Int) - 1 + qr.length
        · have hR := Lib.hid ((hP1.out 6 (by rw [if_pos h200])).1 (by omega))
          clear hP1
          go_wp2_with fail
          go_ret2
          exact hR.out _ hG1.2.2
        · rw [if_neg h200] at hP1
          have hR := Lib.hid ((hP1.out 0 rfl).2 rfl)
          clear hP1
          have htc : (t : Int) ≤ c := by omega
          have htc2 : t ≤ c := by omega
          go_upto_region 10 with (fail)
          have hq0 : (0 : Int) ≤ qr.length := by omega
          go_still_tail 10, (by kernel_rfl)
          change wpList _ _ _ _ _ W2.drew
          have hG3 := hG1.step (bDrw (Below.refl _ _))
          have hf3 := hf1.below ((Below.refl w.heap.size W2).drew)
          have hRd3 := hRd1.below ((Below.refl w.heap.size W2).drew)
          clear hG1 hf1 hRd1 y2 c5 hf
          generalize W2.drew = W3 at *
          have hlt3 := hG3.lt
          have htl2 : (f.take t).length = t := by simp; omega
          have hs1 : Src1 W3 (w.heap.size + 1) (.slice (some ⟨fb, foff, none⟩) t t) (f.take t) := .inl ⟨some ⟨fb, foff, none⟩, by rw [htl2], by rw [htl2]; exact (rd_take hf3 t (by omega)).mono (by omega)⟩
          obtain ⟨v1, W4, hr1, hs2, hb4⟩ := app_src (c := rc) hs1 (by omega) (hRd3.mono (by omega)) (by rw [htl2]; omega)
          have hG4 := hG3.low (Nat.lt_succ_self _) hb4
          have hf4 := hf3.below (hb4.mono (by omega))
          have hz4 := hb4.size
          clear hs1 hb4 hf3 hRd3 hG3
          replace htl2 := Lib.hid htl2
          have hz5 := hG4.lt
          replace hr1 := Lib.hid hr1
          go_upto_region 11 with (at_builtin; refine wpList_appR _ rfl _ _ 26 rfl _ _ rfl rfl _ _ hr1.out ?_)
          have hfd := rd_drop hf4 (t + 1) c (by omega) hkc
          have hzc1 : (t : Int) + 1 ≤ k := by omega
          have hlen2 : (f.take t ++ qr).length + (k - (t + 1)) ≤ 1000000 := by rw [List.length_append, htl2.out]; omega
          have hLL : Hid (f.take t ++ qr ++ f.drop (t + 1) = dstL g f j) := Lib.hid hL.out.symm
          have hll : Hid ((f.take t ++ qr ++ f.drop (t + 1)).length ≤ 1000000) := Lib.hid (by rw [List.length_append, List.length_append, htl2.out, List.length_drop]; have := hfl.out; omega)
          clear hr1
          by_cases hct : c = t + 1
          · have hkt : k = t + 1 := by omega
            subst hct
            subst hkt
            rw [if_pos rfl] at hfd
            simp only [Nat.sub_self] at hfd hlen2
            obtain ⟨v2, W5, hr2, hs3, hb5⟩ := app_src (c := 0) hs2 (by omega) (hfd.mono (by omega)) hlen2
            replace hr2 := Lib.hid hr2
            go_wp2_with (at_builtin; refine wpList_appR _ rfl _ _ 26 rfl _ _ rfl rfl _ _ hr2.out ?_)
            go_ret2
            exact hR.out _ _ (hG4.low (Nat.lt_succ_self _) hb5).2.2 (by rw [← hLL.out]; exact hs3.reads hll.out)
          · rw [if_neg hct] at hfd
            obtain ⟨v2, W5, hr2, hs3, hb5⟩ := app_src (c := c - (t + 1)) hs2 (by omega) (hfd.mono (by omega)) hlen2
            simp only [Option.map_some, Addr.add_lit] at hr2
            replace hr2 := Lib.hid hr2
            go_wp2_with (at_builtin; refine wpList_appR _ rfl _ _ 26 rfl _ _ rfl rfl _ _ hr2.out ?_)
            go_ret2
            exact hR.out _ _ (hG4.low (Nat.lt_succ_self _) hb5).2.2 (by rw [← hLL.out]; exact hs3.reads hll.out)
      · have hR := Lib.hid ((hP1.out 24 (by rw [if_pos hls])).1 (by omega))
        have hls2 : (ql == s) = false := by simpa using hls
        clear hP1
        go_enter Try.func34, Try.ntmps34
        obtain ⟨c0, c1, c2, c3, c4, c5⟩ := hG0.cells
        dsimp only at c5
        rw [← hm.out] at c5
        clear c0 c1 c2 c3 c4
        go_upto_region 6 with (go_at_call 32; refine (hpl.out _ _ (hf.below (bAlc (Below.refl _ _) _)) (by omega)).mono ?_; rintro e w1 ⟨rfl, rfl⟩)
        go_quiet (fail)
        go_wp2_with fail
        go_ret2
        exact hR.out _ (hG0.drewN _).2.2
end Go.Proofs.Ytlngbphchhbpbaa

/- derive.Run. -/
namespace Go.Proofs.Ytlngbphchhbpbaa
open Go.ChangeShapes Go.WideShapes Go.ChangeAt Go.RowKit
set_option linter.unusedVariables false

/-- the error and the form of a derivation from a form on -/
def runF (g : Gr) : List Int → List Int → Int × List Int
  | f, [] => (0, f)
  | f, p :: ps => if dstE g f p = 0 then runF g (dstL g f p) ps else (dstE g f p, [])
def runE (g : Gr) (ps : List Int) : Int := if gchk g ≠ 0 then gchk g else if 1000 < ps.length then 6 else (runF g [g.start] ps).1
/-- what Run hands back -/
def RetRn (g : Gr) (ps : List Int) (w : World) (e : Ending) (w' : World) : Prop :=
  Below w.heap.size w w' ∧ ((runE g ps ≠ 0 ∧ e = .returned (.tuple #[.slice none 0 0, .int .i64 (runE g ps)])) ∨ (runE g ps = 0 ∧ ∃ v, e = .returned (.tuple #[v, .int .i64 0]) ∧ RdI w' v (runF g [g.start] ps).2))
theorem dst_len {g : Gr} {f : List Int} {p : Int} (h : dstE g f p = 0) : (dstL g f p).length ≤ 200 ∧ 1 ≤ f.length := by
  unfold dstE at h
  split at h
  · cases h
  · split at h
    · cases h
    · split at h
      · cases h
      · split at h
        · cases h
        · rename_i h1 h2 h3 h4
          have := atN_le f
          unfold dstL
          simp only [List.length_append, List.length_take, List.length_drop]
          omega
theorem st_ok {g : Gr} {f : List Int} {p : Int} {w : World} (h : dstE g f p = 0) {e : Ending} {w' : World} (hr : RetSt g f p w e w') : ∃ v, e = .returned (.tuple #[v, .int .i64 0]) ∧ RdI w' v (dstL g f p) ∧ Below w.heap.size w w' := by
  obtain ⟨hb, ⟨h1, _⟩ | ⟨_, v, rfl, hv⟩⟩ := hr
  · exact absurd h h1
  · exact ⟨v, rfl, hv, hb⟩
theorem st_bad {g : Gr} {f : List Int} {p : Int} {w : World} (h : dstE g f p ≠ 0) {e : Ending} {w' : World} (hr : RetSt g f p w e w') : e = .returned (.tuple #[.slice none 0 0, .int .i64 (dstE g f p)]) ∧ Below w.heap.size w w' := by
  obtain ⟨hb, ⟨_, rfl⟩ | ⟨h1, _⟩⟩ := hr
  · exact ⟨rfl, hb⟩
  · exact absurd h1 h
theorem RdI.step {W W' : World} {v : Value} {l : List Int} (h : RdI W v l) (hb : Below W.heap.size W W') : RdI W' v l := by
  obtain ⟨A, c, rfl, h1, h2⟩ := h
  exact ⟨A, c, rfl, (h1.below hb).mono hb.size, h2⟩

set_option maxRecDepth 100000 in
set_option maxHeartbeats 2000000 in
theorem run_any (g : Gr) (a : GA) (A : Option Addr) (n c : Nat) (ps : List Int) (w : World) (hg : GrAt w w.heap.size g a) (hs : Small g) (hf : Rd1 w w.heap.size A n (ints ps)) (hn : n ≤ maxLen) :
    Calls Try.prog 17 #[gval g a, .slice A n c] w (RetRn g ps w) := by
  obtain ⟨ta, tc, na, nc, pa, pc⟩ := a
  have hfl : ps.length = n := by have := hf.1; simpa [ints] using this
  have hG0 := GB.start hg
  have hC := Lib.hid (fun (W : World) (h : GrAt W W.heap.size g ⟨ta, tc, na, nc, pa, pc⟩) => gcheck_any g ⟨ta, tc, na, nc, pa, pc⟩ W h hs)
  have hP1 := Lib.hid (fun (E : Int) (h : runE g ps = E) => (show (E ≠ 0 → ∀ w', Below w.heap.size w w' → RetRn g ps w (.returned (.tuple #[.slice none 0 0, .int .i64 E])) w') ∧ (E = 0 → ∀ v w', Below w.heap.size w w' → RdI w' v (runF g [g.start] ps).2 → RetRn g ps w (.returned (.tuple #[v, .int .i64 0])) w') from
    ⟨fun h0 w' hb => ⟨hb, .inl ⟨by rw [h]; exact h0, by rw [h]⟩⟩, fun h0 v w' hb hv => ⟨hb, .inr ⟨by rw [h, h0], v, rfl, hv⟩⟩⟩))
  unfold runE at hP1
  rw [hfl] at hP1
  unfold maxLen at hn
  clear hg
  unfold gval at *
  unfold gcells at *
  dsimp only at *
  replace hfl := Lib.hid hfl
  have hzn : (0 : Int) ≤ n := by omega
  obtain ⟨c0, c1, c2, c3, c4, c5⟩ := hG0.cells
  dsimp only at c1 c3 c5
  by_cases hok : gchk g = 0
  · rw [if_neg (by simpa using hok)] at hP1
    rw [hok] at hC
    have hSt := Lib.hid (fun (A : Option Addr) (k c : Nat) (f : List Int) (p : Int) (W : World) (h : GrAt W W.heap.size g ⟨ta, tc, na, nc, pa, pc⟩) => step_any g ⟨ta, tc, na, nc, pa, pc⟩ A k c f p W h hok)
    unfold gval gcells at hSt
    dsimp only at hSt
    by_cases h1000 : 1000 < n
    · have hR := Lib.hid ((hP1.out 6 (by rw [if_pos h1000])).1 (by omega))
      clear hP1 hSt
      have hz : (1000 : Int) < n := by omega
      go_enter Try.func17, Try.ntmps17
      go_wp2_with (go_at_call 36; refine (hC.out _ (hG0.2.1.mono hG0.2.2.size)).mono ?_; rintro e w1 ⟨rfl, hb1⟩)
      go_ret2
      exact hR.out _ (hG0.step hb1).2.2
    · rw [if_neg h1000] at hP1
      have hz : ¬ (1000 : Int) < n := by omega
      go_enter Try.func17, Try.ntmps17
      go_upto_region 4 with (go_at_call 36; refine (hC.out _ (hG0.2.1.mono hG0.2.2.size)).mono ?_; rintro e w1 ⟨rfl, hb1⟩)
      have hG1 := hG0.step hb1
      clear hG0 c0 c1 c2 c3 c4 c5
      obtain ⟨c0, c1, c2, c3, c4, c5⟩ := hG1.cells
      dsimp only at c1 c3 c5
      clear c0 c1 c2 c3 c5 hb1
      go_wp2_with fail
      have hG2 := hG1.alloc (.cells #[.int .i64 g.start] 3)
      have hb2 := hG2.2.2
      have hrd : RdI (w1.alloc (.cells #[.int .i64 g.start] 3)) (.slice (some ⟨w1.heap.size, 0, none⟩) 1 1) [g.start] := ⟨some ⟨w1.heap.size, 0, none⟩, 1, rfl, rd_blk (Blk.new w1 3 _), by simp, by unfold maxLen; simp⟩
      clear hG1 c4
      generalize w1.alloc (.cells #[.int .i64 g.start] 3) = W2 at *
      go_loopg [25, 7] n (fun gk s25 s7 wr => ∃ (i : Nat) (f : List Int), s25 = .int .i64 i ∧ i + gk = n ∧ RdI wr s7 f ∧ f.length ≤ 200 ∧ Hid (runF g [g.start] ps = runF g f (ps.drop i)) ∧ GB w g ⟨ta, tc, na, nc, pa, pc⟩ wr)
      case atStart => exact ⟨0, [g.start], rfl, by omega, hrd, by simp, Lib.hid rfl, hG2⟩
      case round =>
        clear hrd hG2 hb2
        obtain ⟨i, f, rfl, hi, hrd, hl2, hrun, hG⟩ := hrel
        replace hi := Lib.hid hi
        by_cases hin : i < n
        · have hil : i < ps.length := by have := hfl.out; omega
          have hx : ps[i]? = some ps[i] := List.getElem?_eq_getElem hil
          obtain ⟨b, off, rfl, hbt, x0⟩ := (hf.below hG.2.2).get (show (ints ps)[i]? = some (.int .i64 ps[i]) by rw [ints, List.getElem?_map, hx]; rfl)
          have hdr : ps.drop i = ps[i] :: ps.drop (i + 1) := List.drop_eq_getElem_cons hil
          generalize ps[i] = p at *
          obtain ⟨A', c', rfl, hrd1, hrl, hrm⟩ := hrd
          have hz0 : (0 : Int) ≤ i := by omega
          have hz1 : (i : Int) < n := by omega
          have hSt1 := hSt.out A' f.length c' f p wr (hG.2.1.mono hG.2.2.size) hrd1 (by omega) hrl hrm
          obtain ⟨c0, c1, c2, c3, c4, c5⟩ := hG.cells
          dsimp only at c1 c3 c5
          have hr2 := hrun.out
          rw [hdr] at hr2
          replace hx := Lib.hid hx
          replace hdr := Lib.hid hdr
          by_cases h0 : dstE g f p = 0
          · have hr3 : Hid (runF g [g.start] ps = runF g (dstL g f p) (ps.drop (i + 1))) := Lib.hid (by rw [hr2, runF, if_pos h0])
            have hlen := (dst_len h0).1
            have hSt2 := Lib.hid (hSt1.mono fun _ _ h => st_ok h0 h)
            clear hSt1 hr2 h0
            go_wp2_with (go_at_call 34; refine hSt2.out.mono ?_; rintro e w5 ⟨v5, rfl, hv5, hb5⟩)
            go_roundg (n - (i + 1))
            case measure => have := hi.out; omega
            case rel => exact ⟨i + 1, dstL g f p, by go_num, by have := hi.out; omega, hv5, hlen, hr3, hG.step hb5⟩
          · have hr3 : runF g [g.start] ps = (dstE g f p, []) := by rw [hr2, runF, if_neg h0]
            have hR := Lib.hid ((hP1.out _ rfl).1)
            rw [hr3] at hR
            dsimp only at hR
            have hSt2 := Lib.hid (hSt1.mono fun _ _ h => st_bad h0 h)
            have h1 : (dstE g f p == 0) = false := by simpa using h0
            have h2 : (dstE g f p != 0) = true := by simpa using h0
            replace h0 := Lib.hid h0
            clear hSt1 hr2 hr3
            generalize dstE g f p = E at *
            go_wp2_with (go_at_call 34; refine hSt2.out.mono ?_; rintro e w5 ⟨rfl, hb5⟩)
            go_ret2
            exact hR.out h0.out _ (hG.step hb5).2.2
        · have hin2 : i = n := by have := hi.out; omega
          have hr2 := hrun.out
          rw [List.drop_eq_nil_of_le (by have := hfl.out; omega)] at hr2
          have hr3 : runF g [g.start] ps = (0, f) := by rw [hr2, runF]
          have hR0 := (hP1.out _ rfl).2
          rw [hr3] at hR0
          have hR := Lib.hid (hR0 rfl)
          dsimp only at hR
          clear hr2 hr3 hR0
          have hrd' := Lib.hid hrd
          have hGb := Lib.hid hG.2.2
          go_wp2_with fail
          go_ret2
          exact hR.out _ _ hGb.out hrd'.out
  · rw [if_pos (by simpa using hok)] at hP1
    have hR := Lib.hid ((hP1.out _ rfl).1 hok)
    have hok2 : (gchk g == 0) = false := by simpa using hok
    have hok3 : (gchk g != 0) = true := by simpa using hok
    clear hP1
    generalize gchk g = E at *
    go_enter Try.func17, Try.ntmps17
    go_wp2_with (go_at_call 36; refine (hC.out _ (hG0.2.1.mono hG0.2.2.size)).mono ?_; rintro e w1 ⟨rfl, hb1⟩)
    go_ret2
    exact hR.out _ (hG0.step hb1).2.2
end Go.Proofs.Ytlngbphchhbpbaa

/- SameInts, SameLists. -/
namespace Go.Proofs.Ytlngbphchhbpbaa
open Go.ChangeShapes Go.WideShapes Go.ChangeAt Go.RowKit
set_option linter.unusedVariables false

theorem take_diff {l m : List Int} {i : Nat} {x y : Int} (h : l.take i = m.take i) (hx : l[i]? = some x) (hy : m[i]? = some y) (hne : x ≠ y) : l ≠ m := by
  rintro rfl
  rw [hx] at hy
  injection hy with hy
  exact hne hy
set_option maxHeartbeats 1000000 in
theorem sameints_any (A A2 : Option Addr) (n n2 c c2 : Nat) (l m : List Int) (w : World) (B : Nat) (ha : Rd1 w B A n (ints l)) (hb : Rd1 w B A2 n2 (ints m)) (hn : n ≤ maxLen) (hn2 : n2 ≤ maxLen) :
    Calls Try.prog 16 #[.slice A n c, .slice A2 n2 c2] w fun e w' => e = .returned (.bool (decide (l = m))) ∧ Below w.heap.size w w' := by
  have hl1 : l.length = n := by have := ha.1; simpa [ints] using this
  have hl2 : m.length = n2 := by have := hb.1; simpa [ints] using this
  unfold maxLen at hn hn2
  by_cases hnn : n = n2
  · subst hnn
    obtain ⟨R, hR⟩ : ∃ R, R = decide (l = m) := ⟨_, rfl⟩
    rw [← hR]
    replace hR := Lib.hid hR
    replace hl1 := Lib.hid hl1
    replace hl2 := Lib.hid hl2
    go_enter Try.func16, Try.ntmps16
    go_wp2_with fail
    go_loopg [5] n (fun gk s5 wr => ∃ i : Nat, s5 = .int .i64 i ∧ i + gk = n ∧ Hid (l.take i = m.take i) ∧ Below w.heap.size w wr ∧ Rd1 wr B A n (ints l) ∧ Rd1 wr B A2 n (ints m))
    case atStart => exact ⟨0, rfl, by omega, Lib.hid rfl, Below.refl _ _, ha, hb⟩
    case round =>
      obtain ⟨i, rfl, hi, ht, hbw, ha', hb'⟩ := hrel
      clear ha hb
      have ha := ha'
      have hb := hb'
      clear ha' hb'
      replace hi := Lib.hid hi
      by_cases hin : i < n
      · have hil : i < l.length := by have := hl1.out; omega
        have him : i < m.length := by have := hl2.out; omega
        have hx : l[i]? = some l[i] := List.getElem?_eq_getElem hil
        have hy : m[i]? = some m[i] := List.getElem?_eq_getElem him
        obtain ⟨b1, off1, rfl, hbt1, x0⟩ := ha.get (show (ints l)[i]? = some (.int .i64 l[i]) by rw [ints, List.getElem?_map, hx]; rfl)
        obtain ⟨b2, off2, rfl, hbt2, y0⟩ := hb.get (show (ints m)[i]? = some (.int .i64 m[i]) by rw [ints, List.getElem?_map, hy]; rfl)
        generalize l[i] = x at *
        generalize m[i] = y at *
        have hz0 : (0 : Int) ≤ i := by omega
        have hz1 : (i : Int) < n := by omega
        by_cases hxy : x = y
        · subst hxy
          have ht2 : Hid (l.take (i + 1) = m.take (i + 1)) := Lib.hid (by rw [take_snocG hx, take_snocG hy, ht.out])
          replace hx := Lib.hid hx
          replace hy := Lib.hid hy
          go_upto_region 6 with (fail)
          go_quiet (fail)
          have hbw2 := bDrwN hbw nq
          have ha2 : Rd1 (wr.drewN nq) B _ n (ints l) := ha.below (bDrwN' wr nq)
          have hb2 : Rd1 (wr.drewN nq) B _ n (ints m) := hb.below (bDrwN' wr nq)
          clear ha hb x0 y0
          generalize wr.drewN nq = W2 at *
          go_wp2_with fail
          go_roundg (n - (i + 1))
          case measure => have := hi.out; omega
          case rel => exact ⟨i + 1, by go_num, by have := hi.out; omega, ht2, hbw2, ha2, hb2⟩
        · have hRf : R = false := by rw [hR.out]; exact decide_eq_false (take_diff ht.out hx hy hxy)
          subst hRf
          have h1 : (x == y) = false := by simpa using hxy
          have h2 : (x != y) = true := by simpa using hxy
          replace hx := Lib.hid hx
          replace hy := Lib.hid hy
          clear hxy
          go_upto_region 6 with (fail)
          go_quiet (fail)
          have hbw2 := bDrwN hbw nq
          clear ha hb x0 y0
          generalize wr.drewN nq = W2 at *
          go_wp2_with fail
          go_ret
          exact ⟨rfl, hbw2⟩
      · have hRt : R = true := by
          rw [hR.out]
          apply decide_eq_true
          have := ht.out
          rwa [List.take_of_length_le (by have := hl1.out; omega), List.take_of_length_le (by have := hl2.out; omega)] at this
        subst hRt
        go_wp2_with fail
        go_ret
        exact ⟨rfl, hbw⟩
  · have hR : decide (l = m) = false := decide_eq_false (by rintro rfl; omega)
    rw [hR]
    have h1 : ((n : Int) == n2) = false := beq_eq_false_iff_ne.2 (by omega)
    have h2 : ((n : Int) != n2) = true := bne_iff_ne.2 (by omega)
    clear hR hnn
    go_enter Try.func16, Try.ntmps16
    go_wp2_with fail
    go_ret
    exact ⟨rfl, Below.refl _ _⟩

/-- a slice of slices that reads as L, in blocks below B -/
def RdLL (W : World) (B : Nat) (A : Option Addr) (n : Nat) (L : List (List Int)) : Prop :=
  L.length = n ∧ (n = 0 ∨ ∃ b off, A = some ⟨b, off, none⟩ ∧ b < B ∧ ∀ (i : Nat) (l : List Int), L[i]? = some l → ∃ RA c, W.cell? ⟨b, off + i, none⟩ = some (.slice RA l.length c) ∧ Rd1 W B RA l.length (ints l))
theorem RdLL.below {w w' : World} {B : Nat} {A : Option Addr} {n : Nat} {L : List (List Int)} (h : RdLL w B A n L) (hb : Below B w w') : RdLL w' B A n L := by
  refine ⟨h.1, ?_⟩
  rcases h.2 with h0 | ⟨b, off, rfl, hlt, hc⟩
  · exact .inl h0
  · refine .inr ⟨b, off, rfl, hlt, fun i l hl => ?_⟩
    obtain ⟨RA, c, h1, h2⟩ := hc i l hl
    exact ⟨RA, c, by rw [hb.cell (p := ⟨b, off + i, none⟩) hlt]; exact h1, h2.below hb⟩
theorem RdLL.mono {w : World} {B B' : Nat} {A : Option Addr} {n : Nat} {L : List (List Int)} (h : RdLL w B A n L) (hb : B ≤ B') : RdLL w B' A n L := by
  refine ⟨h.1, ?_⟩
  rcases h.2 with h0 | ⟨b, off, rfl, hlt, hc⟩
  · exact .inl h0
  · refine .inr ⟨b, off, rfl, by omega, fun i l hl => ?_⟩
    obtain ⟨RA, c, h1, h2⟩ := hc i l hl
    exact ⟨RA, c, h1, h2.mono hb⟩
theorem RdLL.get {w : World} {B : Nat} {A : Option Addr} {n : Nat} {L : List (List Int)} (h : RdLL w B A n L) {i : Nat} {l : List Int} (hi : L[i]? = some l) :
    ∃ b off, A = some ⟨b, off, none⟩ ∧ b < B ∧ ∃ RA c, w.cell? ⟨b, off + i, none⟩ = some (.slice RA l.length c) ∧ Rd1 w B RA l.length (ints l) := by
  have hlt := (List.getElem?_eq_some_iff.1 hi).1
  rcases h.2 with h0 | ⟨b, off, rfl, hb, hc⟩
  · have := h.1; omega
  · exact ⟨b, off, rfl, hb, hc i l hi⟩
/-- an own slice of own slices reads -/
theorem OwnTT.reads {W : World} {base : Nat} {v : Value} {L : List (List Int)} {addr : List Int → Nat} (h : OwnTT W base v L addr) : ∃ A c, v = .slice A L.length c ∧ RdLL W W.heap.size A L.length L ∧ L.length ≤ c ∧ c ≤ maxLen := by
  rcases h.1.2 with ⟨rfl, h0⟩ | ⟨g, cap, cur, rfl, hb, hg, hnc, hcm, hcs, ht⟩
  · exact ⟨none, 0, by rw [h0], ⟨rfl, .inl h0⟩, by omega, by simp [maxLen]⟩
  · refine ⟨some ⟨g, 0, none⟩, cap, rfl, ⟨rfl, .inr ⟨g, 0, rfl, (Array.getElem?_eq_some_iff.1 hg).1, fun i l hl => ?_⟩⟩, hnc, hcm⟩
    have hi := (List.getElem?_eq_some_iff.1 hl).1
    obtain ⟨a0, a1, a2, a3⟩ := h.2 l (List.mem_of_getElem? hl)
    refine ⟨some ⟨addr l, 0, none⟩, l.length, ?_, ⟨by simp [ints], .inr ⟨addr l, 0, rfl, a2.lt, fun j u hu => ?_⟩⟩⟩
    · have e : (cur.toList.take (L.length * 1))[i]? = (L.map (tsl addr))[i]? := by rw [ht]
      rw [List.getElem?_take_of_lt (by omega), List.getElem?_map, hl] at e
      rw [cell_of_row W g _ cur 26 (0, 0) hg, Nat.zero_add]
      simpa [tsl] using e
    · rw [Nat.zero_add, a2.cell]
      simpa using hu
end Go.Proofs.Ytlngbphchhbpbaa

/- The chapter's example; SameLists; awake. -/
namespace Go.Proofs.Ytlngbphchhbpbaa
open Go.ChangeShapes Go.WideShapes Go.ChangeAt Go.RowKit
set_option linter.unusedVariables false

/-- the grammar of the chapter's examples -/
def exD : Gr := ⟨1, [⟨#[97]⟩, ⟨#[98]⟩], ⟨#[110, 108]⟩, [⟨#[83]⟩, ⟨#[84]⟩], 16, exPs⟩
theorem exD_ok : gchk exD = 0 := by decide +kernel
theorem exD_runE : runE exD [0, 1, 2] = 0 := by decide +kernel
theorem exD_run : (runF exD [exD.start] [0, 1, 2]).2 = [0, 1, 1] := by decide +kernel
theorem rd_row {W : World} {g : Nat} {t : TypeId} {cs : Array Value} (h : Blk W g t cs) : Rd1 W W.heap.size (some ⟨g, 0, none⟩) cs.size cs.toList :=
  ⟨by simp, .inr ⟨g, 0, rfl, h.lt, fun i x hx => by rw [Nat.zero_add, h.cell]; simpa using hx⟩⟩
theorem under25 : Try.prog.underlying 25 = some (.struct (Try.prog.fieldsOf 25)) := by kernel_rfl
theorem size25 : (Try.prog.info? 25).map (·.size) = some 6 := by kernel_rfl
/-- the example in memory -/
def RetEx (w : World) (e : Ending) (w' : World) : Prop := ∃ a, e = .returned (gval exD a) ∧ GrAt w' w'.heap.size exD a ∧ Below w.heap.size w w'
set_option maxHeartbeats 2000000 in
theorem example_any (w : World) : Calls Try.prog 26 #[] w (RetEx w) := by
  have hP := Lib.hid (fun (a : GA) (w' : World) (h1 : GrAt w' w'.heap.size exD a) (h2 : Below w.heap.size w w') => (show RetEx w (.returned (gval exD a)) w' from ⟨a, rfl, h1, h2⟩))
  go_enter Try.func26, Try.ntmps26
  go_wp2_with fail
  generalize hW0 : w.alloc (.cells #[.int .i64 1, .slice (some ⟨w.heap.size + 1, 0, none⟩) 2 2, .string { data := #[110, 108] }, .slice (some ⟨w.heap.size + 1 + 1, 0, none⟩) 2 2, .int .i64 16, .slice (some ⟨w.heap.size + 1 + 1 + 1 + 1 + 1 + 1 + 1, 0, none⟩) 4 4] 25) = W0
  have z0 : W0.heap.size = w.heap.size + 1 := by rw [← hW0]; simp
  have q0 : Blk W0 w.heap.size 25 #[.int .i64 1, .slice (some ⟨w.heap.size + 1, 0, none⟩) 2 2, .string { data := #[110, 108] }, .slice (some ⟨w.heap.size + 1 + 1, 0, none⟩) 2 2, .int .i64 16, .slice (some ⟨w.heap.size + 1 + 1 + 1 + 1 + 1 + 1 + 1, 0, none⟩) 4 4] := by rw [← hW0]; exact Blk.new w 25 _
  have b0 : Below w.heap.size w W0 := by rw [← hW0]; exact bAlc (Below.refl _ _) _
  obtain ⟨W1, hW1⟩ : ∃ W1, W1 = W0.alloc (.cells #[.string { data := #[97] }, .string { data := #[98] }] 9) := ⟨_, rfl⟩
  rw [← hW1]
  have z1 : W1.heap.size = w.heap.size + 2 := by rw [hW1]; simp [z0]
  have q1 : Blk W1 (w.heap.size + 1) 9 #[.string { data := #[97] }, .string { data := #[98] }] := by rw [hW1]; exact Blk.newAt _ _ _ _ z0.symm
  have b1 : Below W0.heap.size W0 W1 := by rw [hW1]; exact bAlc (Below.refl _ _) _
  obtain ⟨W2, hW2⟩ : ∃ W2, W2 = W1.alloc (.cells #[.string { data := #[83] }, .string { data := #[84] }] 9) := ⟨_, rfl⟩
  rw [← hW2]
  have z2 : W2.heap.size = w.heap.size + 3 := by rw [hW2]; simp [z1]
  have q2 : Blk W2 (w.heap.size + 2) 9 #[.string { data := #[83] }, .string { data := #[84] }] := by rw [hW2]; exact Blk.newAt _ _ _ _ z1.symm
  have b2 : Below W1.heap.size W1 W2 := by rw [hW2]; exact bAlc (Below.refl _ _) _
  obtain ⟨W3, hW3⟩ : ∃ W3, W3 = W2.alloc (.cells #[.int .i64 0, .int .i64 16, .int .i64 1] 3) := ⟨_, rfl⟩
  rw [← hW3]
  have z3 : W3.heap.size = w.heap.size + 4 := by rw [hW3]; simp [z2]
  have q3 : Blk W3 (w.heap.size + 3) 3 #[.int .i64 0, .int .i64 16, .int .i64 1] := by rw [hW3]; exact Blk.newAt _ _ _ _ z2.symm
  have b3 : Below W2.heap.size W2 W3 := by rw [hW3]; exact bAlc (Below.refl _ _) _
  obtain ⟨W4, hW4⟩ : ∃ W4, W4 = W3.alloc (.cells #[.int .i64 17] 3) := ⟨_, rfl⟩
  rw [← hW4]
  have z4 : W4.heap.size = w.heap.size + 5 := by rw [hW4]; simp [z3]
  have q4 : Blk W4 (w.heap.size + 4) 3 #[.int .i64 17] := by rw [hW4]; exact Blk.newAt _ _ _ _ z3.symm
  have b4 : Below W3.heap.size W3 W4 := by rw [hW4]; exact bAlc (Below.refl _ _) _
  obtain ⟨W5, hW5⟩ : ∃ W5, W5 = W4.alloc (.cells #[.int .i64 1] 3) := ⟨_, rfl⟩
  rw [← hW5]
  have z5 : W5.heap.size = w.heap.size + 6 := by rw [hW5]; simp [z4]
  have q5 : Blk W5 (w.heap.size + 5) 3 #[.int .i64 1] := by rw [hW5]; exact Blk.newAt _ _ _ _ z4.symm
  have b5 : Below W4.heap.size W4 W5 := by rw [hW5]; exact bAlc (Below.refl _ _) _
  obtain ⟨W6, hW6⟩ : ∃ W6, W6 = W5.alloc (.cells #[.int .i64 17, .int .i64 17] 3) := ⟨_, rfl⟩
  rw [← hW6]
  have z6 : W6.heap.size = w.heap.size + 7 := by rw [hW6]; simp [z5]
  have q6 : Blk W6 (w.heap.size + 6) 3 #[.int .i64 17, .int .i64 17] := by rw [hW6]; exact Blk.newAt _ _ _ _ z5.symm
  have b6 : Below W5.heap.size W5 W6 := by rw [hW6]; exact bAlc (Below.refl _ _) _
  generalize hW7 : W6.alloc (.cells #[.int .i64 16, .slice (some ⟨w.heap.size + 1 + 1 + 1, 0, none⟩) 3 3, .int .i64 16, .slice (some ⟨w.heap.size + 1 + 1 + 1 + 1, 0, none⟩) 1 1, .int .i64 17, .slice (some ⟨w.heap.size + 1 + 1 + 1 + 1 + 1, 0, none⟩) 1 1, .int .i64 17, .slice (some ⟨w.heap.size + 1 + 1 + 1 + 1 + 1 + 1, 0, none⟩) 2 2] 49) = W7
  have z7 : W7.heap.size = w.heap.size + 8 := by rw [← hW7]; simp [z6]
  have q7 : Blk W7 (w.heap.size + 7) 49 #[.int .i64 16, .slice (some ⟨w.heap.size + 1 + 1 + 1, 0, none⟩) 3 3, .int .i64 16, .slice (some ⟨w.heap.size + 1 + 1 + 1 + 1, 0, none⟩) 1 1, .int .i64 17, .slice (some ⟨w.heap.size + 1 + 1 + 1 + 1 + 1, 0, none⟩) 1 1, .int .i64 17, .slice (some ⟨w.heap.size + 1 + 1 + 1 + 1 + 1 + 1, 0, none⟩) 2 2] := by rw [← hW7]; exact Blk.newAt _ _ _ _ z6.symm
  have b7 : Below W6.heap.size W6 W7 := by rw [← hW7]; exact bAlc (Below.refl _ _) _
  have p6 := (q6.step b7)
  have p5 := ((q5.step b6).step b7)
  have p4 := (((q4.step b5).step b6).step b7)
  have p3 := ((((q3.step b4).step b5).step b6).step b7)
  have p2 := (((((q2.step b3).step b4).step b5).step b6).step b7)
  have p1 := ((((((q1.step b2).step b3).step b4).step b5).step b6).step b7)
  have p0 := (((((((q0.step b1).step b2).step b3).step b4).step b5).step b6).step b7)
  have hb : Below w.heap.size w W7 := (bStep (bStep (bStep (bStep (bStep (bStep (bStep b0 b1) b2) b3) b4) b5) b6) b7)
  have hg : GrAt W7 W7.heap.size exD ⟨some ⟨w.heap.size + 1, 0, none⟩, 2, some ⟨w.heap.size + 2, 0, none⟩, 2, some ⟨w.heap.size + 7, 0, none⟩, 4⟩ := by
    refine ⟨rd_row p1, Nat.le_refl _, by simp [maxLen], rd_row p2, Nat.le_refl _, by simp [maxLen], ⟨rfl, .inr ⟨w.heap.size + 7, 0, rfl, by omega, ?_⟩⟩, Nat.le_refl _, by simp [maxLen], by decide, by decide, by decide⟩
    intro i p hp
    have hlt := (List.getElem?_eq_some_iff.1 hp).1
    have hl4 : exD.prods.length = 4 := rfl
    rcases (by omega : i = 0 ∨ i = 1 ∨ i = 2 ∨ i = 3) with rfl | rfl | rfl | rfl
    · cases hp; exact ⟨q7.cell 0, _, _, q7.cell 1, rd_row p3, Nat.le_refl _, by simp [maxLen]⟩
    · cases hp; exact ⟨q7.cell 2, _, _, q7.cell 3, rd_row p4, Nat.le_refl _, by simp [maxLen]⟩
    · cases hp; exact ⟨q7.cell 4, _, _, q7.cell 5, rd_row p5, Nat.le_refl _, by simp [maxLen]⟩
    · cases hp; exact ⟨q7.cell 6, _, _, q7.cell 7, rd_row p6, Nat.le_refl _, by simp [maxLen]⟩
  exact bodyPost_ret (results_cell_row rfl _ _ _ 25 _ (0, 0) _ rfl p0 under25 rfl size25) rfl (hP.out _ _ hg hb)

set_option maxHeartbeats 1000000 in
theorem samelists_true (A A2 : Option Addr) (n c c2 : Nat) (L : List (List Int)) (w : World) (B : Nat) (ha : RdLL w B A n L) (hb : RdLL w B A2 n L) (hn : n ≤ maxLen) (hL : ∀ l ∈ L, l.length ≤ maxLen) (hB : B ≤ w.heap.size) :
    Calls Try.prog 24 #[.slice A n c, .slice A2 n c2] w fun e w' => e = .returned (.bool true) ∧ Below w.heap.size w w' := by
  have hl1 : L.length = n := ha.1
  have hL' := Lib.hid hL
  have hS := Lib.hid (fun (X Y : Option Addr) (c c2 : Nat) (l : List Int) (W : World) (h1 : Rd1 W B X l.length (ints l)) (h2 : Rd1 W B Y l.length (ints l)) (h3 : l.length ≤ maxLen) => sameints_any X Y l.length l.length c c2 l l W B h1 h2 h3 h3)
  simp only [decide_true] at hS
  unfold maxLen at hn
  replace hl1 := Lib.hid hl1
  go_enter Try.func24, Try.ntmps24
  go_wp2_with fail
  go_loopg [5] n (fun gk s5 wr => ∃ i : Nat, s5 = .int .i64 i ∧ i + gk = n ∧ Below w.heap.size w wr)
  case atStart => exact ⟨0, rfl, by omega, Below.refl _ _⟩
  case round =>
    obtain ⟨i, rfl, hi, hbw⟩ := hrel
    replace hi := Lib.hid hi
    by_cases hin : i < n
    · have hil : i < L.length := by have := hl1.out; omega
      have hx : L[i]? = some L[i] := List.getElem?_eq_getElem hil
      have hlm := hL'.out _ (List.getElem_mem hil)
      have ha' := ha.below (hbw.mono hB)
      have hb' := hb.below (hbw.mono hB)
      obtain ⟨b1, off1, rfl, hbt1, RA, rc, x0, x1⟩ := ha'.get hx
      obtain ⟨b2, off2, rfl, hbt2, RA2, rc2, y0, y1⟩ := hb'.get hx
      generalize L[i] = l at *
      have hz0 : (0 : Int) ≤ i := by omega
      have hz1 : (i : Int) < n := by omega
      replace hx := Lib.hid hx
      have hw := hbw.size
      go_upto_region 6 with (fail)
      have k0 := cell_kept x0
      have k1 := cell_kept y0
      have hSk := Lib.hid (fun (q : KeptBy wr) => hS.out RA RA2 rc rc2 l q.world (x1.below (q.kept.mono (by omega))) (y1.below (q.kept.mono (by omega))) hlm)
      refine wp_region_kept (by kernel_rfl) (by kernel_rfl) ?_
      repeat (go_big_quiet_step ((go_at_call 16; exact Calls.kept_by (hSk.out _))))
      refine wpQuiet_nil ?_
      rintro _ ⟨q, rfl⟩
      have hqk := q.kept
      clear hSk k0 k1 x0 x1 y0 y1 ha' hb'
      generalize q.world = W2 at hqk
      go_wp2_with fail
      go_roundg (n - (i + 1))
      case measure => have := hi.out; omega
      case rel => exact ⟨i + 1, by go_num, by have := hi.out; omega, bStep hbw hqk⟩
    · go_wp2_with fail
      go_ret
      exact ⟨rfl, hbw⟩
end Go.Proofs.Ytlngbphchhbpbaa

/- The statements' own helper awake: the chapter's examples hold. -/
namespace Go.Proofs.Ytlngbphchhbpbaa
open Go.ChangeShapes Go.WideShapes Go.ChangeAt Go.RowKit
set_option linter.unusedVariables false

theorem rn_ok {g : Gr} {ps : List Int} {w : World} (h : runE g ps = 0) {e : Ending} {w' : World} (hr : RetRn g ps w e w') : ∃ v, e = .returned (.tuple #[v, .int .i64 0]) ∧ RdI w' v (runF g [g.start] ps).2 ∧ Below w.heap.size w w' := by
  obtain ⟨hb, ⟨h1, _⟩ | ⟨_, v, rfl, hv⟩⟩ := hr
  · exact absurd h h1
  · exact ⟨v, rfl, hv, hb⟩
theorem sn_ok {g : Gr} {most : Nat} {w : World} (h : ¬ Big g.toks.length most) {e : Ending} {w' : World} (hr : RetSn g most w e w') : ∃ v L addr, e = .returned (.tuple #[v, .int .i64 0]) ∧ SSet g most L ∧ OwnTT w' w.heap.size v L addr ∧ Below w.heap.size w w' := by
  obtain ⟨hb, ⟨h1, _⟩ | ⟨v, L, addr, rfl, h2, h3⟩⟩ := hr
  · exact absurd h1 h
  · exact ⟨v, L, addr, rfl, h2, h3, hb⟩
theorem exD_small : Small exD := small_of exD_ok
theorem exD_sent {L : List (List Int)} (h : SSet exD 3 L) : L = [[1], [1, 1], [0, 1, 1], [1, 1, 1]] := ex_sent h.1 h.2
/-- the lists that awake holds against the answer -/
def lits4 (W : World) : World := ((((W.alloc (.cells #[.int .i64 1] 3)).alloc (.cells #[.int .i64 1, .int .i64 1] 3)).alloc (.cells #[.int .i64 0, .int .i64 1, .int .i64 1] 3)).alloc (.cells #[.int .i64 1, .int .i64 1, .int .i64 1] 3)).alloc
  (.cells #[.slice (some ⟨W.heap.size, 0, none⟩) 1 1, .slice (some ⟨W.heap.size + 1, 0, none⟩) 2 2, .slice (some ⟨W.heap.size + 1 + 1, 0, none⟩) 3 3, .slice (some ⟨W.heap.size + 1 + 1 + 1, 0, none⟩) 3 3] 26)
theorem lits4_below (W : World) : Below W.heap.size W (lits4 W) := bAlc (bAlc (bAlc (bAlc (bAlc (Below.refl _ _) _) _) _) _) _
theorem lits4_rd (W : World) : RdLL (lits4 W) (lits4 W).heap.size (some ⟨W.heap.size + 1 + 1 + 1 + 1, 0, none⟩) 4 [[1], [1, 1], [0, 1, 1], [1, 1, 1]] := by
  have p0 : Blk (lits4 W) W.heap.size 3 #[.int .i64 1] := ((((Blk.new _ _ _).alloc _).alloc _).alloc _).alloc _
  have p1 : Blk (lits4 W) (W.heap.size + 1) 3 #[.int .i64 1, .int .i64 1] := (((Blk.newAt _ _ _ _ (by simp)).alloc _).alloc _).alloc _
  have p2 : Blk (lits4 W) (W.heap.size + 1 + 1) 3 #[.int .i64 0, .int .i64 1, .int .i64 1] := ((Blk.newAt _ _ _ _ (by simp)).alloc _).alloc _
  have p3 : Blk (lits4 W) (W.heap.size + 1 + 1 + 1) 3 #[.int .i64 1, .int .i64 1, .int .i64 1] := (Blk.newAt _ _ _ _ (by simp)).alloc _
  have p4 : Blk (lits4 W) (W.heap.size + 1 + 1 + 1 + 1) 26 #[.slice (some ⟨W.heap.size, 0, none⟩) 1 1, .slice (some ⟨W.heap.size + 1, 0, none⟩) 2 2, .slice (some ⟨W.heap.size + 1 + 1, 0, none⟩) 3 3, .slice (some ⟨W.heap.size + 1 + 1 + 1, 0, none⟩) 3 3] := Blk.newAt _ _ _ _ (by simp)
  refine ⟨rfl, .inr ⟨_, 0, rfl, p4.lt, fun i l hl => ?_⟩⟩
  have hlt := (List.getElem?_eq_some_iff.1 hl).1
  simp only [List.length_cons, List.length_nil] at hlt
  rcases (by omega : i = 0 ∨ i = 1 ∨ i = 2 ∨ i = 3) with rfl | rfl | rfl | rfl
  · cases hl; exact ⟨_, _, p4.cell 0, rd_row p0⟩
  · cases hl; exact ⟨_, _, p4.cell 1, rd_row p1⟩
  · cases hl; exact ⟨_, _, p4.cell 2, rd_row p2⟩
  · cases hl; exact ⟨_, _, p4.cell 3, rd_row p3⟩

set_option maxRecDepth 100000 in
set_option maxHeartbeats 4000000 in
theorem awake_any (w : World) : Calls Try.prog 8 #[] w fun e w' => e = .returned (.bool true) ∧ Below w.heap.size w w' := by
  have hE := Lib.hid (fun W => example_any W)
  have hR := Lib.hid (fun (a : GA) (A : Option Addr) (c : Nat) (W : World) (h : GrAt W W.heap.size exD a) (h2 : Rd1 W W.heap.size A 3 (ints [0, 1, 2])) => (run_any exD a A 3 c [0, 1, 2] W h exD_small h2 (by simp [maxLen])).mono fun _ _ h => rn_ok exD_runE h)
  rw [exD_run] at hR
  have hSn := Lib.hid (fun (a : GA) (W : World) (h : GrAt W W.heap.size exD a) => (show Calls Try.prog 21 #[gval exD a, .int .i64 3] W (fun e w' => ∃ v L addr, e = .returned (.tuple #[v, .int .i64 0]) ∧ SSet exD 3 L ∧ OwnTT w' W.heap.size v L addr ∧ Below W.heap.size W w') from
    (sentences_any exD a 3 W h exD_ok (by omega)).mono fun _ _ h => sn_ok (show ¬ Big exD.toks.length 3 from ex_small) h))
  go_enter Try.func8, Try.ntmps8
  go_upto_region 2 with (first
    | (go_at_call 26; refine (hE.out _).mono ?_; rintro e w1 ⟨a, rfl, hg1, hb1⟩)
    | (go_at_call 17; refine (hR.out a (some ⟨w1.heap.size, 0, none⟩) 3 _ ((hg1.below (bAlc (Below.refl _ _) _)).mono (by simp)) (rd_row (Blk.new w1 3 #[.int .i64 0, .int .i64 1, .int .i64 2]))).mono ?_; rintro e w2 ⟨v2, rfl, hv2, hb2⟩))
  obtain ⟨A2, c2, rfl, hrd2, _, hcm2⟩ := hv2
  have hb3 : Below w.heap.size w w2 := bStep (bAlc hb1 _) hb2
  clear hR hg1 hb1 hb2
  go_upto_region 3 with (first
    | (go_at_call 26; refine (hE.out _).mono ?_; rintro e w3 ⟨a3, rfl, hg3, hb4⟩)
    | (go_at_call 21; refine (hSn.out a3 _ hg3).mono ?_; rintro e w4 ⟨v4, L4, addr4, rfl, hL4, hv4, hb5⟩))
  have hLe := exD_sent hL4
  subst hLe
  obtain ⟨A4, c4, rfl, hrd4, _, hcm4⟩ := hv4.reads
  have hb24 : Below w2.heap.size w2 w4 := bStep hb4 hb5
  have hrd2' := Lib.hid ((hrd2.below hb24).mono hb24.size)
  have hrd4' := Lib.hid hrd4
  have hb6 := bStep hb3 hb24
  clear hE hSn hL4 hv4 hg3 hb4 hb5 hrd2 hrd4 hb24 hb3 hcm2 hcm4
  have hI := Lib.hid (fun (g : Nat) (W : World) (h1 : Rd1 W W.heap.size A2 3 (ints [0, 1, 1])) (h2 : Blk W g 3 #[.int .i64 0, .int .i64 1, .int .i64 1]) => sameints_any A2 (some ⟨g, 0, none⟩) 3 3 c2 3 [0, 1, 1] [0, 1, 1] W W.heap.size h1 (rd_row h2) (by simp [maxLen]) (by simp [maxLen]))
  simp only [decide_true] at hI
  have hJ := Lib.hid (fun (g : Nat) (W : World) (h1 : RdLL W W.heap.size A4 4 [[1], [1, 1], [0, 1, 1], [1, 1, 1]]) (h2 : RdLL W W.heap.size (some ⟨g, 0, none⟩) 4 [[1], [1, 1], [0, 1, 1], [1, 1, 1]]) => samelists_true A4 (some ⟨g, 0, none⟩) 4 c4 4 [[1], [1, 1], [0, 1, 1], [1, 1, 1]] W W.heap.size h1 h2 (by simp [maxLen]) (by intro l hl; simp at hl; rcases hl with rfl | rfl | rfl | rfl <;> simp [maxLen]) (Nat.le_refl _))
  go_wp2_with (go_at_call 16; refine (hI.out w4.heap.size _ ((hrd2'.out.below (bAlc (Below.refl _ _) _)).mono (by simp)) (Blk.new w4 3 _)).mono ?_; rintro e w5 ⟨rfl, hb7⟩)
  have hb57 : Below w4.heap.size w4 (lits4 w5) := bStep (bStep (bAlc (Below.refl _ _) _) hb7) (lits4_below w5)
  refine (hJ.out _ (lits4 w5) ((hrd4'.out.below hb57).mono hb57.size) (lits4_rd w5)).mono ?_
  rintro e w6 ⟨rfl, hb8⟩
  have hb9 := bStep (bStep hb6 hb57) hb8
  clear hI hJ hrd2' hrd4' hb6 hb57 hb7 hb8
  go_wp2_with fail
  go_ret
  exact ⟨rfl, hb9⟩
end Go.Proofs.Ytlngbphchhbpbaa

/- SmallGrammar: what it lets by. -/
namespace Go.Proofs.Ytlngbphchhbpbaa
open Go.ChangeShapes Go.WideShapes Go.ChangeAt Go.RowKit
set_option linter.unusedVariables false

/-- few productions, with short right sides -/
structure LightP (g : Gr) : Prop where
  t : g.toks.length ≤ 10
  n : g.names.length ≤ 10
  p : g.prods.length ≤ 30
  r : ∀ p ∈ g.prods, p.right.length ≤ 8
theorem LightP.small {g : Gr} (h : LightP g) : Small g := ⟨by have := h.t; omega, by have := h.n; omega, by have := h.p; omega, fun p hp => by have := h.r p hp; omega⟩
def SmallP (g : Gr) : Prop := LightP g ∧ (g.k < 1 ∨ 4 < g.k ∨ (g.k = 1 ∧ g.toks.length ≤ 8) ∨ (g.k = 2 ∧ g.toks.length ≤ 3) ∨ (g.k = 3 ∧ g.toks.length ≤ 2))
/-- a Bool that shows P -/
def RetP1 (P : Prop) (w : World) (e : Ending) (w' : World) : Prop := ∃ b : Bool, e = .returned (.bool b) ∧ (b = true → P) ∧ Below w.heap.size w w'

set_option maxHeartbeats 1000000 in
theorem short_some (A : Option Addr) (n c : Nat) (l : List ByteArray) (w : World) (h : Rd1 w w.heap.size A n (strs l)) (hn : n ≤ maxLen) (hl : ∀ s ∈ l, s.size ≤ maxLen) : Calls Try.prog 31 #[.slice A n c, .int .i64 40] w (RetP1 True w) := by
  have hlen : l.length = n := by have := h.1; simpa [strs] using this
  unfold maxLen at hn hl
  have hP := Lib.hid (fun (b : Bool) (w' : World) (h : Below w.heap.size w w') => (show RetP1 True w (.returned (.bool b)) w' from ⟨b, rfl, fun _ => trivial, h⟩))
  have hl' := Lib.hid hl
  go_enter Try.func31, Try.ntmps31
  go_wp2_with fail
  go_loopg [5] n (fun gk s5 wr => ∃ i : Nat, s5 = .int .i64 i ∧ i + gk = n ∧ Below w.heap.size w wr)
  case atStart => exact ⟨0, rfl, by omega, Below.refl _ _⟩
  case round =>
    obtain ⟨i, rfl, hi, hb⟩ := hrel
    replace hi := Lib.hid hi
    by_cases hin : i < n
    · have hx : l[i]? = some l[i] := List.getElem?_eq_getElem (by omega)
      have hs := hl'.out _ (List.getElem_mem (show i < l.length by omega))
      obtain ⟨b, off, rfl, hbt, x0⟩ := h.get (show (strs l)[i]? = some (.string l[i]) by rw [strs, List.getElem?_map, hx]; rfl)
      have x0' := (hb.cell (p := ⟨b, off + i, none⟩) hbt).trans x0
      generalize l[i] = s at *
      have hz0 : (0 : Int) ≤ i := by omega
      have hz1 : (i : Int) < n := by omega
      clear x0
      by_cases h4 : 40 < s.size
      · have hz2 : (40 : Int) < s.size := by omega
        go_wp2_with fail
        go_ret
        exact hP.out _ _ hb
      · have hz2 : ¬ (40 : Int) < s.size := by omega
        go_wp2_with fail
        go_roundg (n - (i + 1))
        case measure => have := hi.out; omega
        case rel => exact ⟨i + 1, by go_num, by have := hi.out; omega, hb⟩
    · go_wp2_with fail
      go_ret
      exact hP.out _ _ hb

set_option maxHeartbeats 2000000 in
theorem light_some (g : Gr) (a : GA) (w : World) (hg : GrAt w w.heap.size g a) : Calls Try.prog 7 #[gval g a] w (RetP1 (LightP g) w) := by
  have hP := Lib.hid (fun (w' : World) (h1 : LightP g) (h : Below w.heap.size w w') => (show RetP1 (LightP g) w (.returned (.bool true)) w' from ⟨true, rfl, fun _ => h1, h⟩))
  have hN := Lib.hid (fun (w' : World) (h : Below w.heap.size w w') => (show RetP1 (LightP g) w (.returned (.bool false)) w' from ⟨false, rfl, (fun e => by cases e), h⟩))
  obtain ⟨ta, tc, na, nc, pa, pc⟩ := a
  have hG0 := GB.start hg
  have htc := hg.tc
  have htm := hg.tm
  have hnc := hg.nc
  have hnm := hg.nm
  have hpc := hg.pc
  have hpm := hg.pm
  have hsep := hg.sep
  have hS1 := Lib.hid (fun (W : World) (h : GrAt W W.heap.size g ⟨ta, tc, na, nc, pa, pc⟩) => short_some ta g.toks.length tc g.toks W h.toks (by have := h.tc; have := h.tm; dsimp only at *; omega) h.ts)
  have hS2 := Lib.hid (fun (W : World) (h : GrAt W W.heap.size g ⟨ta, tc, na, nc, pa, pc⟩) => short_some na g.names.length nc g.names W h.names (by have := h.nc; have := h.nm; dsimp only at *; omega) h.ns)
  clear hg
  dsimp only at htc htm hnc hnm hpc hpm
  unfold maxLen at htm hnm hpm hsep
  unfold gval at *
  unfold gcells at *
  dsimp only at *
  go_enter Try.func7, Try.ntmps7
  go_upto_region 1 with (fail)
  generalize w.alloc (.cells #[.int .i64 g.k, .slice ta g.toks.length tc, .string g.sep, .slice na g.names.length nc, .int .i64 g.start, .slice pa g.prods.length pc] 25) = W at *
  obtain ⟨c0, c1, c2, c3, c4, c5⟩ := hG0.cells
  dsimp only at c1 c3 c5
  by_cases h1 : 10 < g.toks.length
  · have z1 : (10 : Int) < g.toks.length := by omega
    go_wp2_with fail
    go_ret
    exact hN.out _ hG0.2.2
  have z1 : ¬ (10 : Int) < g.toks.length := by omega
  by_cases h2 : 10 < g.names.length
  · have z2 : (10 : Int) < g.names.length := by omega
    go_wp2_with fail
    go_ret
    exact hN.out _ hG0.2.2
  have z2 : ¬ (10 : Int) < g.names.length := by omega
  by_cases h3 : 30 < g.prods.length
  · have z3 : (30 : Int) < g.prods.length := by omega
    go_wp2_with fail
    go_ret
    exact hN.out _ hG0.2.2
  have z3 : ¬ (30 : Int) < g.prods.length := by omega
  by_cases h4 : 40 < g.sep.size
  · have z4 : (40 : Int) < g.sep.size := by omega
    go_wp2_with fail
    go_ret
    exact hN.out _ hG0.2.2
  have z4 : ¬ (40 : Int) < g.sep.size := by omega
  go_wp2_with fail
  refine (hS1.out _ ((hG0.2.1).mono hG0.2.2.size)).mono ?_
  rintro e w1 ⟨b1, rfl, _, hb1⟩
  have hG1 := hG0.step hb1
  clear hG0 hb1 c0 c1 c2 c3 c4 c5
  obtain ⟨c0, c1, c2, c3, c4, c5⟩ := hG1.cells
  dsimp only at c1 c3 c5
  cases b1 with
  | false =>
    go_wp2_with fail
    go_ret
    exact hN.out _ hG1.2.2
  | true =>
    go_wp2_with fail
    refine (hS2.out _ ((hG1.2.1).mono hG1.2.2.size)).mono ?_
    rintro e w2 ⟨b2, rfl, _, hb2⟩
    have hG2 := hG1.step hb2
    clear hG1 hb2 c0 c1 c2 c3 c4 c5
    obtain ⟨c0, c1, c2, c3, c4, c5⟩ := hG2.cells
    dsimp only at c1 c3 c5
    cases b2 with
    | false =>
      go_wp2_with fail
      go_ret
      exact hN.out _ hG2.2.2
    | true =>
      go_wp2_with fail
      clear c0 c1 c2 c3 c4 c5
      go_loopg [3] g.prods.length (fun gk s3 wr => ∃ i : Nat, s3 = .int .i64 i ∧ i + gk = g.prods.length ∧ Hid (∀ p ∈ g.prods.take i, p.right.length ≤ 8) ∧ GB w g ⟨ta, tc, na, nc, pa, pc⟩ wr)
      case atStart => exact ⟨0, rfl, by omega, Lib.hid (by simp), hG2⟩
      case round =>
        clear hG2
        obtain ⟨i, rfl, hi, hr, hG⟩ := hrel
        replace hi := Lib.hid hi
        obtain ⟨c0, c1, c2, c3, c4, c5⟩ := hG.cells
        dsimp only at c1 c3 c5
        by_cases hin : i < g.prods.length
        · have hxi : g.prods[i]? = some g.prods[i] := List.getElem?_eq_getElem hin
          obtain ⟨b, off, hA, hbt, x0, RA, rc, x1, hx2, hx3, hx4⟩ := hG.2.1.prods.get hxi
          dsimp only at hA
          subst hA
          have htk : g.prods.take (i + 1) = g.prods.take i ++ [g.prods[i]] := List.take_succ_eq_append_getElem hin
          generalize g.prods[i] = p at *
          replace hxi := Lib.hid hxi
          replace htk := Lib.hid htk
          unfold maxLen at hx4
          have hz0 : (0 : Int) ≤ i := by omega
          have hz1 : (i : Int) < g.prods.length := by omega
          by_cases h8 : 8 < p.right.length
          · have z8 : (8 : Int) < p.right.length := by omega
            go_wp2_with fail
            go_ret
            exact hN.out _ hG.2.2
          · have z8 : ¬ (8 : Int) < p.right.length := by omega
            have hr2 : Hid (∀ q ∈ g.prods.take (i + 1), q.right.length ≤ 8) := Lib.hid (by
              intro q hq
              rw [htk.out] at hq
              rcases List.mem_append.1 hq with h | h
              · exact hr.out q h
              · simp at h; subst h; omega)
            go_wp2_with fail
            go_roundg (g.prods.length - (i + 1))
            case measure => have := hi.out; omega
            case rel => exact ⟨i + 1, by go_num, by have := hi.out; omega, hr2, hG⟩
        · have hL : Hid (LightP g) := Lib.hid ⟨by omega, by omega, by omega, fun p hp => hr.out p (by rw [List.take_of_length_le (by omega)]; exact hp)⟩
          go_wp2_with fail
          go_ret
          exact hP.out _ hL.out hG.2.2

end Go.Proofs.Ytlngbphchhbpbaa

/- The symbols of a grammar; Check of both sides. -/
namespace Go.Proofs.Ytlngbphchhbpbaa
open Go.ChangeShapes Go.WideShapes Go.ChangeAt Go.RowKit
set_option linter.unusedVariables false

set_option maxHeartbeats 1000000 in
theorem symbol_any (g : Gr) (a : GA) (s : Int) (w : World) (ht : g.toks.length ≤ 1000000) (hn : g.names.length ≤ 1000000) : Calls Try.prog 39 #[gval g a, .int .i64 s] w fun e w' => e = .returned (.bool (syB g s)) ∧ Below w.heap.size w w' := by
  unfold gval gcells syB tmB ntB
  by_cases h1 : 0 ≤ s
  · by_cases h2 : s < (g.toks.length : Int)
    · rw [decide_eq_true ⟨h1, h2⟩, Bool.true_or]
      go_enter Try.func39, Try.ntmps39
      go_wp2_with fail
      go_ret
      exact ⟨rfl, bAlc (Below.refl _ _) _⟩
    · rw [decide_eq_false (fun h : 0 ≤ s ∧ s < (g.toks.length : Int) => h2 h.2), Bool.false_or]
      by_cases h3 : 16 ≤ s
      · by_cases h4 : s < 16 + (g.names.length : Int)
        · rw [decide_eq_true ⟨h3, h4⟩]
          go_enter Try.func39, Try.ntmps39
          go_wp2_with fail
          go_ret
          exact ⟨by simp_all, bAlc (Below.refl _ _) _⟩
        · rw [decide_eq_false (fun h : 16 ≤ s ∧ s < 16 + (g.names.length : Int) => h4 h.2)]
          go_enter Try.func39, Try.ntmps39
          go_wp2_with fail
          go_ret
          exact ⟨by simp_all, bAlc (Below.refl _ _) _⟩
      · rw [decide_eq_false (fun h : 16 ≤ s ∧ s < 16 + (g.names.length : Int) => h3 h.1)]
        go_enter Try.func39, Try.ntmps39
        go_wp2_with fail
        go_ret
        exact ⟨by simp_all, bAlc (Below.refl _ _) _⟩
  · have h3 : ¬ 16 ≤ s := by omega
    rw [decide_eq_false (fun h : 0 ≤ s ∧ s < (g.toks.length : Int) => h1 h.1), decide_eq_false (fun h : 16 ≤ s ∧ s < 16 + (g.names.length : Int) => h3 h.1)]
    go_enter Try.func39, Try.ntmps39
    go_wp2_with fail
    go_ret
    exact ⟨by simp_all, bAlc (Below.refl _ _) _⟩

/-- some string -/
def RetStr (w : World) (e : Ending) (w' : World) : Prop := ∃ s, e = .returned (.string s) ∧ Below w.heap.size w w'
set_option maxHeartbeats 1000000 in
theorem called_any (g : Gr) (a : GA) (s : Int) (w : World) (hg : GrAt w w.heap.size g a) (hs : Small g) (hy : syB g s = true) : Calls Try.prog 58 #[gval g a, .int .i64 s] w (RetStr w) := by
  obtain ⟨ta, tc, na, nc, pa, pc⟩ := a
  have hP := Lib.hid (fun (x : ByteArray) (w' : World) h => (show RetStr w (.returned (.string x)) w' from ⟨x, rfl, h⟩))
  have hG0 := GB.start hg
  have hT := Lib.hid (fun (W : World) => terminal_any g ⟨ta, tc, na, nc, pa, pc⟩ s W (by have := hs.t; omega))
  have hs1 := hs.t
  have hs2 := hs.n
  clear hg hs
  unfold gval at *
  unfold gcells at *
  dsimp only at *
  obtain ⟨c0, c1, c2, c3, c4, c5⟩ := hG0.cells
  dsimp only at c1 c3 c5
  cases ht : tmB g s with
  | true =>
    rw [ht] at hT
    have hb : 0 ≤ s ∧ s < (g.toks.length : Int) := of_decide_eq_true ht
    obtain ⟨j, rfl⟩ := Int.eq_ofNat_of_zero_le hb.1
    have hj : j < g.toks.length := by omega
    go_enter Try.func58, Try.ntmps58
    go_upto_region 2 with (go_at_call 56; refine (hT.out _).mono ?_; rintro e w1 ⟨rfl, hb1⟩)
    have hG1 := hG0.step hb1
    obtain ⟨b, off, hta, hbt, x0⟩ := hG1.2.1.toks.get (show (strs g.toks)[j]? = some (.string g.toks[j]) by rw [strs, List.getElem?_map, List.getElem?_eq_getElem hj]; rfl)
    dsimp only at hta
    subst hta
    generalize g.toks[j] = tx at *
    have hzj : (0 : Int) ≤ j := by omega
    have hzj2 : (j : Int) < g.toks.length := by omega
    clear c0 c1 c2 c3 c4 c5 hG0 hb ht
    obtain ⟨c0, c1, c2, c3, c4, c5⟩ := hG1.cells
    dsimp only at c1 c3 c5
    go_wp2_with fail
    go_ret
    exact hP.out tx _ hG1.2.2
  | false =>
    rw [ht] at hT
    have hn : ntB g s = true := by
      unfold syB at hy
      rw [ht, Bool.false_or] at hy
      exact hy
    have hb : 16 ≤ s ∧ s < 16 + (g.names.length : Int) := of_decide_eq_true hn
    obtain ⟨j, hj0⟩ := Int.eq_ofNat_of_zero_le (show 0 ≤ s - 16 by omega)
    have hj : j < g.names.length := by omega
    go_enter Try.func58, Try.ntmps58
    go_upto_region 3 with (go_at_call 56; refine (hT.out _).mono ?_; rintro e w1 ⟨rfl, hb1⟩)
    have hG1 := hG0.step hb1
    obtain ⟨b, off, hta, hbt, x0⟩ := hG1.2.1.names.get (show (strs g.names)[j]? = some (.string g.names[j]) by rw [strs, List.getElem?_map, List.getElem?_eq_getElem hj]; rfl)
    dsimp only at hta
    subst hta
    generalize g.names[j] = tx at *
    have hzj : (0 : Int) ≤ j := by omega
    have hzj2 : (j : Int) < g.names.length := by omega
    clear c0 c1 c2 c3 c4 c5 hG0 hb ht hn hy
    obtain ⟨c0, c1, c2, c3, c4, c5⟩ := hG1.cells
    dsimp only at c1 c3 c5
    go_wp2_with fail
    go_ret
    exact hP.out tx _ hG1.2.2

/-- some string, and the error E -/
def RetNm (E : Int) (w : World) (e : Ending) (w' : World) : Prop := ∃ s, e = .returned (.tuple #[.string s, .int .i64 E]) ∧ Below w.heap.size w w'
set_option maxHeartbeats 1000000 in
theorem name_any (g : Gr) (a : GA) (s : Int) (w : World) (hg : GrAt w w.heap.size g a) (hok : gchk g = 0) : Calls Try.prog 37 #[gval g a, .int .i64 s] w (RetNm (if syB g s = true then 0 else 14) w) := by
  obtain ⟨ta, tc, na, nc, pa, pc⟩ := a
  have hs := small_of hok
  have hP := Lib.hid (fun (E : Int) (x : ByteArray) (w' : World) h => (show RetNm E w (.returned (.tuple #[.string x, .int .i64 E])) w' from ⟨x, rfl, h⟩))
  have hG0 := GB.start hg
  have hC := Lib.hid (fun (W : World) (h : GrAt W W.heap.size g ⟨ta, tc, na, nc, pa, pc⟩) => gcheck_any g ⟨ta, tc, na, nc, pa, pc⟩ W h hs)
  rw [hok] at hC
  have hT := Lib.hid (fun (W : World) => terminal_any g ⟨ta, tc, na, nc, pa, pc⟩ s W (by have := hs.t; omega))
  have hN := Lib.hid (fun (W : World) => nonterm_any g ⟨ta, tc, na, nc, pa, pc⟩ s W (by have := hs.n; omega))
  have hD := Lib.hid (fun (hy : syB g s = true) (W : World) (h : GrAt W W.heap.size g ⟨ta, tc, na, nc, pa, pc⟩) => called_any g ⟨ta, tc, na, nc, pa, pc⟩ s W h hs hy)
  clear hg hs hok
  unfold gval at *
  unfold gcells at *
  dsimp only at *
  obtain ⟨c0, c1, c2, c3, c4, c5⟩ := hG0.cells
  dsimp only at c1 c3 c5
  have hsy : syB g s = (tmB g s || ntB g s) := rfl
  cases ht : tmB g s with
  | true =>
    rw [ht] at hT
    rw [ht, Bool.true_or] at hsy
    rw [if_pos hsy]
    have hD2 := Lib.hid (hD.out hsy)
    clear hD hsy ht
    go_enter Try.func37, Try.ntmps37
    go_upto_region 2 with (go_at_call 36; refine (hC.out _ (hG0.2.1.mono hG0.2.2.size)).mono ?_; rintro e w1 ⟨rfl, hb1⟩)
    have hG1 := hG0.step hb1
    clear c0 c1 c2 c3 c4 c5 hG0 hb1
    obtain ⟨c0, c1, c2, c3, c4, c5⟩ := hG1.cells
    dsimp only at c1 c3 c5
    go_upto_region 6 with (go_at_call 56; refine (hT.out _).mono ?_; rintro e w2 ⟨rfl, hb2⟩)
    have hG2 := hG1.step hb2
    clear c0 c1 c2 c3 c4 c5 hG1 hb2
    obtain ⟨c0, c1, c2, c3, c4, c5⟩ := hG2.cells
    dsimp only at c1 c3 c5
    go_wp2_with (go_at_call 58; refine (hD2.out _ (hG2.2.1.mono hG2.2.2.size)).mono ?_; rintro e w3 ⟨x, rfl, hb3⟩)
    go_ret2
    exact hP.out 0 x _ (hG2.step hb3).2.2
  | false =>
    rw [ht] at hT
    rw [ht, Bool.false_or] at hsy
    cases hn : ntB g s with
    | true =>
      rw [hn] at hN hsy
      rw [if_pos hsy]
      have hD2 := Lib.hid (hD.out hsy)
      clear hD hsy ht hn
      go_enter Try.func37, Try.ntmps37
      go_upto_region 2 with (go_at_call 36; refine (hC.out _ (hG0.2.1.mono hG0.2.2.size)).mono ?_; rintro e w1 ⟨rfl, hb1⟩)
      have hG1 := hG0.step hb1
      clear c0 c1 c2 c3 c4 c5 hG0 hb1
      obtain ⟨c0, c1, c2, c3, c4, c5⟩ := hG1.cells
      dsimp only at c1 c3 c5
      go_upto_region 6 with (first
        | (go_at_call 56; refine (hT.out _).mono ?_; rintro e w2 ⟨rfl, hb2⟩; have hG2 := hG1.step hb2; clear c0 c1 c2 c3 c4 c5; obtain ⟨c0, c1, c2, c3, c4, c5⟩ := hG2.cells; dsimp only at c1 c3 c5)
        | (go_at_call 57; refine (hN.out _).mono ?_; rintro e w3 ⟨rfl, hb3⟩))
      have hG3 := hG2.step hb3
      clear c0 c1 c2 c3 c4 c5 hG1 hb2 hG2 hb3
      obtain ⟨c0, c1, c2, c3, c4, c5⟩ := hG3.cells
      dsimp only at c1 c3 c5
      go_wp2_with (go_at_call 58; refine (hD2.out _ (hG3.2.1.mono hG3.2.2.size)).mono ?_; rintro e w4 ⟨x, rfl, hb4⟩)
      go_ret2
      exact hP.out 0 x _ (hG3.step hb4).2.2
    | false =>
      rw [hn] at hN hsy
      rw [if_neg (by rw [hsy]; simp)]
      clear hD hsy ht hn
      go_enter Try.func37, Try.ntmps37
      go_upto_region 2 with (go_at_call 36; refine (hC.out _ (hG0.2.1.mono hG0.2.2.size)).mono ?_; rintro e w1 ⟨rfl, hb1⟩)
      have hG1 := hG0.step hb1
      clear c0 c1 c2 c3 c4 c5 hG0 hb1
      obtain ⟨c0, c1, c2, c3, c4, c5⟩ := hG1.cells
      dsimp only at c1 c3 c5
      go_wp2_with (first
        | (go_at_call 56; refine (hT.out _).mono ?_; rintro e w2 ⟨rfl, hb2⟩; have hG2 := hG1.step hb2; clear c0 c1 c2 c3 c4 c5; obtain ⟨c0, c1, c2, c3, c4, c5⟩ := hG2.cells; dsimp only at c1 c3 c5)
        | (go_at_call 57; refine (hN.out _).mono ?_; rintro e w3 ⟨rfl, hb3⟩))
      go_ret2
      exact hP.out 14 _ _ (hG2.step hb3).2.2
end Go.Proofs.Ytlngbphchhbpbaa

/- Check of both sides; Leftmost of both sides. -/
namespace Go.Proofs.Ytlngbphchhbpbaa
open Go.ChangeShapes Go.WideShapes Go.ChangeAt Go.RowKit
set_option linter.unusedVariables false

/-- the error of a form -/
def fchk (g : Gr) (f : List Int) : Int := if gchk g ≠ 0 then gchk g else if 200 < f.length then 6 else if f.all (syB g) = true then 0 else 14
theorem all_take {g : Gr} {f : List Int} {i : Nat} (h : (f.take i).all (syB g) = true) (hi : f.length ≤ i) : f.all (syB g) = true := by rwa [List.take_of_length_le hi] at h
theorem all_bad {g : Gr} {f : List Int} {i : Nat} {s : Int} (hx : f[i]? = some s) (h : syB g s = false) : ¬ f.all (syB g) = true := by
  intro h2
  have := List.all_eq_true.1 h2 s (List.mem_of_getElem? hx)
  rw [h] at this; cases this

set_option maxRecDepth 100000 in
set_option maxHeartbeats 2000000 in
theorem fcheck_any (g : Gr) (a : GA) (A : Option Addr) (k c : Nat) (f : List Int) (w : World) (hg : GrAt w w.heap.size g a) (hs : Small g) (hf : Rd1 w w.heap.size A k (ints f)) (hk : k ≤ maxLen) :
    Calls Try.prog 14 #[gval g a, .slice A k c] w fun e w' => e = .returned (.int .i64 (fchk g f)) ∧ Below w.heap.size w w' := by
  obtain ⟨ta, tc, na, nc, pa, pc⟩ := a
  have hfl : f.length = k := by have := hf.1; simpa [ints] using this
  have hG0 := GB.start hg
  have hC := Lib.hid (fun (W : World) (h : GrAt W W.heap.size g ⟨ta, tc, na, nc, pa, pc⟩) => gcheck_any g ⟨ta, tc, na, nc, pa, pc⟩ W h hs)
  obtain ⟨R, hR⟩ : ∃ R, R = fchk g f := ⟨_, rfl⟩
  rw [← hR]
  unfold fchk at hR
  rw [hfl] at hR
  unfold maxLen at hk
  by_cases hok : gchk g = 0
  · have hN := Lib.hid (fun (s : Int) (W : World) (h : GrAt W W.heap.size g ⟨ta, tc, na, nc, pa, pc⟩) => name_any g ⟨ta, tc, na, nc, pa, pc⟩ s W h hok)
    rw [if_neg (by simpa using hok)] at hR
    rw [hok] at hC
    clear hg hs
    unfold gval at *
    unfold gcells at *
    dsimp only at *
    obtain ⟨c0, c1, c2, c3, c4, c5⟩ := hG0.cells
    dsimp only at c1 c3 c5
    by_cases h200 : 200 < k
    · rw [if_pos h200] at hR
      subst hR
      have hz : (200 : Int) < k := by omega
      go_enter Try.func14, Try.ntmps14
      go_wp2_with (go_at_call 36; refine (hC.out _ (hG0.2.1.mono hG0.2.2.size)).mono ?_; rintro e w1 ⟨rfl, hb1⟩)
      go_ret
      exact ⟨rfl, (hG0.step hb1).2.2⟩
    · rw [if_neg h200] at hR
      have hz : ¬ (200 : Int) < k := by omega
      replace hR := Lib.hid hR
      replace hfl := Lib.hid hfl
      go_enter Try.func14, Try.ntmps14
      go_upto_region 6 with (go_at_call 36; refine (hC.out _ (hG0.2.1.mono hG0.2.2.size)).mono ?_; rintro e w1 ⟨rfl, hb1⟩)
      have hG1 := hG0.step hb1
      clear c0 c1 c2 c3 c4 c5 hG0 hb1
      go_wp2_with fail
      go_loopg [20] k (fun gk s20 wr => ∃ i : Nat, s20 = .int .i64 i ∧ i + gk = k ∧ Hid ((f.take i).all (syB g) = true) ∧ GB w g ⟨ta, tc, na, nc, pa, pc⟩ wr)
      case atStart => exact ⟨0, rfl, by omega, Lib.hid (by simp), hG1⟩
      case round =>
        clear hG1
        obtain ⟨i, rfl, hi, hall, hG⟩ := hrel
        replace hi := Lib.hid hi
        by_cases hin : i < k
        · have hil : i < f.length := by have := hfl.out; omega
          have hx : f[i]? = some f[i] := List.getElem?_eq_getElem hil
          obtain ⟨b, off, rfl, hbt, x0⟩ := (hf.below hG.2.2).get (show (ints f)[i]? = some (.int .i64 f[i]) by rw [ints, List.getElem?_map, hx]; rfl)
          have htk := take_snocG hx
          generalize f[i] = s at *
          have hz0 : (0 : Int) ≤ i := by omega
          have hz1 : (i : Int) < k := by omega
          have hN1 := hN.out s wr (hG.2.1.mono hG.2.2.size)
          obtain ⟨c0, c1, c2, c3, c4, c5⟩ := hG.cells
          dsimp only at c1 c3 c5
          cases hy : syB g s with
          | true =>
            rw [hy, if_pos rfl] at hN1
            have hall2 : Hid ((f.take (i + 1)).all (syB g) = true) := Lib.hid (by rw [htk, List.all_append, hall.out]; simp [hy])
            replace hN1 := Lib.hid hN1
            replace hx := Lib.hid hx
            replace htk := Lib.hid htk
            clear hy
            go_wp2_with (go_at_call 37; refine hN1.out.mono ?_; rintro e w5 ⟨x, rfl, hb5⟩)
            go_roundg (k - (i + 1))
            case measure => have := hi.out; omega
            case rel => exact ⟨i + 1, by go_num, by have := hi.out; omega, hall2, hG.step hb5⟩
          | false =>
            rw [hy, if_neg (by simp)] at hN1
            have hR2 : R = 14 := by rw [hR.out, if_neg (all_bad hx hy)]
            subst hR2
            replace hN1 := Lib.hid hN1
            replace hx := Lib.hid hx
            replace htk := Lib.hid htk
            clear hy
            go_wp2_with (go_at_call 37; refine hN1.out.mono ?_; rintro e w5 ⟨x, rfl, hb5⟩)
            go_ret
            exact ⟨rfl, (hG.step hb5).2.2⟩
        · have hR2 : R = 0 := by rw [hR.out, if_pos (all_take hall.out (by have := hi.out; have := hfl.out; omega))]
          subst hR2
          have hGb := Lib.hid hG.2.2
          go_wp2_with fail
          go_ret
          exact ⟨rfl, hGb.out⟩
  · rw [if_pos (by simpa using hok)] at hR
    rw [← hR] at hC
    have hok2 : (R == 0) = false := by rw [hR]; simpa using hok
    have hok3 : (R != 0) = true := by simpa using hok2
    clear hg hs hok hR
    unfold gval at *
    unfold gcells at *
    dsimp only at *
    obtain ⟨c0, c1, c2, c3, c4, c5⟩ := hG0.cells
    dsimp only at c1 c3 c5
    go_enter Try.func14, Try.ntmps14
    go_wp2_with (go_at_call 36; refine (hC.out _ (hG0.2.1.mono hG0.2.2.size)).mono ?_; rintro e w1 ⟨rfl, hb1⟩)
    go_ret
    exact ⟨rfl, (hG0.step hb1).2.2⟩

set_option maxRecDepth 100000 in
set_option maxHeartbeats 2000000 in
theorem rfcheck_any (g : Gr) (a : GA) (A : Option Addr) (k c : Nat) (f : List Int) (w : World) (hg : GrAt w w.heap.size g a) (hs : Small g) (hf : Rd1 w w.heap.size A k (ints f)) (hk : k ≤ maxLen) :
    Calls Try.prog 15 #[gval g a, .slice A k c] w fun e w' => e = .returned (.int .i64 (fchk g f)) ∧ Below w.heap.size w w' := by
  obtain ⟨ta, tc, na, nc, pa, pc⟩ := a
  have hfl : f.length = k := by have := hf.1; simpa [ints] using this
  have hG0 := GB.start hg
  have hC := Lib.hid (fun (W : World) (h : GrAt W W.heap.size g ⟨ta, tc, na, nc, pa, pc⟩) => rcheckg_any g ⟨ta, tc, na, nc, pa, pc⟩ W h hs)
  obtain ⟨R, hR⟩ : ∃ R, R = fchk g f := ⟨_, rfl⟩
  rw [← hR]
  unfold fchk at hR
  rw [hfl] at hR
  unfold maxLen at hk
  by_cases hok : gchk g = 0
  · have hN := Lib.hid (fun (s : Int) (W : World) => symbol_any g ⟨ta, tc, na, nc, pa, pc⟩ s W (by have := hs.t; omega) (by have := hs.n; omega))
    rw [if_neg (by simpa using hok)] at hR
    rw [hok] at hC
    clear hg hs
    unfold gval at *
    unfold gcells at *
    dsimp only at *
    obtain ⟨c0, c1, c2, c3, c4, c5⟩ := hG0.cells
    dsimp only at c1 c3 c5
    by_cases h200 : 200 < k
    · rw [if_pos h200] at hR
      subst hR
      have hz : (200 : Int) < k := by omega
      go_enter Try.func15, Try.ntmps15
      go_wp2_with (go_at_call 38; refine (hC.out _ (hG0.2.1.mono hG0.2.2.size)).mono ?_; rintro e w1 ⟨rfl, hb1⟩)
      go_ret
      exact ⟨rfl, (hG0.step hb1).2.2⟩
    · rw [if_neg h200] at hR
      have hz : ¬ (200 : Int) < k := by omega
      replace hR := Lib.hid hR
      replace hfl := Lib.hid hfl
      go_enter Try.func15, Try.ntmps15
      go_upto_region 6 with (go_at_call 38; refine (hC.out _ (hG0.2.1.mono hG0.2.2.size)).mono ?_; rintro e w1 ⟨rfl, hb1⟩)
      have hG1 := hG0.step hb1
      clear c0 c1 c2 c3 c4 c5 hG0 hb1
      go_wp2_with fail
      go_loopg [6] k (fun gk s6 wr => ∃ i : Nat, s6 = .int .i64 i ∧ i + gk = k ∧ Hid ((f.take i).all (syB g) = true) ∧ GB w g ⟨ta, tc, na, nc, pa, pc⟩ wr)
      case atStart => exact ⟨0, rfl, by omega, Lib.hid (by simp), hG1⟩
      case round =>
        clear hG1
        obtain ⟨i, rfl, hi, hall, hG⟩ := hrel
        replace hi := Lib.hid hi
        by_cases hin : i < k
        · have hil : i < f.length := by have := hfl.out; omega
          have hx : f[i]? = some f[i] := List.getElem?_eq_getElem hil
          obtain ⟨b, off, rfl, hbt, x0⟩ := (hf.below hG.2.2).get (show (ints f)[i]? = some (.int .i64 f[i]) by rw [ints, List.getElem?_map, hx]; rfl)
          have htk := take_snocG hx
          generalize f[i] = s at *
          have hz0 : (0 : Int) ≤ i := by omega
          have hz1 : (i : Int) < k := by omega
          obtain ⟨c0, c1, c2, c3, c4, c5⟩ := hG.cells
          dsimp only at c1 c3 c5
          go_upto_region 9 with (fail)
          have k0 := cell_kept c0
          have k1 := cell_kept c1
          have k2 := cell_kept c2
          have k3 := cell_kept c3
          have k4 := cell_kept c4
          have k5 := cell_kept c5
          have k6 := cell_kept x0
          have hSk := fun (q : KeptBy wr) => hN.out s q.world
          cases hy : syB g s with
          | true =>
            rw [hy] at hSk
            have hall2 : Hid ((f.take (i + 1)).all (syB g) = true) := Lib.hid (by rw [htk, List.all_append, hall.out]; simp [hy])
            replace hSk := Lib.hid hSk
            replace hx := Lib.hid hx
            replace htk := Lib.hid htk
            clear hy
            refine wp_region_kept (by kernel_rfl) (by kernel_rfl) ?_
            repeat (go_big_quiet_step ((go_at_call 39; exact Calls.kept_by (hSk.out _))))
            refine wpQuiet_nil ?_
            rintro _ ⟨q, rfl⟩
            have hqk := q.kept
            clear hSk k0 k1 k2 k3 k4 k5 k6 c0 c1 c2 c3 c4 c5 x0
            generalize q.world = W2 at hqk
            go_wp2_with fail
            go_roundg (k - (i + 1))
            case measure => have := hi.out; omega
            case rel => exact ⟨i + 1, by go_num, by have := hi.out; omega, hall2, hG.step hqk⟩
          | false =>
            rw [hy] at hSk
            have hR2 : R = 14 := by rw [hR.out, if_neg (all_bad hx hy)]
            subst hR2
            replace hSk := Lib.hid hSk
            replace hx := Lib.hid hx
            replace htk := Lib.hid htk
            clear hy
            refine wp_region_kept (by kernel_rfl) (by kernel_rfl) ?_
            repeat (go_big_quiet_step ((go_at_call 39; exact Calls.kept_by (hSk.out _))))
            refine wpQuiet_nil ?_
            rintro _ ⟨q, rfl⟩
            have hqk := q.kept
            clear hSk k0 k1 k2 k3 k4 k5 k6 c0 c1 c2 c3 c4 c5 x0
            generalize q.world = W2 at hqk
            have hGb := Lib.hid (hG.step hqk).2.2
            go_wp2_with fail
            go_ret
            exact ⟨rfl, hGb.out⟩
        · have hR2 : R = 0 := by rw [hR.out, if_pos (all_take hall.out (by have := hi.out; have := hfl.out; omega))]
          subst hR2
          have hGb := Lib.hid hG.2.2
          go_wp2_with fail
          go_ret
          exact ⟨rfl, hGb.out⟩
  · rw [if_pos (by simpa using hok)] at hR
    rw [← hR] at hC
    have hok2 : (R == 0) = false := by rw [hR]; simpa using hok
    have hok3 : (R != 0) = true := by simpa using hok2
    clear hg hs hok hR
    unfold gval at *
    unfold gcells at *
    dsimp only at *
    obtain ⟨c0, c1, c2, c3, c4, c5⟩ := hG0.cells
    dsimp only at c1 c3 c5
    go_enter Try.func15, Try.ntmps15
    go_wp2_with (go_at_call 38; refine (hC.out _ (hG0.2.1.mono hG0.2.2.size)).mono ?_; rintro e w1 ⟨rfl, hb1⟩)
    go_ret
    exact ⟨rfl, (hG0.step hb1).2.2⟩
end Go.Proofs.Ytlngbphchhbpbaa
