/- Walks and plain laws, part 11 of 11: The errors of follow.Of, Has, Ends, Uses, at any number; The reference 16: one, Of, Has, Ends; The reference 16: Of, Has, Ends; The reference 16: Uses; SmallGrammar: what it lets by; The walk of FollowBehind; Ends and Uses of the reference; equal texts, numbers, sets; A grammar and its copy are the same; All, of the program and of the reference; Spots: their equality; SameSpots; What the questions of FollowSets answer, in all cases; The walk of FollowSets; The look that comes in as an argument: opened. Conditions: none beyond those that each theorem states. -/
import Derived.Test.YtnnkfgekiaaehaaGreatB10
import Derived.Laws.IdiomArrays
/- The errors of follow.Of, Has, Ends, Uses, at any number. -/
namespace Go.Proofs.YtnnkfgekiaaehaaGreat
open Go.ChangeShapes Go.WideShapes Go.ChangeAt Go.RowKit
set_option linter.unusedVariables false

theorem nonE_cases {g : Gr} {s : Int} (h : nonE g s ≠ 0) : (gchk g ≠ 0 ∧ nonE g s = gchk g) ∨ (gchk g = 0 ∧ ntB g s = false ∧ nonE g s = 14) := by
  unfold nonE at h ⊢
  by_cases e : gchk g = 0
  · rw [if_pos e] at h ⊢
    cases hn : ntB g s with
    | true => rw [hn, if_pos rfl] at h; exact absurd rfl h
    | false => right; exact ⟨e, rfl, by simp⟩
  · left; rw [if_neg e]; exact ⟨e, rfl⟩

set_option maxHeartbeats 2000000 in
theorem nonterm42_err (g : Gr) (a : GA) (s : Int) (w : World) (hg : GrAt w w.heap.size g a) (hs : Small g) (hE : nonE g s ≠ 0) :
    Calls Tryz.prog 96 #[gval g a, .int .i64 s] w fun e w' => e = .returned (.tuple #[.int .i64 0, .int .i64 (nonE g s)]) ∧ Below w.heap.size w w' := by
  obtain ⟨ta, tc, na, nc, pa, pc⟩ := a
  have hG0 := GB.start hg
  have hC := Lib.hid (fun W (h : GrAt W W.heap.size g ⟨ta, tc, na, nc, pa, pc⟩) => gcheck_any g ⟨ta, tc, na, nc, pa, pc⟩ W h hs)
  have hN := Lib.hid (fun W => nonterm_any g ⟨ta, tc, na, nc, pa, pc⟩ s W (by have := hs.n; omega))
  clear hg hs
  unfold gval gcells at *
  dsimp only at *
  rcases nonE_cases hE with ⟨h1, h2⟩ | ⟨h1, h2, h3⟩
  · rw [h2]
    obtain ⟨C, hCv⟩ : ∃ C : Int, C = gchk g := ⟨_, rfl⟩
    rw [← hCv] at h1 hC ⊢
    have hzb : (C == 0) = false := by simpa using h1
    have hzn : (C != 0) = true := by simpa using h1
    clear hCv h1 h2 hE
    go_enter Tryz.func96, Tryz.ntmps96
    go_upto_region 1 with (fail)
    generalize w.alloc (.cells #[.int .i64 g.k, .slice ta g.toks.length tc, .string g.sep, .slice na g.names.length nc, .int .i64 g.start, .slice pa g.prods.length pc] 25) = W at *
    obtain ⟨c0, c1, c2, c3, c4, c5⟩ := hG0.cells
    dsimp only at c1 c3 c5
    go_wp2_with (go_at_call 33; refine (hC.out _ (hG0.2.1.mono hG0.2.2.size)).mono ?_; rintro e w1 ⟨rfl, hb1⟩)
    go_ret2
    exact ⟨rfl, (hG0.step hb1).2.2⟩
  · rw [h3]
    rw [h1] at hC
    rw [h2] at hN
    clear h1 h2 h3 hE
    go_enter Tryz.func96, Tryz.ntmps96
    go_upto_region 1 with (fail)
    generalize w.alloc (.cells #[.int .i64 g.k, .slice ta g.toks.length tc, .string g.sep, .slice na g.names.length nc, .int .i64 g.start, .slice pa g.prods.length pc] 25) = W at *
    obtain ⟨c0, c1, c2, c3, c4, c5⟩ := hG0.cells
    dsimp only at c1 c3 c5
    go_wp2_with (first
      | (go_at_call 33; refine (hC.out _ (hG0.2.1.mono hG0.2.2.size)).mono ?_; rintro e w1 ⟨rfl, hb1⟩; have hG1 := hG0.step hb1; obtain ⟨d0, d1, d2, d3, d4, d5⟩ := hG1.cells; dsimp only at d1 d3 d5)
      | (go_at_call 103; refine (hN.out _).mono ?_; rintro e w2 ⟨rfl, hb2⟩))
    go_ret2
    exact ⟨rfl, (hG1.step hb2).2.2⟩
set_option maxHeartbeats 2000000 in
theorem nonterm24_err (g : Gr) (a : GA) (s : Int) (w : World) (hg : GrAt w w.heap.size g a) (hs : Small g) (hE : nonE g s ≠ 0) :
    Calls Tryz.prog 48 #[gval g a, .int .i64 s] w fun e w' => e = .returned (.tuple #[.int .i64 0, .int .i64 (nonE g s)]) ∧ Below w.heap.size w w' := by
  obtain ⟨ta, tc, na, nc, pa, pc⟩ := a
  have hG0 := GB.start hg
  have hC := Lib.hid (fun W (h : GrAt W W.heap.size g ⟨ta, tc, na, nc, pa, pc⟩) => gcheck_any g ⟨ta, tc, na, nc, pa, pc⟩ W h hs)
  have hN := Lib.hid (fun W (h : GrAt W W.heap.size g ⟨ta, tc, na, nc, pa, pc⟩) => nonterm42_err g ⟨ta, tc, na, nc, pa, pc⟩ s W h hs hE)
  clear hg hs
  unfold gval gcells at *
  dsimp only at *
  rcases nonE_cases hE with ⟨h1, h2⟩ | ⟨h1, h2, h3⟩
  · rw [h2]
    obtain ⟨C, hCv⟩ : ∃ C : Int, C = gchk g := ⟨_, rfl⟩
    rw [← hCv] at h1 hC ⊢
    have hzn : (C != 0) = true := by simpa using h1
    clear hCv h1 h2 hE hN
    go_enter Tryz.func48, Tryz.ntmps48
    go_upto_region 1 with (fail)
    generalize w.alloc (.cells #[.int .i64 g.k, .slice ta g.toks.length tc, .string g.sep, .slice na g.names.length nc, .int .i64 g.start, .slice pa g.prods.length pc] 25) = W at *
    obtain ⟨c0, c1, c2, c3, c4, c5⟩ := hG0.cells
    dsimp only at c1 c3 c5
    go_wp2_with (go_at_call 33; refine (hC.out _ (hG0.2.1.mono hG0.2.2.size)).mono ?_; rintro e w1 ⟨rfl, hb1⟩)
    go_ret2
    exact ⟨rfl, (hG0.step hb1).2.2⟩
  · rw [h3] at hN ⊢
    rw [h1] at hC
    clear h1 h2 h3 hE
    go_enter Tryz.func48, Tryz.ntmps48
    go_upto_region 1 with (fail)
    generalize w.alloc (.cells #[.int .i64 g.k, .slice ta g.toks.length tc, .string g.sep, .slice na g.names.length nc, .int .i64 g.start, .slice pa g.prods.length pc] 25) = W at *
    obtain ⟨c0, c1, c2, c3, c4, c5⟩ := hG0.cells
    dsimp only at c1 c3 c5
    go_wp2_with (first
      | (go_at_call 33; refine (hC.out _ (hG0.2.1.mono hG0.2.2.size)).mono ?_; rintro e w1 ⟨rfl, hb1⟩; have hG1 := hG0.step hb1; obtain ⟨d0, d1, d2, d3, d4, d5⟩ := hG1.cells; dsimp only at d1 d3 d5)
      | (go_at_call 96; refine (hN.out _ (hG1.2.1.mono hG1.2.2.size)).mono ?_; rintro e w2 ⟨rfl, hb2⟩))
    go_ret2
    exact ⟨rfl, (hG1.step hb2).2.2⟩

set_option maxHeartbeats 2000000 in
theorem of_err (g : Gr) (a : GA) (s : Int) (w : World) (hg : GrAt w w.heap.size g a) (hs : Small g) (hE : nonE g s ≠ 0) :
    Calls Tryz.prog 21 #[gval g a, .int .i64 s] w fun e w' => e = .returned (.tuple #[.slice none 0 0, .int .i64 (nonE g s)]) ∧ Below w.heap.size w w' := by
  obtain ⟨ta, tc, na, nc, pa, pc⟩ := a
  have hG0 := GB.start hg
  have hN := Lib.hid (fun W (h : GrAt W W.heap.size g ⟨ta, tc, na, nc, pa, pc⟩) => nonterm24_err g ⟨ta, tc, na, nc, pa, pc⟩ s W h hs hE)
  clear hg hs
  unfold gval gcells at *
  dsimp only at *
  obtain ⟨E, hE0⟩ : ∃ E, E = nonE g s := ⟨_, rfl⟩
  rw [← hE0] at hN hE ⊢
  have hEb : (E != 0) = true := by simpa using hE
  clear hE0 hE
  go_enter Tryz.func21, Tryz.ntmps21
  go_wp2_with (go_at_call 48; refine (hN.out _ ((hG0.2.1).mono hG0.2.2.size)).mono ?_; rintro e w1 ⟨rfl, hb1⟩)
  go_ret2
  exact ⟨rfl, (hG0.step hb1).2.2⟩
set_option maxHeartbeats 2000000 in
theorem has_err (g : Gr) (a : GA) (s : Int) (x : Lk) (w : World) (hg : GrAt w w.heap.size g a) (hs : Small g) (hE : nonE g s ≠ 0) :
    Calls Tryz.prog 13 #[gval g a, .int .i64 s, x.v] w fun e w' => e = .returned (.tuple #[.bool false, .int .i64 (nonE g s)]) ∧ Below w.heap.size w w' := by
  obtain ⟨ta, tc, na, nc, pa, pc⟩ := a
  have hG0 := (GB.start hg).alloc (.cells x.cells 41)
  have hN := Lib.hid (fun W (h : GrAt W W.heap.size g ⟨ta, tc, na, nc, pa, pc⟩) => nonterm24_err g ⟨ta, tc, na, nc, pa, pc⟩ s W h hs hE)
  clear hg hs
  unfold gval gcells at *
  unfold Lk.cells at *
  unfold Lk.v at *
  dsimp only at *
  obtain ⟨E, hE0⟩ : ∃ E, E = nonE g s := ⟨_, rfl⟩
  rw [← hE0] at hN hE ⊢
  have hEb : (E != 0) = true := by simpa using hE
  clear hE0 hE
  go_enter Tryz.func13, Tryz.ntmps13
  go_upto_region 1 with (fail)
  generalize (w.alloc (.cells #[.int .i64 g.k, .slice ta g.toks.length tc, .string g.sep, .slice na g.names.length nc, .int .i64 g.start, .slice pa g.prods.length pc] 25)).alloc (.cells #[.int .i64 x.n, .int .i64 x.a, .int .i64 x.b, .int .i64 x.c, .int .i64 x.d] 41) = W at *
  obtain ⟨c0, c1, c2, c3, c4, c5⟩ := hG0.cells
  dsimp only at c1 c3 c5
  go_wp2_with (go_at_call 48; refine (hN.out _ ((hG0.2.1).mono hG0.2.2.size)).mono ?_; rintro e w1 ⟨rfl, hb1⟩)
  go_ret2
  exact ⟨rfl, (hG0.step hb1).2.2⟩
set_option maxHeartbeats 2000000 in
theorem has_bad (g : Gr) (a : GA) (s : Int) (x : Lk) (w : World) (hg : GrAt w w.heap.size g a) (hok : gchk g = 0) (hs : ntB g s = true) (hx : x.wf) (hE : lchk x g.toks.length ≠ 0) :
    Calls Tryz.prog 13 #[gval g a, .int .i64 s, x.v] w fun e w' => e = .returned (.tuple #[.bool false, .int .i64 (lchk x g.toks.length)]) ∧ Below w.heap.size w w' := by
  obtain ⟨ta, tc, na, nc, pa, pc⟩ := a
  have hb := nt_bd hs
  have hn8 := (gok_of hok).nm
  have hG0 := (GB.start hg).alloc (.cells x.cells 41)
  have q5 : Blk ((w.alloc (.cells (gcells g ⟨ta, tc, na, nc, pa, pc⟩) 25)).alloc (.cells x.cells 41)) (w.heap.size + 1) 41 x.cells := Blk.newAt _ _ _ _ (by simp)
  have hN := Lib.hid (fun (W : World) (h : GrAt W W.heap.size g ⟨ta, tc, na, nc, pa, pc⟩) => nonterm24_any g ⟨ta, tc, na, nc, pa, pc⟩ s W h (small_of hok) (by omega) (by omega))
  rw [(nonE_ok hok hs).1, (nonE_ok hok hs).2] at hN
  have hCh := Lib.hid (fun (W : World) => lcheck60_any x g.toks.length W hx)
  obtain ⟨E, hE0⟩ : ∃ E, E = lchk x g.toks.length := ⟨_, rfl⟩
  rw [← hE0] at hCh hE ⊢
  have hEb : (E != 0) = true := by simpa using hE
  clear hE0 hE hg hok hs hx
  unfold gval gcells at *
  unfold Lk.cells at *
  unfold Lk.v at *
  dsimp only at *
  go_enter Tryz.func13, Tryz.ntmps13
  go_upto_region 1 with (fail)
  generalize (w.alloc (.cells #[.int .i64 g.k, .slice ta g.toks.length tc, .string g.sep, .slice na g.names.length nc, .int .i64 g.start, .slice pa g.prods.length pc] 25)).alloc (.cells #[.int .i64 x.n, .int .i64 x.a, .int .i64 x.b, .int .i64 x.c, .int .i64 x.d] 41) = W at *
  obtain ⟨c0, c1, c2, c3, c4, c5⟩ := hG0.cells
  dsimp only at c1 c3 c5
  go_upto_region 4 with (go_at_call 48; refine (hN.out _ ((hG0.2.1).mono hG0.2.2.size)).mono ?_; rintro e w1 ⟨rfl, hb1⟩)
  have hG1 := hG0.step hb1
  have q6 := q5.step hb1
  clear hG0 hb1 c0 c1 c2 c3 c4 c5 q5
  obtain ⟨c0, c1, c2, c3, c4, c5⟩ := hG1.cells
  dsimp only at c1 c3 c5
  have d0 := q6.cell 0
  have d1 := q6.cell 1
  have d2 := q6.cell 2
  have d3 := q6.cell 3
  have d4 := q6.cell 4
  simp only [List.getElem?_toArray, List.getElem?_cons_zero, List.getElem?_cons_succ] at d0 d1 d2 d3 d4
  go_wp2_with (go_at_call 49; refine (hCh.out _).mono ?_; rintro e w2 ⟨rfl, hb2⟩)
  go_ret2
  exact ⟨rfl, (hG1.step hb2).2.2⟩
set_option maxHeartbeats 2000000 in
theorem ends_err (g : Gr) (a : GA) (s : Int) (w : World) (hg : GrAt w w.heap.size g a) (hs : Small g) (hE : nonE g s ≠ 0) :
    Calls Tryz.prog 24 #[gval g a, .int .i64 s] w fun e w' => e = .returned (.tuple #[.bool false, .int .i64 (nonE g s)]) ∧ Below w.heap.size w w' := by
  obtain ⟨ta, tc, na, nc, pa, pc⟩ := a
  have hH := Lib.hid (fun (W : World) (h : GrAt W W.heap.size g ⟨ta, tc, na, nc, pa, pc⟩) => has_err g ⟨ta, tc, na, nc, pa, pc⟩ s (Lk.of []) W h hs hE)
  have hG0 := GB.start hg
  clear hg hs
  unfold gval gcells at *
  dsimp only at *
  have hz : (Lk.of []).v = .agg #[.int .i64 0, .int .i64 0, .int .i64 0, .int .i64 0, .int .i64 0] := rfl
  rw [hz] at hH
  clear hz
  generalize nonE g s = E at *
  go_enter Tryz.func24, Tryz.ntmps24
  go_wp2_with (go_at_call 13; refine (hH.out _ ((hG0.2.1).mono hG0.2.2.size)).mono ?_; rintro e w1 ⟨rfl, hb1⟩)
  go_ret2
  exact ⟨rfl, (hG0.step hb1).2.2⟩
set_option maxHeartbeats 2000000 in
theorem uses_err (g : Gr) (a : GA) (s : Int) (w : World) (hg : GrAt w w.heap.size g a) (hs : Small g) (hE : nonE g s ≠ 0) :
    Calls Tryz.prog 26 #[gval g a, .int .i64 s] w fun e w' => e = .returned (.tuple #[.slice none 0 0, .int .i64 (nonE g s)]) ∧ Below w.heap.size w w' := by
  obtain ⟨ta, tc, na, nc, pa, pc⟩ := a
  have hG0 := (GB.start hg).alloc (.cells #[.int .i64 s] 3)
  have q5 : Blk ((w.alloc (.cells (gcells g ⟨ta, tc, na, nc, pa, pc⟩) 25)).alloc (.cells #[.int .i64 s] 3)) (w.heap.size + 1) 3 #[.int .i64 s] := Blk.newAt _ _ _ _ (by simp)
  have hN := Lib.hid (fun W (h : GrAt W W.heap.size g ⟨ta, tc, na, nc, pa, pc⟩) => nonterm24_err g ⟨ta, tc, na, nc, pa, pc⟩ s W h hs hE)
  clear hg hs
  unfold gval gcells at *
  dsimp only at *
  obtain ⟨E, hE0⟩ : ∃ E, E = nonE g s := ⟨_, rfl⟩
  rw [← hE0] at hN hE ⊢
  have hEb : (E != 0) = true := by simpa using hE
  clear hE0 hE
  go_enter Tryz.func26, Tryz.ntmps26
  go_upto_region 1 with (fail)
  generalize (w.alloc (.cells #[.int .i64 g.k, .slice ta g.toks.length tc, .string g.sep, .slice na g.names.length nc, .int .i64 g.start, .slice pa g.prods.length pc] 25)).alloc (.cells #[.int .i64 s] 3) = W at *
  obtain ⟨c0, c1, c2, c3, c4, c5⟩ := hG0.cells
  dsimp only at c1 c3 c5
  have d0 := q5.cell 0
  simp only [List.getElem?_toArray, List.getElem?_cons_zero] at d0
  go_wp2_with (go_at_call 48; refine (hN.out _ ((hG0.2.1).mono hG0.2.2.size)).mono ?_; rintro e w1 ⟨rfl, hb1⟩)
  go_ret2
  exact ⟨rfl, (hG0.step hb1).2.2⟩
end Go.Proofs.YtnnkfgekiaaehaaGreat

/- The reference 16: one, Of, Has, Ends. -/
namespace Go.Proofs.YtnnkfgekiaaehaaGreat
open Go.ChangeShapes Go.WideShapes Go.ChangeAt Go.RowKit
set_option linter.unusedVariables false

set_option maxHeartbeats 1000000 in
theorem refhas_any (A : Option Addr) (n c : Nat) (l : List Lk) (x : Lk) (w : World) (ha : RdL w w.heap.size A n l) (hr : ∀ y ∈ l, y.wf) (hx : x.wf) (hm : n ≤ maxLen) :
    Calls Tryz.prog 56 #[.slice A n c, x.v] w fun e w' => e = .returned (.bool (decide (x ∈ l))) ∧ Below w.heap.size w w' := by
  have hl := Lib.hid ha.1
  obtain ⟨R, hR⟩ : ∃ R, R = decide (x ∈ l) := ⟨_, rfl⟩
  rw [← hR]
  replace hR := Lib.hid hR
  have hE := Lib.hid (fun (y : Lk) (hy : y ∈ l) (w : World) => look_eql y x (hr y hy) hx w)
  have ha' := ha.below ((Below.refl w.heap.size w).alloc (Nat.le_refl _) (.cells x.cells 41))
  clear ha
  have q0 := Blk.new w 41 x.cells
  have hb0 := bAlc (Below.refl w.heap.size w) (.cells x.cells 41)
  unfold Lk.cells at ha' q0 hb0
  unfold Lk.v at *
  unfold maxLen at hm
  go_enter Tryz.func56, Tryz.ntmps56
  go_wp2_with fail
  go_loopg [5] n (fun gk s5 wr => ∃ i : Nat, s5 = .int .i64 i ∧ i + gk = n ∧ x ∉ l.take i ∧ Blk wr w.heap.size 41 #[.int .i64 x.n, .int .i64 x.a, .int .i64 x.b, .int .i64 x.c, .int .i64 x.d] ∧ RdL wr w.heap.size A n l ∧ Below w.heap.size w wr)
  case atStart => exact ⟨0, rfl, by omega, by simp, q0, ha', hb0⟩
  case round =>
    clear ha' q0 hb0
    obtain ⟨i, rfl, hi, hni, q0, ha, hb⟩ := hrel
    replace hi := Lib.hid hi
    replace hni := Lib.hid hni
    by_cases hin : i < n
    · have hil : i < l.length := by have := hl.out; omega
      have hyi : l[i]? = some l[i] := List.getElem?_eq_getElem hil
      obtain ⟨b, off, rfl, hbt, x0, x1, x2, x3, x4⟩ := ha.get hyi
      have hmem := List.getElem_mem hil
      have htk : l.take (i + 1) = l.take i ++ [l[i]] := List.take_succ_eq_append_getElem hil
      have hee := hE.out l[i] hmem
      generalize hy : l[i] = y at *
      replace hy := Lib.hid hy
      replace hyi := Lib.hid hyi
      replace htk := Lib.hid htk
      replace hmem := Lib.hid hmem
      have q00 := q0.cell 0
      have q01 := q0.cell 1
      have q02 := q0.cell 2
      have q03 := q0.cell 3
      have q04 := q0.cell 4
      have hzi : (0 : Int) ≤ i := by omega
      have hzn : (i : Int) < n := by omega
      simp only [List.getElem?_toArray, List.getElem?_cons_zero, List.getElem?_cons_succ] at q00 q01 q02 q03 q04
      by_cases hyx : y = x
      · have hRT : R = true := by rw [hR.out]; exact decide_eq_true (by rw [← hyx]; exact hmem.out)
        subst hRT
        simp only [hyx, decide_true] at hee
        subst hyx
        go_wp2_with fail
        go_quiet (fail)
        go_wp2_with fail
        go_ret
        exact ⟨rfl, bDrwN hb _⟩
      · simp only [hyx, decide_false] at hee
        have hG := Lib.hid (show x ∉ l.take (i + 1) by rw [htk.out]; simp; exact ⟨hni.out, fun e => hyx e.symm⟩)
        clear hyx
        go_wp2_with fail
        go_quiet (fail)
        go_wp2_with fail
        go_roundg (n - (i + 1))
        case measure => have := hi.out; omega
        case rel => exact ⟨i + 1, by go_num, by have := hi.out; omega, hG.out, q0.drewN _, ha.below (bDrwN' _ _), bDrwN hb _⟩
    · have hRF : R = false := by
        rw [hR.out]; apply decide_eq_false
        have := hni.out
        rwa [List.take_of_length_le (by have := hl.out; omega)] at this
      subst hRF
      go_wp2_with fail
      go_ret
      exact ⟨rfl, hb⟩

/-- what one hands back -/
def RetOn (g : Gr) (s : Int) (w : World) (e : Ending) (w' : World) : Prop := ∃ L A c, e = .returned (.tuple #[.slice A L.length c, .int .i64 0]) ∧ FSet g s L ∧ SetAt w' g.toks.length A L.length c L ∧ Below w.heap.size w w'

set_option maxHeartbeats 2000000 in
theorem one_err (g : Gr) (a : GA) (s : Int) (w : World) (hg : GrAt w w.heap.size g a) (hs : Small g) (hE : nonE g s ≠ 0) :
    Calls Tryz.prog 54 #[gval g a, .int .i64 s] w fun e w' => e = .returned (.tuple #[.slice none 0 0, .int .i64 (nonE g s)]) ∧ Below w.heap.size w w' := by
  obtain ⟨ta, tc, na, nc, pa, pc⟩ := a
  have hG0 := GB.start hg
  have hC := Lib.hid (fun W (h : GrAt W W.heap.size g ⟨ta, tc, na, nc, pa, pc⟩) => rcheckg_any g ⟨ta, tc, na, nc, pa, pc⟩ W h hs)
  have hnl := hs.n
  clear hg hs
  unfold gval gcells at *
  dsimp only at *
  rcases nonE_cases hE with ⟨h1, h2⟩ | ⟨h1, h2, h3⟩
  · rw [h2]
    obtain ⟨C, hCv⟩ : ∃ C : Int, C = gchk g := ⟨_, rfl⟩
    rw [← hCv] at h1 hC ⊢
    have hzn : (C != 0) = true := by simpa using h1
    clear hCv h1 h2 hE
    go_enter Tryz.func54, Tryz.ntmps54
    go_wp2_with (go_at_call 39; refine (hC.out _ (hG0.2.1.mono hG0.2.2.size)).mono ?_; rintro e w1 ⟨rfl, hb1⟩)
    go_ret2
    exact ⟨rfl, (hG0.step hb1).2.2⟩
  · rw [h3]
    rw [h1] at hC
    have h4 : s < 16 ∨ 16 + (g.names.length : Int) ≤ s := by
      have := of_decide_eq_false h2
      omega
    clear h1 h2 h3 hE
    go_enter Tryz.func54, Tryz.ntmps54
    go_upto_region 4 with (go_at_call 39; refine (hC.out _ (hG0.2.1.mono hG0.2.2.size)).mono ?_; rintro e w1 ⟨rfl, hb1⟩)
    have hG1 := hG0.step hb1
    clear hG0 hb1
    obtain ⟨c0, c1, c2, c3, c4, c5⟩ := hG1.cells
    dsimp only at c1 c3 c5
    by_cases h5 : s < 16
    · clear h4
      go_wp2_with fail
      go_ret2
      exact ⟨rfl, hG1.2.2⟩
    · have h6 : 16 + (g.names.length : Int) ≤ s := by omega
      clear h4
      go_wp2_with fail
      go_ret2
      exact ⟨rfl, hG1.2.2⟩
set_option maxHeartbeats 2000000 in
theorem one_any (g : Gr) (a : GA) (s : Int) (w : World) (hg : GrAt w w.heap.size g a) (hok : gchk g = 0) (hs : ntB g s = true) : Calls Tryz.prog 54 #[gval g a, .int .i64 s] w (RetOn g s w) := by
  obtain ⟨ta, tc, na, nc, pa, pc⟩ := a
  have hb := nt_bd hs
  have hk := gok_of hok
  have hn8 := hk.nm
  have hG0 := GB.start hg
  have hC := Lib.hid (fun W (h : GrAt W W.heap.size g ⟨ta, tc, na, nc, pa, pc⟩) => rcheckg_any g ⟨ta, tc, na, nc, pa, pc⟩ W h (small_of hok))
  rw [hok] at hC
  have hF := Lib.hid (fun W (h : GrAt W W.heap.size g ⟨ta, tc, na, nc, pa, pc⟩) => follows_any g ⟨ta, tc, na, nc, pa, pc⟩ g.k.toNat hk W h)
  have hSet := Lib.hid (fun (ss fs : List (List Lk)) h1 h2 h3 h4 h5 h6 y => retA_set hok hs (ss := ss) (fs := fs) h1 h2 h3 h4 h5 h6 y)
  have hP := Lib.hid (fun (L : List Lk) (A : Option Addr) (c : Nat) (w' : World) (h1 : FSet g s L) (h2 : SetAt w' g.toks.length A L.length c L) (h3 : Below w.heap.size w w') => (show RetOn g s w (.returned (.tuple #[.slice A L.length c, .int .i64 0])) w' from ⟨L, A, c, rfl, h1, h2, h3⟩))
  obtain ⟨ix, hix⟩ := Int.eq_ofNat_of_zero_le (show 0 ≤ s - 16 by omega)
  have hixn : (s - 16).toNat = ix := by omega
  have hixi : ix < g.names.length := by omega
  have hzx : (0 : Int) ≤ ix := by omega
  have hzy : (ix : Int) < g.names.length := by omega
  have zw : IntKind.i64.wrap (s - 16) = (ix : Int) := by rw [hix]; exact IntWalk.i64_in _ (by omega)
  have h16 : ¬ s < 16 := by omega
  have h17 : ¬ 16 + (g.names.length : Int) ≤ s := by omega
  rw [hixn] at hSet
  have hn9 : g.names.length ≤ 8 := hn8.2
  clear hg hok hs hk hb hn8
  replace hix := Lib.hid hix
  replace hixn := Lib.hid hixn
  unfold gval gcells at *
  dsimp only at *
  go_enter Tryz.func54, Tryz.ntmps54
  go_upto_region 6 with (go_at_call 39; refine (hC.out _ (hG0.2.1.mono hG0.2.2.size)).mono ?_; rintro e w1 ⟨rfl, hb1⟩; have hG1 := hG0.step hb1; obtain ⟨d0, d1, d2, d3, d4, d5⟩ := hG1.cells; dsimp only at d1 d3 d5)
  clear hG0
  go_wp2_with (go_at_call 43; refine (hF.out _ (hG1.2.1.mono hG1.2.2.size)).mono ?_; rintro e w2 ⟨bo, fs, ss, rfl, hS, f1, f2, f3, f4, f5, f6, hb2⟩; obtain ⟨A, c, hcx, _, hA⟩ := hS.get ix hixi; have hL : Hid (FSet g s (fs.getD ix [])) := Lib.hid ⟨hA.asc, hSet.out ss fs f3 f4 f5 f1 f2 f6⟩; generalize fs.getD ix [] = L at *)
  go_ret2
  exact hP.out _ _ _ _ hL.out hA (hG1.step hb2).2.2
end Go.Proofs.YtnnkfgekiaaehaaGreat

/- The reference 16: Of, Has, Ends. -/
namespace Go.Proofs.YtnnkfgekiaaehaaGreat
open Go.ChangeShapes Go.WideShapes Go.ChangeAt Go.RowKit
set_option linter.unusedVariables false

set_option maxHeartbeats 2000000 in
theorem refof2_err (g : Gr) (a : GA) (s : Int) (w : World) (hg : GrAt w w.heap.size g a) (hs : Small g) (hE : nonE g s ≠ 0) :
    Calls Tryz.prog 22 #[gval g a, .int .i64 s] w fun e w' => e = .returned (.tuple #[.slice none 0 0, .int .i64 (nonE g s)]) ∧ Below w.heap.size w w' := by
  obtain ⟨ta, tc, na, nc, pa, pc⟩ := a
  have hG0 := GB.start hg
  have hO := Lib.hid (fun W (h : GrAt W W.heap.size g ⟨ta, tc, na, nc, pa, pc⟩) => one_err g ⟨ta, tc, na, nc, pa, pc⟩ s W h hs hE)
  clear hg hs
  unfold gval gcells at *
  dsimp only at *
  obtain ⟨E, hE0⟩ : ∃ E, E = nonE g s := ⟨_, rfl⟩
  rw [← hE0] at hO hE ⊢
  have hEb : (E != 0) = true := by simpa using hE
  have hEc : (E == 0) = false := by simpa using hE
  clear hE0 hE
  go_enter Tryz.func22, Tryz.ntmps22
  go_wp2_with (go_at_call 54; refine (hO.out _ (hG0.2.1.mono hG0.2.2.size)).mono ?_; rintro e w1 ⟨rfl, hb1⟩)
  go_ret2
  exact ⟨rfl, (hG0.step hb1).2.2⟩
set_option maxHeartbeats 2000000 in
theorem refof2_any (g : Gr) (a : GA) (s : Int) (w : World) (hg : GrAt w w.heap.size g a) (hok : gchk g = 0) (hs : ntB g s = true) (hfew : Few g s) : Calls Tryz.prog 22 #[gval g a, .int .i64 s] w (RetOn g s w) := by
  obtain ⟨ta, tc, na, nc, pa, pc⟩ := a
  have hG0 := GB.start hg
  have hO := Lib.hid (fun W (h : GrAt W W.heap.size g ⟨ta, tc, na, nc, pa, pc⟩) => one_any g ⟨ta, tc, na, nc, pa, pc⟩ s W h hok hs)
  have hP := Lib.hid (fun (L : List Lk) (A : Option Addr) (c : Nat) (w' : World) (h1 : FSet g s L) (h2 : SetAt w' g.toks.length A L.length c L) (h3 : Below w.heap.size w w') => (show RetOn g s w (.returned (.tuple #[.slice A L.length c, .int .i64 0])) w' from ⟨L, A, c, rfl, h1, h2, h3⟩))
  have hfew' := Lib.hid hfew
  clear hg hok hs hfew
  unfold gval gcells at *
  dsimp only at *
  go_enter Tryz.func22, Tryz.ntmps22
  go_wp2_with (go_at_call 54; refine (hO.out _ (hG0.2.1.mono hG0.2.2.size)).mono ?_; rintro e w1 ⟨L, A, c, rfl, hL, hA, hb1⟩; have hz : ¬ (600 : Int) < L.length := (by have := hfew'.out L (asc_nodup hL.1) fun y hy => (hL.2 y).1 hy; omega); replace hL := Lib.hid hL)
  go_ret2
  exact hP.out _ _ _ _ hL.out hA (hG0.step hb1).2.2
set_option maxHeartbeats 2000000 in
theorem refhas_err (g : Gr) (a : GA) (s : Int) (x : Lk) (w : World) (hg : GrAt w w.heap.size g a) (hs : Small g) (hE : nonE g s ≠ 0) :
    Calls Tryz.prog 23 #[gval g a, .int .i64 s, x.v] w fun e w' => e = .returned (.tuple #[.bool false, .int .i64 (nonE g s)]) ∧ Below w.heap.size w w' := by
  obtain ⟨ta, tc, na, nc, pa, pc⟩ := a
  have hG0 := (GB.start hg).alloc (.cells x.cells 41)
  have hO := Lib.hid (fun W (h : GrAt W W.heap.size g ⟨ta, tc, na, nc, pa, pc⟩) => one_err g ⟨ta, tc, na, nc, pa, pc⟩ s W h hs hE)
  clear hg hs
  unfold gval gcells at *
  unfold Lk.cells at *
  unfold Lk.v at *
  dsimp only at *
  obtain ⟨E, hE0⟩ : ∃ E, E = nonE g s := ⟨_, rfl⟩
  rw [← hE0] at hO hE ⊢
  have hEb : (E != 0) = true := by simpa using hE
  have hEc : (E == 0) = false := by simpa using hE
  clear hE0 hE
  go_enter Tryz.func23, Tryz.ntmps23
  go_upto_region 1 with (fail)
  generalize (w.alloc (.cells #[.int .i64 g.k, .slice ta g.toks.length tc, .string g.sep, .slice na g.names.length nc, .int .i64 g.start, .slice pa g.prods.length pc] 25)).alloc (.cells #[.int .i64 x.n, .int .i64 x.a, .int .i64 x.b, .int .i64 x.c, .int .i64 x.d] 41) = W at *
  obtain ⟨c0, c1, c2, c3, c4, c5⟩ := hG0.cells
  dsimp only at c1 c3 c5
  go_wp2_with (go_at_call 54; refine (hO.out _ (hG0.2.1.mono hG0.2.2.size)).mono ?_; rintro e w1 ⟨rfl, hb1⟩)
  go_ret2
  exact ⟨rfl, (hG0.step hb1).2.2⟩
set_option maxHeartbeats 4000000 in
theorem refhas2_any (g : Gr) (a : GA) (s : Int) (x : Lk) (w : World) (hg : GrAt w w.heap.size g a) (hok : gchk g = 0) (hs : ntB g s = true) (hx : x.wf) :
    Calls Tryz.prog 23 #[gval g a, .int .i64 s, x.v] w fun e w' => ∃ b : Bool, e = .returned (.tuple #[.bool b, .int .i64 (lchk x g.toks.length)]) ∧ (if lchk x g.toks.length = 0 then (b = true ↔ FO g.prods g.k.toNat g.start s x) else b = false) ∧ Below w.heap.size w w' := by
  obtain ⟨ta, tc, na, nc, pa, pc⟩ := a
  have hG0 := (GB.start hg).alloc (.cells x.cells 41)
  have q5 : Blk ((w.alloc (.cells (gcells g ⟨ta, tc, na, nc, pa, pc⟩) 25)).alloc (.cells x.cells 41)) (w.heap.size + 1) 41 x.cells := Blk.newAt _ _ _ _ (by simp)
  have hO := Lib.hid (fun W (h : GrAt W W.heap.size g ⟨ta, tc, na, nc, pa, pc⟩) => one_any g ⟨ta, tc, na, nc, pa, pc⟩ s W h hok hs)
  have hCh := Lib.hid (fun (W : World) => lcheck_any x g.toks.length W)
  have hH := Lib.hid (fun (A : Option Addr) (c : Nat) (L : List Lk) (W : World) (h : SetAt W g.toks.length A L.length c L) => refhas_any A L.length c L x W h.rd (fun y hy => right_wf (h.right y hy)) hx (by have := h.n4; unfold maxLen; omega))
  obtain ⟨E, hE0⟩ : ∃ E, E = lchk x g.toks.length := ⟨_, rfl⟩
  rw [← hE0] at hCh ⊢
  clear hE0 hg hok hs
  have hP : Hid (∀ (b : Bool) (w' : World), (if E = 0 then (b = true ↔ FO g.prods g.k.toNat g.start s x) else b = false) → Below w.heap.size w w' → (fun (e : Ending) (w' : World) => ∃ b : Bool, e = .returned (.tuple #[.bool b, .int .i64 E]) ∧ (if E = 0 then (b = true ↔ FO g.prods g.k.toNat g.start s x) else b = false) ∧ Below w.heap.size w w') (.returned (.tuple #[.bool b, .int .i64 E])) w') := Lib.hid fun b w' h1 h2 => ⟨b, rfl, h1, h2⟩
  generalize (fun (e : Ending) (w' : World) => ∃ b : Bool, e = .returned (.tuple #[.bool b, .int .i64 E]) ∧ (if E = 0 then (b = true ↔ FO g.prods g.k.toNat g.start s x) else b = false) ∧ Below w.heap.size w w') = PP at *
  unfold gval gcells at *
  unfold Lk.cells at *
  unfold Lk.v at *
  dsimp only at *
  go_enter Tryz.func23, Tryz.ntmps23
  go_upto_region 1 with (fail)
  generalize (w.alloc (.cells #[.int .i64 g.k, .slice ta g.toks.length tc, .string g.sep, .slice na g.names.length nc, .int .i64 g.start, .slice pa g.prods.length pc] 25)).alloc (.cells #[.int .i64 x.n, .int .i64 x.a, .int .i64 x.b, .int .i64 x.c, .int .i64 x.d] 41) = W at *
  obtain ⟨c0, c1, c2, c3, c4, c5⟩ := hG0.cells
  dsimp only at c1 c3 c5
  go_wp2_with fail
  refine (hO.out _ (hG0.2.1.mono hG0.2.2.size)).mono ?_
  rintro e w1 ⟨L, A, c, rfl, hL, hA, hb1⟩
  have hG1 := hG0.step hb1
  have q6 := q5.step hb1
  clear hG0 hb1 c0 c1 c2 c3 c4 c5 q5
  obtain ⟨c0, c1, c2, c3, c4, c5⟩ := hG1.cells
  dsimp only at c1 c3 c5
  have d0 := q6.cell 0
  have d1 := q6.cell 1
  have d2 := q6.cell 2
  have d3 := q6.cell 3
  have d4 := q6.cell 4
  simp only [List.getElem?_toArray, List.getElem?_cons_zero, List.getElem?_cons_succ] at d0 d1 d2 d3 d4
  replace hL := Lib.hid hL
  go_wp2_with fail
  refine (hCh.out _).mono ?_
  rintro e w2 ⟨rfl, hb2⟩
  have hG2 := hG1.step hb2
  have q7 := q6.step hb2
  have hA2 := Lib.hid (hA.step hb2)
  have hbW := Lib.hid hG2.2.2
  clear hG1 hb2 c0 c1 c2 c3 c4 c5 q6 d0 d1 d2 d3 d4 hA hG2
  have d0 := q7.cell 0
  have d1 := q7.cell 1
  have d2 := q7.cell 2
  have d3 := q7.cell 3
  have d4 := q7.cell 4
  simp only [List.getElem?_toArray, List.getElem?_cons_zero, List.getElem?_cons_succ] at d0 d1 d2 d3 d4
  by_cases hz : E = 0
  · subst hz
    simp only [if_true] at hP
    go_wp2_with fail
    refine (hH.out A c L _ hA2.out).mono ?_
    rintro e w3 ⟨rfl, hb3⟩
    have hfin : Hid (decide (x ∈ L) = true ↔ FO g.prods g.k.toNat g.start s x) := Lib.hid (by rw [decide_eq_true_iff]; exact hL.out.2 x)
    generalize decide (x ∈ L) = R at *
    go_wp2_with fail
    exact hP.out R _ hfin.out (bStep hbW.out hb3)
  · have hEb : (E != 0) = true := by simpa using hz
    have hP2 : Hid (∀ (w' : World), Below w.heap.size w w' → PP (.returned (.tuple #[.bool false, .int .i64 E])) w') := Lib.hid fun w' h => hP.out false w' (by rw [if_neg hz]) h
    clear hP hz
    go_wp2_with fail
    exact hP2.out _ hbW.out
end Go.Proofs.YtnnkfgekiaaehaaGreat

/- The reference 16: Uses. -/
namespace Go.Proofs.YtnnkfgekiaaehaaGreat
open Go.ChangeShapes Go.WideShapes Go.ChangeAt Go.RowKit
set_option linter.unusedVariables false

theorem rowU_snoc (k : Nat) : ∀ (l : List Int) (d : Nat) (x : Int), rowU k d (l ++ [x]) = rowU k d l ++ [(k, d + l.length, x)]
  | [], d, x => by simp [rowU]
  | y :: l, d, x => by rw [List.cons_append, rowU, rowU, rowU_snoc k l (d + 1) x, List.cons_append, List.length_cons, show d + 1 + l.length = d + (l.length + 1) by omega]
theorem usesN_snoc : ∀ (ps : List Pr) (k : Nat) (p : Pr), usesN k (ps ++ [p]) = usesN k ps ++ rowU (k + ps.length) 0 p.right
  | [], k, p => by simp [usesN]
  | q :: ps, k, p => by rw [List.cons_append, usesN, usesN, usesN_snoc ps (k + 1) p, List.append_assoc, List.length_cons, show k + 1 + ps.length = k + (ps.length + 1) by omega]
/-- the uses of s in a right side -/
def selU (s : Int) (k : Nat) (l : List Int) : List (Nat × Nat) := ((rowU k 0 l).filter fun u => decide (u.2.2 = s)).map fun u => (u.1, u.2.1)
theorem useL_snoc (ps : List Pr) (p : Pr) (s : Int) : useL (ps ++ [p]) s = useL ps s ++ selU s ps.length p.right := by
  unfold useL selU; rw [usesN_snoc, List.filter_append, List.map_append, Nat.zero_add]
theorem selU_snoc (s : Int) (k : Nat) (l : List Int) (x : Int) : selU s k (l ++ [x]) = selU s k l ++ (if x = s then [(k, l.length)] else []) := by
  unfold selU
  rw [rowU_snoc, List.filter_append, List.map_append, Nat.zero_add]
  by_cases h : x = s
  · simp [h]
  · simp [h]
theorem selU_len (s : Int) (k : Nat) (l : List Int) : (selU s k l).length ≤ l.length := by
  unfold selU; rw [List.length_map]
  exact Nat.le_trans (List.length_filter_le _ _) (by rw [rowU_len]; exact Nat.le_refl _)
theorem usesN_len : ∀ (ps : List Pr) (k : Nat), (∀ p ∈ ps, p.right.length ≤ 6) → (usesN k ps).length ≤ ps.length * 6
  | [], _, _ => by simp [usesN]
  | p :: ps, k, h => by
    have h1 := usesN_len ps (k + 1) fun x hx => h x (List.mem_cons_of_mem _ hx)
    have h2 := h p List.mem_cons_self
    rw [usesN, List.length_append, rowU_len, List.length_cons]
    omega
theorem useL_len (ps : List Pr) (s : Int) (h : ∀ p ∈ ps, p.right.length ≤ 6) : (useL ps s).length ≤ ps.length * 6 := by
  unfold useL; rw [List.length_map]
  exact Nat.le_trans (List.length_filter_le _ _) (usesN_len ps 0 h)

section
variable (w : World) {ops : Array Oper} {rest : List Oper} {o : Oper} {a : Act} {Q : Exit → Act → World → Prop}
theorem wpList_pushQ (hgd : o.guard = none) (s x : Operand) (ho : o.op = .call { callee := .builtin .append, args := #[s, x], argTypes := #[56, 56] })
    (base : Nat) (v : Value) (l : List (Nat × Nat)) (hs : a.eval s = v) (hown : OwnQ w base v l) (g : Nat) (k : Nat × Nat) (hx : a.eval x = .slice (some ⟨g, 0, none⟩) 1 1) (hb : Blk w g 100 #[.int .i64 k.1, .int .i64 k.2]) (h63 : l.length < 1000000) (hbase : base ≤ w.heap.size)
    (h : ∀ v' w', OwnQ w' base v' (l ++ [k]) → (∀ W0, Below base W0 w → Below base W0 w') → wpList Tryz.prog ops Q rest (a.put o.dst v') w') : wpList Tryz.prog ops Q (o :: rest) a w := by
  refine wpList_push w hgd s x 56 ho base 100 _ 2 16 (by kernel_rfl) info54 rfl (by omega) v l.length (cellsQ l) hs hown g #[.int .i64 k.1, .int .i64 k.2] hx hb rfl (by simp [Value.oneCell']) h63 (by omega) hbase ?_
  intro v' w' h2 h3 h4 h5
  refine h v' w' ?_ h5
  unfold OwnQ
  rw [cellsQ_app, List.length_append]
  exact h2
end
theorem OwnQ.step {w w' : World} {base : Nat} {v : Value} {l : List (Nat × Nat)} (h : OwnQ w base v l) (hb : Below w.heap.size w w') : OwnQ w' base v l := row_step h hb

set_option maxRecDepth 100000 in
set_option maxHeartbeats 4000000 in
theorem refuses_any (g : Gr) (a : GA) (s : Int) (w : World) (hg : GrAt w w.heap.size g a) (hok : gchk g = 0) (hs : ntB g s = true) :
    Calls Tryz.prog 27 #[gval g a, .int .i64 s] w fun e w' => ∃ v, e = .returned (.tuple #[v, .int .i64 0]) ∧ OwnQ w' w.heap.size v (useL g.prods s) ∧ Below w.heap.size w w' := by
  obtain ⟨ta, tc, na, nc, pa, pc⟩ := a
  have hb := nt_bd hs
  have hk := gok_of hok
  have hn9 : g.names.length ≤ 8 := hk.nm.2
  have hp24 : g.prods.length ≤ 24 := hk.pl
  have hr6 := Lib.hid (fun p (hp : p ∈ g.prods) => (hk.pr p hp).2.1)
  have hG0 := GB.start hg
  have hC := Lib.hid (fun W (h : GrAt W W.heap.size g ⟨ta, tc, na, nc, pa, pc⟩) => rcheckg_any g ⟨ta, tc, na, nc, pa, pc⟩ W h (small_of hok))
  rw [hok] at hC
  have h16 : ¬ s < 16 := by omega
  have h17 : ¬ 16 + (g.names.length : Int) ≤ s := by omega
  have hP : Hid (∀ (v : Value) (w' : World), OwnQ w' w.heap.size v (useL g.prods s) → Below w.heap.size w w' → (fun (e : Ending) (w' : World) => ∃ v, e = .returned (.tuple #[v, .int .i64 0]) ∧ OwnQ w' w.heap.size v (useL g.prods s) ∧ Below w.heap.size w w') (.returned (.tuple #[v, .int .i64 0])) w') := Lib.hid fun v w' h1 h2 => ⟨v, rfl, h1, h2⟩
  generalize (fun (e : Ending) (w' : World) => ∃ v, e = .returned (.tuple #[v, .int .i64 0]) ∧ OwnQ w' w.heap.size v (useL g.prods s) ∧ Below w.heap.size w w') = PP at *
  clear hg hok hs hk hb
  unfold gval gcells at *
  dsimp only at *
  go_enter Tryz.func27, Tryz.ntmps27
  go_upto_region 6 with (go_at_call 39; refine (hC.out _ (hG0.2.1.mono hG0.2.2.size)).mono ?_; rintro e w1 ⟨rfl, hb1⟩; have hG1 := hG0.step hb1; obtain ⟨d0, d1, d2, d3, d4, d5⟩ := hG1.cells; dsimp only at d1 d3 d5)
  clear hG0
  go_wp2_with fail
  go_loopg [7, 8] g.prods.length (fun gk s7 s8 wr => ∃ j : Nat, s8 = .int .i64 j ∧ j + gk = g.prods.length ∧ OwnQ wr (w.heap.size + 1) s7 (useL (g.prods.take j) s) ∧ GB w g ⟨ta, tc, na, nc, pa, pc⟩ wr)
  case atStart => exact ⟨0, rfl, by omega, World.ownsRow_nil _ _ 100 2, hG1⟩
  case round =>
    clear hG1 d0 d1 d2 d3 d4 d5
    obtain ⟨j, rfl, hj, ho, hG⟩ := hrel
    replace hj := Lib.hid hj
    obtain ⟨c0, c1, c2, c3, c4, c5⟩ := hG.cells
    dsimp only at c1 c3 c5
    by_cases hjn : j < g.prods.length
    · have hxi : g.prods[j]? = some g.prods[j] := List.getElem?_eq_getElem hjn
      obtain ⟨b, off, hA, hbt, x0, RA, rc, x1, hx2, hx3, hx4⟩ := hG.2.1.prods.get hxi
      dsimp only at hA
      subst hA
      have htk : g.prods.take (j + 1) = g.prods.take j ++ [g.prods[j]] := List.take_succ_eq_append_getElem hjn
      have hpr := hr6.out _ (List.getElem_mem hjn)
      have hul := useL_len (g.prods.take j) s (fun p hp => hr6.out p (List.mem_of_mem_take hp))
      have hsn : useL (g.prods.take (j + 1)) s = useL (g.prods.take j) s ++ selU s j g.prods[j].right := by rw [htk, useL_snoc, List.length_take, Nat.min_eq_left (by omega)]
      have hul2 : (useL (g.prods.take j) s).length ≤ 144 := Nat.le_trans hul (by rw [List.length_take]; omega)
      clear hul htk
      generalize g.prods[j] = p at *
      generalize useL (g.prods.take j) s = U at *
      replace hxi := Lib.hid hxi
      replace hsn := Lib.hid hsn
      have hzj : (0 : Int) ≤ j := by omega
      have hzk : (j : Int) < g.prods.length := by omega
      have hbw := hG.2.2.size
      go_wp2_with fail
      clear c0 c1 c2 c3 c4 c5
      generalize wr = wE at *
      go_loopg [7, 9] p.right.length (fun gk2 s7 s9 wr => ∃ d : Nat, s9 = .int .i64 d ∧ d + gk2 = p.right.length ∧ OwnQ wr (w.heap.size + 1) s7 (U ++ selU s j (p.right.take d)) ∧ GB w g ⟨ta, tc, na, nc, some ⟨b, off, none⟩, pc⟩ wr ∧ Below (w.heap.size + 1) wE wr)
      case atStart => exact ⟨0, rfl, by omega, by simpa [selU, rowU] using ho, hG, Below.refl _ _⟩
      case round =>
        clear ho hG
        obtain ⟨d, rfl, hd, ho, hG, hbE⟩ := hrel
        replace hd := Lib.hid hd
        obtain ⟨c0, c1, c2, c3, c4, c5⟩ := hG.cells
        dsimp only at c1 c3 c5
        have y1 := (hbE.cell (p := ⟨b, off + j * 2 + 1, none⟩) (by show b < w.heap.size + 1; omega)).trans x1
        by_cases hdn : d < p.right.length
        · have hsi : p.right[d]? = some p.right[d] := List.getElem?_eq_getElem hdn
          obtain ⟨rb, roff, hRA, hbt2, z0⟩ := hx2.get (show (ints p.right)[d]? = some (.int .i64 p.right[d]) by rw [ints, List.getElem?_map, hsi]; rfl)
          have htk2 : p.right.take (d + 1) = p.right.take d ++ [p.right[d]] := List.take_succ_eq_append_getElem hdn
          have hsn2 : U ++ selU s j (p.right.take (d + 1)) = (U ++ selU s j (p.right.take d)) ++ (if p.right[d] = s then [(j, d)] else []) := by
            rw [htk2, selU_snoc, List.append_assoc, List.length_take, Nat.min_eq_left (by omega)]
          have hsl := selU_len s j (p.right.take d)
          rw [List.length_take] at hsl
          clear htk2
          generalize p.right[d] = x at *
          have z1 := (hbE.cell (p := ⟨rb, roff + d, none⟩) (by show rb < w.heap.size + 1; omega)).trans z0
          replace hsi := Lib.hid hsi
          have hzd : (0 : Int) ≤ d := by omega
          have hzd2 : (d : Int) < p.right.length := by omega
          rw [hRA] at y1
          have hlen : (U ++ selU s j (p.right.take d)).length < 1000000 := by rw [List.length_append]; omega
          generalize U ++ selU s j (p.right.take d) = V at *
          by_cases hxs : x = s
          · have hxb : (x == s) = true := by simpa using hxs
            rw [if_pos hxs] at hsn2
            replace hsn2 := Lib.hid hsn2
            replace hxs := Lib.hid hxs
            replace hRA := Lib.hid hRA
            have hwl := hG.lt
            go_wp2_with (at_builtin; refine wpList_pushQ _ rfl _ _ rfl (w.heap.size + 1) _ V rfl (ho.step (bAlc (Below.refl _ _) _)) _ (j, d) rfl (Blk.new _ _ _) hlen (by simp; omega) ?_; intro v' w2 ho2 hb2)
            have hb3 : Below (w.heap.size + 1) wr w2 := hb2 wr ((Below.refl _ _).alloc (by omega) _)
            go_roundg (p.right.length - (d + 1))
            case measure => have := hd.out; omega
            case rel => exact ⟨d + 1, by go_num, by have := hd.out; omega, by rw [hsn2.out]; exact ho2, hG.low (by omega) hb3, hbE.trans hb3⟩
          · have hxb : (x == s) = false := by simpa using hxs
            rw [if_neg hxs, List.append_nil] at hsn2
            replace hsn2 := Lib.hid hsn2
            replace hxs := Lib.hid hxs
            replace hRA := Lib.hid hRA
            go_wp2_with fail
            go_roundg (p.right.length - (d + 1))
            case measure => have := hd.out; omega
            case rel => exact ⟨d + 1, by go_num, by have := hd.out; omega, by rw [hsn2.out]; exact ho, hG, hbE⟩
        · have hde : p.right.take d = p.right := List.take_of_length_le (by have := hd.out; omega)
          rw [hde, ← hsn.out] at ho
          clear hde
          go_wp2_with fail
          go_roundg (g.prods.length - (j + 1))
          case measure => have := hj.out; omega
          case rel => exact ⟨j + 1, by go_num, by have := hj.out; omega, ho, hG⟩
    · have hje : g.prods.take j = g.prods := List.take_of_length_le (by omega)
      rw [hje] at ho
      clear hje
      have ho2 : OwnQ wr w.heap.size _ _ := row_mono ho (by omega)
      have hbF := Lib.hid hG.2.2
      go_wp2_with fail
      exact hP.out _ _ ho2 hbF.out
end Go.Proofs.YtnnkfgekiaaehaaGreat

/- SmallGrammar: what it lets by. -/
namespace Go.Proofs.YtnnkfgekiaaehaaGreat
open Go.ChangeShapes Go.WideShapes Go.ChangeAt Go.RowKit
set_option linter.unusedVariables false

/-- few productions, with short right sides -/
structure LightP (g : Gr) : Prop where
  t : g.toks.length ≤ 10
  n : g.names.length ≤ 10
  p : g.prods.length ≤ 30
  r : ∀ p ∈ g.prods, p.right.length ≤ 8
theorem LightP.small {g : Gr} (h : LightP g) : Small g := ⟨by have := h.t; omega, by have := h.n; omega, by have := h.p; omega, fun p hp => by have := h.r p hp; omega⟩
def SmallP (g : Gr) : Prop := LightP g ∧ (g.k < 1 ∨ 4 < g.k ∨ (g.k = 1 ∧ g.toks.length ≤ 8) ∨ (g.k = 2 ∧ g.toks.length ≤ 3) ∨ (g.k = 3 ∧ g.toks.length ≤ 2))
/-- a Bool that shows P -/
def RetP1 (P : Prop) (w : World) (e : Ending) (w' : World) : Prop := ∃ b : Bool, e = .returned (.bool b) ∧ (b = true → P) ∧ Below w.heap.size w w'

set_option maxHeartbeats 1000000 in
theorem short_some (A : Option Addr) (n c : Nat) (l : List ByteArray) (w : World) (h : Rd1 w w.heap.size A n (strs l)) (hn : n ≤ maxLen) (hl : ∀ s ∈ l, s.size ≤ maxLen) : Calls Tryz.prog 61 #[.slice A n c, .int .i64 40] w (RetP1 True w) := by
  have hlen : l.length = n := by have := h.1; simpa [strs] using this
  unfold maxLen at hn hl
  have hP := Lib.hid (fun (b : Bool) (w' : World) (h : Below w.heap.size w w') => (show RetP1 True w (.returned (.bool b)) w' from ⟨b, rfl, fun _ => trivial, h⟩))
  have hl' := Lib.hid hl
  go_enter Tryz.func61, Tryz.ntmps61
  go_wp2_with fail
  go_loopg [5] n (fun gk s5 wr => ∃ i : Nat, s5 = .int .i64 i ∧ i + gk = n ∧ Below w.heap.size w wr)
  case atStart => exact ⟨0, rfl, by omega, Below.refl _ _⟩
  case round =>
    obtain ⟨i, rfl, hi, hb⟩ := hrel
    replace hi := Lib.hid hi
    by_cases hin : i < n
    · have hx : l[i]? = some l[i] := List.getElem?_eq_getElem (by omega)
      have hs := hl'.out _ (List.getElem_mem (show i < l.length by omega))
      obtain ⟨b, off, rfl, hbt, x0⟩ := h.get (show (strs l)[i]? = some (.string l[i]) by rw [strs, List.getElem?_map, hx]; rfl)
      have x0' := (hb.cell (p := ⟨b, off + i, none⟩) hbt).trans x0
      generalize l[i] = s at *
      have hz0 : (0 : Int) ≤ i := by omega
      have hz1 : (i : Int) < n := by omega
      clear x0
      by_cases h4 : 40 < s.size
      · have hz2 : (40 : Int) < s.size := by omega
        go_wp2_with fail
        go_ret
        exact hP.out _ _ hb
      · have hz2 : ¬ (40 : Int) < s.size := by omega
        go_wp2_with fail
        go_roundg (n - (i + 1))
        case measure => have := hi.out; omega
        case rel => exact ⟨i + 1, by go_num, by have := hi.out; omega, hb⟩
    · go_wp2_with fail
      go_ret
      exact hP.out _ _ hb

set_option maxHeartbeats 2000000 in
theorem light_some (g : Gr) (a : GA) (w : World) (hg : GrAt w w.heap.size g a) : Calls Tryz.prog 30 #[gval g a] w (RetP1 (LightP g) w) := by
  have hP := Lib.hid (fun (w' : World) (h1 : LightP g) (h : Below w.heap.size w w') => (show RetP1 (LightP g) w (.returned (.bool true)) w' from ⟨true, rfl, fun _ => h1, h⟩))
  have hN := Lib.hid (fun (w' : World) (h : Below w.heap.size w w') => (show RetP1 (LightP g) w (.returned (.bool false)) w' from ⟨false, rfl, (fun e => by cases e), h⟩))
  obtain ⟨ta, tc, na, nc, pa, pc⟩ := a
  have hG0 := GB.start hg
  have htc := hg.tc
  have htm := hg.tm
  have hnc := hg.nc
  have hnm := hg.nm
  have hpc := hg.pc
  have hpm := hg.pm
  have hsep := hg.sep
  have hS1 := Lib.hid (fun (W : World) (h : GrAt W W.heap.size g ⟨ta, tc, na, nc, pa, pc⟩) => short_some ta g.toks.length tc g.toks W h.toks (by have := h.tc; have := h.tm; dsimp only at *; omega) h.ts)
  have hS2 := Lib.hid (fun (W : World) (h : GrAt W W.heap.size g ⟨ta, tc, na, nc, pa, pc⟩) => short_some na g.names.length nc g.names W h.names (by have := h.nc; have := h.nm; dsimp only at *; omega) h.ns)
  clear hg
  dsimp only at htc htm hnc hnm hpc hpm
  unfold maxLen at htm hnm hpm hsep
  unfold gval at *
  unfold gcells at *
  dsimp only at *
  go_enter Tryz.func30, Tryz.ntmps30
  go_upto_region 1 with (fail)
  generalize w.alloc (.cells #[.int .i64 g.k, .slice ta g.toks.length tc, .string g.sep, .slice na g.names.length nc, .int .i64 g.start, .slice pa g.prods.length pc] 25) = W at *
  obtain ⟨c0, c1, c2, c3, c4, c5⟩ := hG0.cells
  dsimp only at c1 c3 c5
  by_cases h1 : 10 < g.toks.length
  · have z1 : (10 : Int) < g.toks.length := by omega
    go_wp2_with fail
    go_ret
    exact hN.out _ hG0.2.2
  have z1 : ¬ (10 : Int) < g.toks.length := by omega
  by_cases h2 : 10 < g.names.length
  · have z2 : (10 : Int) < g.names.length := by omega
    go_wp2_with fail
    go_ret
    exact hN.out _ hG0.2.2
  have z2 : ¬ (10 : Int) < g.names.length := by omega
  by_cases h3 : 30 < g.prods.length
  · have z3 : (30 : Int) < g.prods.length := by omega
    go_wp2_with fail
    go_ret
    exact hN.out _ hG0.2.2
  have z3 : ¬ (30 : Int) < g.prods.length := by omega
  by_cases h4 : 40 < g.sep.size
  · have z4 : (40 : Int) < g.sep.size := by omega
    go_wp2_with fail
    go_ret
    exact hN.out _ hG0.2.2
  have z4 : ¬ (40 : Int) < g.sep.size := by omega
  go_wp2_with fail
  refine (hS1.out _ ((hG0.2.1).mono hG0.2.2.size)).mono ?_
  rintro e w1 ⟨b1, rfl, _, hb1⟩
  have hG1 := hG0.step hb1
  clear hG0 hb1 c0 c1 c2 c3 c4 c5
  obtain ⟨c0, c1, c2, c3, c4, c5⟩ := hG1.cells
  dsimp only at c1 c3 c5
  cases b1 with
  | false =>
    go_wp2_with fail
    go_ret
    exact hN.out _ hG1.2.2
  | true =>
    go_wp2_with fail
    refine (hS2.out _ ((hG1.2.1).mono hG1.2.2.size)).mono ?_
    rintro e w2 ⟨b2, rfl, _, hb2⟩
    have hG2 := hG1.step hb2
    clear hG1 hb2 c0 c1 c2 c3 c4 c5
    obtain ⟨c0, c1, c2, c3, c4, c5⟩ := hG2.cells
    dsimp only at c1 c3 c5
    cases b2 with
    | false =>
      go_wp2_with fail
      go_ret
      exact hN.out _ hG2.2.2
    | true =>
      go_wp2_with fail
      clear c0 c1 c2 c3 c4 c5
      go_loopg [3] g.prods.length (fun gk s3 wr => ∃ i : Nat, s3 = .int .i64 i ∧ i + gk = g.prods.length ∧ Hid (∀ p ∈ g.prods.take i, p.right.length ≤ 8) ∧ GB w g ⟨ta, tc, na, nc, pa, pc⟩ wr)
      case atStart => exact ⟨0, rfl, by omega, Lib.hid (by simp), hG2⟩
      case round =>
        clear hG2
        obtain ⟨i, rfl, hi, hr, hG⟩ := hrel
        replace hi := Lib.hid hi
        obtain ⟨c0, c1, c2, c3, c4, c5⟩ := hG.cells
        dsimp only at c1 c3 c5
        by_cases hin : i < g.prods.length
        · have hxi : g.prods[i]? = some g.prods[i] := List.getElem?_eq_getElem hin
          obtain ⟨b, off, hA, hbt, x0, RA, rc, x1, hx2, hx3, hx4⟩ := hG.2.1.prods.get hxi
          dsimp only at hA
          subst hA
          have htk : g.prods.take (i + 1) = g.prods.take i ++ [g.prods[i]] := List.take_succ_eq_append_getElem hin
          generalize g.prods[i] = p at *
          replace hxi := Lib.hid hxi
          replace htk := Lib.hid htk
          unfold maxLen at hx4
          have hz0 : (0 : Int) ≤ i := by omega
          have hz1 : (i : Int) < g.prods.length := by omega
          by_cases h8 : 8 < p.right.length
          · have z8 : (8 : Int) < p.right.length := by omega
            go_wp2_with fail
            go_ret
            exact hN.out _ hG.2.2
          · have z8 : ¬ (8 : Int) < p.right.length := by omega
            have hr2 : Hid (∀ q ∈ g.prods.take (i + 1), q.right.length ≤ 8) := Lib.hid (by
              intro q hq
              rw [htk.out] at hq
              rcases List.mem_append.1 hq with h | h
              · exact hr.out q h
              · simp at h; subst h; omega)
            go_wp2_with fail
            go_roundg (g.prods.length - (i + 1))
            case measure => have := hi.out; omega
            case rel => exact ⟨i + 1, by go_num, by have := hi.out; omega, hr2, hG⟩
        · have hL : Hid (LightP g) := Lib.hid ⟨by omega, by omega, by omega, fun p hp => hr.out p (by rw [List.take_of_length_le (by omega)]; exact hp)⟩
          go_wp2_with fail
          go_ret
          exact hP.out _ hL.out hG.2.2

set_option maxHeartbeats 2000000 in
theorem small_some (g : Gr) (a : GA) (w : World) (hg : GrAt w w.heap.size g a) : Calls Tryz.prog 6 #[gval g a] w (RetP1 (SmallP g) w) := by
  have hP := Lib.hid (fun (w' : World) (h1 : SmallP g) (h : Below w.heap.size w w') => (show RetP1 (SmallP g) w (.returned (.bool true)) w' from ⟨true, rfl, fun _ => h1, h⟩))
  have hN := Lib.hid (fun (w' : World) (h : Below w.heap.size w w') => (show RetP1 (SmallP g) w (.returned (.bool false)) w' from ⟨false, rfl, (fun e => by cases e), h⟩))
  obtain ⟨ta, tc, na, nc, pa, pc⟩ := a
  have hG0 := GB.start hg
  have hLi := Lib.hid (fun (W : World) (h : GrAt W W.heap.size g ⟨ta, tc, na, nc, pa, pc⟩) => light_some g ⟨ta, tc, na, nc, pa, pc⟩ W h)
  clear hg
  unfold gval at *
  unfold gcells at *
  dsimp only at *
  go_enter Tryz.func6, Tryz.ntmps6
  go_upto_region 1 with (fail)
  generalize w.alloc (.cells #[.int .i64 g.k, .slice ta g.toks.length tc, .string g.sep, .slice na g.names.length nc, .int .i64 g.start, .slice pa g.prods.length pc] 25) = W at *
  obtain ⟨c0, c1, c2, c3, c4, c5⟩ := hG0.cells
  dsimp only at c1 c3 c5
  go_wp2_with fail
  refine (hLi.out _ ((hG0.2.1).mono hG0.2.2.size)).mono ?_
  rintro e w1 ⟨b1, rfl, hL, hb1⟩
  have hG1 := hG0.step hb1
  clear hG0 hb1 c0 c1 c2 c3 c4 c5
  obtain ⟨c0, c1, c2, c3, c4, c5⟩ := hG1.cells
  dsimp only at c1 c3 c5
  replace hL := Lib.hid hL
  cases b1 with
  | false =>
    go_wp2_with fail
    go_ret
    exact hN.out _ hG1.2.2
  | true =>
    have hl := Lib.hid (hL.out rfl)
    replace hL := Lib.hid hL
    have ht10 := hl.out.t
    by_cases k1 : g.k < 1
    · have hS : Hid (SmallP g) := Lib.hid ⟨hl.out, .inl k1⟩
      go_wp2_with fail
      go_ret
      exact hP.out _ hS.out hG1.2.2
    by_cases k4 : 4 < g.k
    · have hS : Hid (SmallP g) := Lib.hid ⟨hl.out, .inr (.inl k4)⟩
      go_wp2_with fail
      go_ret
      exact hP.out _ hS.out hG1.2.2
    obtain ⟨K, hK⟩ : ∃ K, K = g.k := ⟨_, rfl⟩
    rw [← hK] at c0 k1 k4 ⊢
    have hK' := Lib.hid hK
    clear hK
    obtain rfl | rfl | rfl | rfl : K = 1 ∨ K = 2 ∨ K = 3 ∨ K = 4 := by omega
    · by_cases hn : g.toks.length ≤ 8
      · have hS : Hid (SmallP g) := Lib.hid ⟨hl.out, .inr (.inr (.inl ⟨hK'.out.symm, hn⟩))⟩
        have z1 : (g.toks.length : Int) ≤ 8 := by omega
        go_wp2_with fail
        go_ret
        exact hP.out _ hS.out hG1.2.2
      · have z1 : decide ((g.toks.length : Int) ≤ 8) = false := decide_eq_false (by omega)
        go_wp2_with fail
        go_ret
        exact hN.out _ hG1.2.2
    · by_cases hn : g.toks.length ≤ 3
      · have hS : Hid (SmallP g) := Lib.hid ⟨hl.out, .inr (.inr (.inr (.inl ⟨hK'.out.symm, hn⟩)))⟩
        have z1 : (g.toks.length : Int) ≤ 3 := by omega
        go_wp2_with fail
        go_ret
        exact hP.out _ hS.out hG1.2.2
      · have z1 : decide ((g.toks.length : Int) ≤ 3) = false := decide_eq_false (by omega)
        go_wp2_with fail
        go_ret
        exact hN.out _ hG1.2.2
    · by_cases hn : g.toks.length ≤ 2
      · have hS : Hid (SmallP g) := Lib.hid ⟨hl.out, .inr (.inr (.inr (.inr ⟨hK'.out.symm, hn⟩)))⟩
        have z1 : (g.toks.length : Int) ≤ 2 := by omega
        go_wp2_with fail
        go_ret
        exact hP.out _ hS.out hG1.2.2
      · have z1 : decide ((g.toks.length : Int) ≤ 2) = false := decide_eq_false (by omega)
        go_wp2_with fail
        go_ret
        exact hN.out _ hG1.2.2
    · go_wp2_with fail
      go_ret
      exact hN.out _ hG1.2.2

/-- few looks there are -/
theorem few_looks {k : Nat} {m : Int} (h : (k = 1 ∧ m ≤ 8) ∨ (k = 2 ∧ m ≤ 3) ∨ (k = 3 ∧ m ≤ 2)) {L : List Lk} (hn : L.Nodup) (hm : 1 ≤ m) (hL : ∀ y ∈ L, y.right m ∧ y.l.length ≤ k) : L.length ≤ 600 := by
  have key : ∀ (M K : Int), m ≤ M → M ≤ 8 → (k : Int) ≤ K → (univ.filter fun x => decide (lchk x M = 0) && decide (x.n ≤ K)).length ≤ 600 → L.length ≤ 600 := by
    intro M K h1 h8 h2 h3
    refine Nat.le_trans (nodup_len hn fun y hy => ?_) h3
    obtain ⟨r, l⟩ := hL y hy
    have rM := right_mono r h1 h8
    have r8 := right_mono rM h8 (by omega)
    rw [List.mem_filter]
    refine ⟨univ_mem r8, ?_⟩
    have hr0 : lchk y M = 0 := rM
    have := (right_l r).1
    simp only [Bool.and_eq_true, decide_eq_true_eq]
    exact ⟨hr0, by omega⟩
  rcases h with ⟨rfl, h⟩ | ⟨rfl, h⟩ | ⟨rfl, h⟩
  · exact key 8 1 h (by omega) (by omega) (by decide +kernel)
  · exact key 3 2 h (by omega) (by omega) (by decide +kernel)
  · exact key 2 3 h (by omega) (by omega) (by decide +kernel)
end Go.Proofs.YtnnkfgekiaaehaaGreat

/- The walk of FollowBehind. -/
namespace Go.Proofs.YtnnkfgekiaaehaaGreat
open Go.ChangeShapes Go.WideShapes Go.ChangeAt Go.RowKit
set_option linter.unusedVariables false

/-- the few looks of a small grammar -/
theorem SmallP.few {g : Gr} (h : SmallP g) (hok : gchk g = 0) {L : List Lk} (hn : L.Nodup) (hL : ∀ y ∈ L, y.right g.toks.length ∧ y.l.length ≤ g.k.toNat) : L.length ≤ 600 := by
  have hk := gok_of hok
  have h1 := hk.k1
  have h4 := hk.k4
  have hkk := hk.hk
  refine few_looks (k := g.k.toNat) (m := g.toks.length) ?_ hn (by have := hk.tk; omega) hL
  rcases h.2 with e | e | ⟨e, f⟩ | ⟨e, f⟩ | ⟨e, f⟩ <;> omega
theorem SmallP.fewB {g : Gr} (h : SmallP g) (hok : gchk g = 0) {p : Pr} (hp : p ∈ g.prods) (d : Nat) : FewB g p d := fun L hn hL => h.few hok hn fun y hy => bh_right hok hp (hL y hy)


theorem same_sets {L : List Lk} {W : World} {m : Int} {A A2 : Option Addr} {c c2 : Nat} (h1 : RdL W W.heap.size A L.length L) (h2 : RdL W W.heap.size A2 L.length L) (hr : ∀ x ∈ L, x.right m) (hn : L.length ≤ 4681) :
    Calls Tryz.prog 10 #[.slice A L.length c, .slice A2 L.length c2] W fun e w' => e = .returned (.bool true) ∧ Below W.heap.size W w' := by
  have := samelooks_any A A2 L.length L.length c c2 L L W h1 h2 (fun y hy => right_wf (hr y hy)) (fun y hy => right_wf (hr y hy)) (by unfold maxLen; omega) (by unfold maxLen; omega)
  rwa [decide_eq_true rfl] at this

set_option maxRecDepth 100000 in
set_option maxHeartbeats 4000000 in
theorem followBehind_walk (g : Gr) (a : GA) (i d : Int) (w : World) (hg : GrAt w w.heap.size g a) (wi : (Lit.int .i64 i).wf = true) (wd : (Lit.int .i64 d).wf = true) : Calls Tryz.prog 3 #[gval g a, .int .i64 i, .int .i64 d] w fun e w' => e = .returned (.bool true) ∧ Below w.heap.size w w' := by
  have hAw := Lib.hid (fun (W : World) => awake_any W)
  have hSm := Lib.hid (fun (W : World) (h : GrAt W W.heap.size g a) => small_some g a W h)
  have hBr := Lib.hid (fun (W : World) (hs : Small g) (hE : gchk g ≠ 0) (h : GrAt W W.heap.size g a) => behind_err g a i d W h hs hE)
  have hBr2 := Lib.hid (fun (W : World) (hs : Small g) (hE : gchk g ≠ 0) (h : GrAt W W.heap.size g a) => refbehind_err g a i d W h hs hE)
  have hBb := Lib.hid (fun (W : World) (hok : gchk g = 0) (hno : noPlace g i d) (h : GrAt W W.heap.size g a) => behind_bad g a i d W h hok hno)
  have hBb2 := Lib.hid (fun (W : World) (hok : gchk g = 0) (hno : noPlace g i d) (h : GrAt W W.heap.size g a) => refbehind_bad g a i d W h hok hno)
  have hBa := Lib.hid (fun (W : World) (p : Pr) (hok : gchk g = 0) (n m : Nat) (hi : i = n) (hd : d = m) (hp : g.prods[n]? = some p) (hm : m ≤ p.right.length) (hf : FewB g p m) (h : GrAt W W.heap.size g a) => (by rw [hi, hd]; exact behind_any g a n m p W h hok hp hm hf : Calls Tryz.prog 8 #[gval g a, .int .i64 i, .int .i64 d] W (RetB g p m W)))
  have hBa2 := Lib.hid (fun (W : World) (p : Pr) (hok : gchk g = 0) (n m : Nat) (hi : i = n) (hd : d = m) (hp : g.prods[n]? = some p) (hm : m ≤ p.right.length) (hf : FewB g p m) (h : GrAt W W.heap.size g a) => (by rw [hi, hd]; exact refbehind_any g a n m p W h hok hp hm hf : Calls Tryz.prog 9 #[gval g a, .int .i64 i, .int .i64 d] W (RetBs g p m W)))
  have hS0 : Hid (∀ W, Calls Tryz.prog 10 #[.slice none 0 0, .slice none 0 0] W fun e w' => e = .returned (.bool true) ∧ Below W.heap.size W w') := Lib.hid fun W => same_sets (L := []) (m := 8) (RdL.nil _ _ _) (RdL.nil _ _ _) (by simp) (by simp)
  obtain ⟨ta, tc, na, nc, pa, pc⟩ := a
  have hG0 := GB.start hg
  clear hg
  unfold gval at *
  unfold gcells at *
  dsimp only at *
  go_enter Tryz.func3, Tryz.ntmps3
  go_upto_region 1 with (fail)
  generalize w.alloc (.cells #[.int .i64 g.k, .slice ta g.toks.length tc, .string g.sep, .slice na g.names.length nc, .int .i64 g.start, .slice pa g.prods.length pc] 25) = W at *
  obtain ⟨c0, c1, c2, c3, c4, c5⟩ := hG0.cells
  dsimp only at c1 c3 c5
  go_wp2_with fail
  refine (hSm.out _ ((hG0.2.1).mono hG0.2.2.size)).mono ?_
  rintro e w1 ⟨b1, rfl, hL, hb1⟩
  have hG1 := hG0.step hb1
  clear hG0 hb1 c0 c1 c2 c3 c4 c5
  obtain ⟨c0, c1, c2, c3, c4, c5⟩ := hG1.cells
  dsimp only at c1 c3 c5
  replace hL := Lib.hid hL
  cases b1 with
  | false =>
    have hbW := Lib.hid hG1.2.2
    go_wp2_with (go_at_call 7; refine (hAw.out _).mono ?_; rintro e w2 ⟨rfl, hb2⟩)
    go_ret
    exact ⟨rfl, bStep hbW.out hb2⟩
  | true =>
    have hsm := Lib.hid (hL.out rfl)
    clear hL
    by_cases hok : gchk g = 0
    · have hok' := Lib.hid hok
      clear hok
      by_cases hno : noPlace g i d
      · have hno' := Lib.hid hno
        clear hno
        go_wp2_with fail
        refine (hBb.out _ hok'.out hno'.out ((hG1.2.1).mono hG1.2.2.size)).mono ?_
        rintro e w2 ⟨rfl, hb2⟩
        have hG2 := hG1.step hb2
        clear hG1 hb2 c0 c1 c2 c3 c4 c5
        obtain ⟨c0, c1, c2, c3, c4, c5⟩ := hG2.cells
        dsimp only at c1 c3 c5
        go_wp2_with fail
        refine (hBb2.out _ hok'.out hno'.out ((hG2.2.1).mono hG2.2.2.size)).mono ?_
        rintro e w3 ⟨rfl, hb3⟩
        have hbW := Lib.hid (hG2.step hb3).2.2
        go_wp2_with fail
        refine (hS0.out _).mono ?_
        rintro e w4 ⟨rfl, hb4⟩
        go_wp2_with (go_at_call 7; refine (hAw.out _).mono ?_; rintro e w5 ⟨rfl, hb5⟩)
        go_ret
        exact ⟨rfl, bStep (bStep hbW.out hb4) hb5⟩
      · obtain ⟨n, hn⟩ := Int.eq_ofNat_of_zero_le (show 0 ≤ i by by_cases h : i < 0; exact absurd (.inl h) hno; omega)
        obtain ⟨m, hm⟩ := Int.eq_ofNat_of_zero_le (show 0 ≤ d by by_cases h : d < 0; exact absurd (.inr (.inr (.inl h))) hno; omega)
        have hnl : n < g.prods.length := by
          by_cases h : (g.prods.length : Int) ≤ i
          · exact absurd (.inr (.inl h)) hno
          · omega
        have hp : g.prods[n]? = some g.prods[n] := List.getElem?_eq_getElem hnl
        have hml : m ≤ g.prods[n].right.length := by
          by_cases h : (g.prods[n].right.length : Int) < d
          · exact absurd (.inr (.inr (.inr ⟨g.prods[n], by rw [hn, Int.toNat_natCast]; exact hp, h⟩))) hno
          · omega
        have hpm := List.getElem_mem hnl
        generalize g.prods[n] = p at *
        have hfew := Lib.hid (hsm.out.fewB hok'.out hpm m)
        have hbr : Hid (∀ L, BSet g p m L → (∀ x ∈ L, x.right g.toks.length) ∧ L.length ≤ 4681) := Lib.hid fun L hL => ⟨fun x hx => (bh_right hok'.out hpm ((hL.2 x).1 hx)).1, by have := hfew.out L (asc_nodup hL.1) fun y hy => (hL.2 y).1 hy; omega⟩
        clear hno
        replace hn := Lib.hid hn
        replace hm := Lib.hid hm
        replace hp := Lib.hid hp
        replace hml := Lib.hid hml
        replace hpm := Lib.hid hpm
        go_wp2_with fail
        refine (hBa.out _ p hok'.out n m hn.out hm.out hp.out hml.out hfew.out ((hG1.2.1).mono hG1.2.2.size)).mono ?_
        rintro e w2 ⟨L, v, rfl, hL, ho, hb2⟩
        obtain ⟨A2, c2', rfl, hd2, _, _, _⟩ := ho.reads
        have hG2 := hG1.step hb2
        clear hG1 hb2 c0 c1 c2 c3 c4 c5 ho
        obtain ⟨c0, c1, c2, c3, c4, c5⟩ := hG2.cells
        dsimp only at c1 c3 c5
        replace hL := Lib.hid hL
        replace hd2 := Lib.hid hd2
        go_wp2_with fail
        refine (hBa2.out _ p hok'.out n m hn.out hm.out hp.out hml.out hfew.out ((hG2.2.1).mono hG2.2.2.size)).mono ?_
        rintro e w3 ⟨L3, A3, c3', rfl, hL3, hs3, hb3⟩
        have hLe := hL3.uniq hL.out
        subst hLe
        have hbW := Lib.hid (hG2.step hb3).2.2
        have hd3 := hs3.rd
        replace hL3 := Lib.hid hL3
        go_wp2_with fail
        refine (same_sets ((hd2.out.below hb3).mono hb3.size) hd3 (hbr.out _ hL.out).1 (hbr.out _ hL.out).2).mono ?_
        rintro e w4 ⟨rfl, hb4⟩
        go_wp2_with (go_at_call 7; refine (hAw.out _).mono ?_; rintro e w5 ⟨rfl, hb5⟩)
        go_ret
        exact ⟨rfl, bStep (bStep hbW.out hb4) hb5⟩
    · have hok' := Lib.hid hok
      clear hok
      obtain ⟨E, hE⟩ : ∃ E, E = gchk g := ⟨_, rfl⟩
      rw [← hE] at hBr hBr2 hok'
      replace hE := Lib.hid hE
      go_wp2_with fail
      refine (hBr.out _ hsm.out.1.small hok'.out ((hG1.2.1).mono hG1.2.2.size)).mono ?_
      rintro e w2 ⟨rfl, hb2⟩
      have hG2 := hG1.step hb2
      clear hG1 hb2 c0 c1 c2 c3 c4 c5
      obtain ⟨c0, c1, c2, c3, c4, c5⟩ := hG2.cells
      dsimp only at c1 c3 c5
      go_wp2_with fail
      refine (hBr2.out _ hsm.out.1.small hok'.out ((hG2.2.1).mono hG2.2.2.size)).mono ?_
      rintro e w3 ⟨rfl, hb3⟩
      have hbW := Lib.hid (hG2.step hb3).2.2
      go_wp2_with fail
      refine (hS0.out _).mono ?_
      rintro e w4 ⟨rfl, hb4⟩
      go_wp2_with (go_at_call 7; refine (hAw.out _).mono ?_; rintro e w5 ⟨rfl, hb5⟩)
      go_ret
      exact ⟨rfl, bStep (bStep hbW.out hb4) hb5⟩
end Go.Proofs.YtnnkfgekiaaehaaGreat

/- Ends and Uses of the reference; equal texts, numbers, sets. -/
namespace Go.Proofs.YtnnkfgekiaaehaaGreat
open Go.ChangeShapes Go.WideShapes Go.ChangeAt Go.RowKit
set_option linter.unusedVariables false

set_option maxHeartbeats 1000000 in
theorem sametexts_true (A A2 : Option Addr) (n c c2 : Nat) (l : List ByteArray) (w : World) (ha : Rd1 w w.heap.size A n (strs l)) (hb : Rd1 w w.heap.size A2 n (strs l)) (hn : n ≤ maxLen) :
    Calls Tryz.prog 59 #[.slice A n c, .slice A2 n c2] w fun e w' => e = .returned (.bool true) ∧ Below w.heap.size w w' := by
  have hlen : l.length = n := by have := ha.1; simpa [strs] using this
  unfold maxLen at hn
  go_enter Tryz.func59, Tryz.ntmps59
  go_wp2_with fail
  go_loopg [5] n (fun gk s5 wr => ∃ i : Nat, s5 = .int .i64 i ∧ i + gk = n ∧ Below w.heap.size w wr)
  case atStart => exact ⟨0, rfl, by omega, Below.refl _ _⟩
  case round =>
    obtain ⟨i, rfl, hi, hw⟩ := hrel
    replace hi := Lib.hid hi
    by_cases hin : i < n
    · have hx : (strs l)[i]? = some (.string l[i]) := by rw [strs, List.getElem?_map, List.getElem?_eq_getElem (by omega)]; rfl
      obtain ⟨b, off, hA, hbt, x0⟩ := ha.get hx
      obtain ⟨b', off', hA2, hbt', y0⟩ := hb.get hx
      have x0' := (hw.cell (p := ⟨b, off + i, none⟩) hbt).trans x0
      have y0' := (hw.cell (p := ⟨b', off' + i, none⟩) hbt').trans y0
      generalize l[i] = s at *
      clear x0 y0 hx
      subst hA hA2
      have hz0 : (0 : Int) ≤ i := by omega
      have hz1 : (i : Int) < n := by omega
      go_wp2_with fail
      go_quiet (fail)
      go_wp2_with fail
      go_roundg (n - (i + 1))
      case measure => have := hi.out; omega
      case rel => exact ⟨i + 1, by go_num, by have := hi.out; omega, bDrwN hw _⟩
    · go_wp2_with fail
      go_ret
      exact ⟨rfl, hw⟩

set_option maxHeartbeats 1000000 in
theorem sameints_true (A A2 : Option Addr) (n c c2 : Nat) (l : List Int) (w : World) (ha : Rd1 w w.heap.size A n (ints l)) (hb : Rd1 w w.heap.size A2 n (ints l)) (hn : n ≤ maxLen) :
    Calls Tryz.prog 60 #[.slice A n c, .slice A2 n c2] w fun e w' => e = .returned (.bool true) ∧ Below w.heap.size w w' := by
  have hlen : l.length = n := by have := ha.1; simpa [ints] using this
  unfold maxLen at hn
  go_enter Tryz.func60, Tryz.ntmps60
  go_wp2_with fail
  go_loopg [5] n (fun gk s5 wr => ∃ i : Nat, s5 = .int .i64 i ∧ i + gk = n ∧ Below w.heap.size w wr)
  case atStart => exact ⟨0, rfl, by omega, Below.refl _ _⟩
  case round =>
    obtain ⟨i, rfl, hi, hw⟩ := hrel
    replace hi := Lib.hid hi
    by_cases hin : i < n
    · have hx : (ints l)[i]? = some (.int .i64 l[i]) := by rw [ints, List.getElem?_map, List.getElem?_eq_getElem (by omega)]; rfl
      obtain ⟨b, off, hA, hbt, x0⟩ := ha.get hx
      obtain ⟨b', off', hA2, hbt', y0⟩ := hb.get hx
      have x0' := (hw.cell (p := ⟨b, off + i, none⟩) hbt).trans x0
      have y0' := (hw.cell (p := ⟨b', off' + i, none⟩) hbt').trans y0
      generalize l[i] = s at *
      clear x0 y0 hx
      subst hA hA2
      have hz0 : (0 : Int) ≤ i := by omega
      have hz1 : (i : Int) < n := by omega
      go_wp2_with fail
      go_quiet (fail)
      go_wp2_with fail
      go_roundg (n - (i + 1))
      case measure => have := hi.out; omega
      case rel => exact ⟨i + 1, by go_num, by have := hi.out; omega, bDrwN hw _⟩
    · go_wp2_with fail
      go_ret
      exact ⟨rfl, hw⟩

/-- a slice that reads as these sets -/
def RdS (W : World) (m : Int) (A : Option Addr) (n : Nat) (Ls : List (List Lk)) : Prop :=
  Ls.length = n ∧ (n = 0 ∨ ∃ b off, A = some ⟨b, off, none⟩ ∧ b < W.heap.size ∧ ∀ (i : Nat) (L : List Lk), Ls[i]? = some L → ∃ X c, W.cell? ⟨b, off + i, none⟩ = some (.slice X L.length c) ∧ SetAt W m X L.length c L)
theorem RdS.step {W W' : World} {m : Int} {A : Option Addr} {n : Nat} {Ls : List (List Lk)} (h : RdS W m A n Ls) (hb : Below W.heap.size W W') : RdS W' m A n Ls := by
  refine ⟨h.1, ?_⟩
  rcases h.2 with h0 | ⟨b, off, rfl, hlt, hc⟩
  · exact .inl h0
  · refine .inr ⟨b, off, rfl, Nat.lt_of_lt_of_le hlt hb.size, fun i L hL => ?_⟩
    obtain ⟨X, c, h1, h2⟩ := hc i L hL
    exact ⟨X, c, cell_later hb h1, h2.step hb⟩
theorem RdS.get {W : World} {m : Int} {A : Option Addr} {n : Nat} {Ls : List (List Lk)} (h : RdS W m A n Ls) {i : Nat} {L : List Lk} (hi : Ls[i]? = some L) :
    ∃ b off, A = some ⟨b, off, none⟩ ∧ ∃ X c, W.cell? ⟨b, off + i, none⟩ = some (.slice X L.length c) ∧ SetAt W m X L.length c L := by
  have hlt := (List.getElem?_eq_some_iff.1 hi).1
  rcases h.2 with h0 | ⟨b, off, rfl, _, hc⟩
  · have := h.1; omega
  · exact ⟨b, off, rfl, hc i L hi⟩
theorem SetsA.rds {W : World} {bo n : Nat} {m : Int} {ss : List (List Lk)} (h : SetsA W bo n m ss) : RdS W m (some ⟨bo, 0, none⟩) n ss := by
  obtain ⟨h1, cs, h2, h3, h4⟩ := h
  exact ⟨h1, .inr ⟨bo, 0, rfl, h2.lt, fun i L hL => by obtain ⟨A, c, a, b⟩ := h4 i L hL; exact ⟨A, c, by rw [Nat.zero_add, h2.cell]; exact a, b⟩⟩⟩

set_option maxHeartbeats 2000000 in
theorem samesets_true (m : Int) (A A2 : Option Addr) (n c c2 : Nat) (Ls : List (List Lk)) (w : World) (ha : RdS w m A n Ls) (hb : RdS w m A2 n Ls) (hn : n ≤ 1000000) :
    Calls Tryz.prog 20 #[.slice A n c, .slice A2 n c2] w fun e w' => e = .returned (.bool true) ∧ Below w.heap.size w w' := by
  have hlen := ha.1
  have hS := Lib.hid (fun (L : List Lk) (W : World) (X X2 : Option Addr) (c c2 : Nat) (h1 : SetAt W m X L.length c L) (h2 : SetAt W m X2 L.length c2 L) => same_sets (W := W) (m := m) (c := c) (c2 := c2) h1.rd h2.rd h1.right h1.n4)
  go_enter Tryz.func20, Tryz.ntmps20
  go_wp2_with fail
  go_loopg [5] n (fun gk s5 wr => ∃ i : Nat, s5 = .int .i64 i ∧ i + gk = n ∧ Below w.heap.size w wr)
  case atStart => exact ⟨0, rfl, by omega, Below.refl _ _⟩
  case round =>
    obtain ⟨i, rfl, hi, hw⟩ := hrel
    replace hi := Lib.hid hi
    by_cases hin : i < n
    · have hx : Ls[i]? = some Ls[i] := List.getElem?_eq_getElem (by omega)
      obtain ⟨b, off, hA, X, xc, x0, hX⟩ := (ha.step hw).get hx
      obtain ⟨b', off', hA2, X2, xc2, y0, hX2⟩ := (hb.step hw).get hx
      generalize Ls[i] = L at *
      replace hx := Lib.hid hx
      subst hA hA2
      have hz0 : (0 : Int) ≤ i := by omega
      have hz1 : (i : Int) < n := by omega
      go_upto_region 6 with (fail)
      have k0 := cell_kept x0
      have k1 := cell_kept y0
      have hSk := Lib.hid (fun (p : KeptBy wr) => hS.out L p.world X X2 xc xc2 (hX.step p.kept) (hX2.step p.kept))
      refine wp_region_kept (by kernel_rfl) (by kernel_rfl) ?_
      repeat (go_big_quiet_step ((go_at_call 10; exact Calls.kept_by (hSk.out _))))
      refine wpQuiet_nil ?_
      rintro _ ⟨p, rfl⟩
      have hpk := p.kept
      clear hSk k0 k1
      generalize p.world = w2 at hpk
      go_wp2_with fail
      go_roundg (n - (i + 1))
      case measure => have := hi.out; omega
      case rel => exact ⟨i + 1, by go_num, by have := hi.out; omega, bStep hw hpk⟩
    · go_wp2_with fail
      go_ret
      exact ⟨rfl, hw⟩

set_option maxHeartbeats 2000000 in
theorem refends_err (g : Gr) (a : GA) (s : Int) (w : World) (hg : GrAt w w.heap.size g a) (hs : Small g) (hE : nonE g s ≠ 0) :
    Calls Tryz.prog 25 #[gval g a, .int .i64 s] w fun e w' => e = .returned (.tuple #[.bool false, .int .i64 (nonE g s)]) ∧ Below w.heap.size w w' := by
  obtain ⟨ta, tc, na, nc, pa, pc⟩ := a
  have hH := Lib.hid (fun (W : World) (h : GrAt W W.heap.size g ⟨ta, tc, na, nc, pa, pc⟩) => refhas_err g ⟨ta, tc, na, nc, pa, pc⟩ s (Lk.of []) W h hs hE)
  have hG0 := GB.start hg
  clear hg hs
  unfold gval gcells at *
  dsimp only at *
  have hz : (Lk.of []).v = .agg #[.int .i64 0, .int .i64 0, .int .i64 0, .int .i64 0, .int .i64 0] := rfl
  rw [hz] at hH
  clear hz
  generalize nonE g s = E at *
  go_enter Tryz.func25, Tryz.ntmps25
  go_wp2_with (go_at_call 23; refine (hH.out _ ((hG0.2.1).mono hG0.2.2.size)).mono ?_; rintro e w1 ⟨rfl, hb1⟩)
  go_ret2
  exact ⟨rfl, (hG0.step hb1).2.2⟩
set_option maxHeartbeats 2000000 in
theorem refends_any (g : Gr) (a : GA) (s : Int) (w : World) (hg : GrAt w w.heap.size g a) (hok : gchk g = 0) (hs : ntB g s = true) : Calls Tryz.prog 25 #[gval g a, .int .i64 s] w (RetH g s (Lk.of []) w) := by
  obtain ⟨ta, tc, na, nc, pa, pc⟩ := a
  have hk := gok_of hok
  have hz0 : lchk (Lk.of []) g.toks.length = 0 := nil_right _ (by have := hk.tk; omega)
  have hH := Lib.hid (fun (W : World) (h : GrAt W W.heap.size g ⟨ta, tc, na, nc, pa, pc⟩) => refhas2_any g ⟨ta, tc, na, nc, pa, pc⟩ s (Lk.of []) W h hok hs zero_wf)
  simp only [hz0, if_true] at hH
  have hG0 := GB.start hg
  have hP := Lib.hid (fun (b : Bool) (w' : World) (h1 : b = true ↔ FO g.prods g.k.toNat g.start s (Lk.of [])) (h3 : Below w.heap.size w w') => (show RetH g s (Lk.of []) w (.returned (.tuple #[.bool b, .int .i64 0])) w' from ⟨b, rfl, h1, h3⟩))
  clear hg hok hs hk hz0
  unfold gval at *
  unfold gcells at *
  dsimp only at *
  have hz : (Lk.of []).v = .agg #[.int .i64 0, .int .i64 0, .int .i64 0, .int .i64 0, .int .i64 0] := rfl
  rw [hz] at hH
  clear hz
  go_enter Tryz.func25, Tryz.ntmps25
  go_wp2_with (go_at_call 23; refine (hH.out _ ((hG0.2.1).mono hG0.2.2.size)).mono ?_; rintro e w1 ⟨R, rfl, hR, hb1⟩; replace hR := Lib.hid hR)
  go_ret2
  exact hP.out _ _ hR.out (hG0.step hb1).2.2
set_option maxHeartbeats 2000000 in
theorem refuses_err (g : Gr) (a : GA) (s : Int) (w : World) (hg : GrAt w w.heap.size g a) (hs : Small g) (hE : nonE g s ≠ 0) :
    Calls Tryz.prog 27 #[gval g a, .int .i64 s] w fun e w' => e = .returned (.tuple #[.slice none 0 0, .int .i64 (nonE g s)]) ∧ Below w.heap.size w w' := by
  obtain ⟨ta, tc, na, nc, pa, pc⟩ := a
  have hG0 := GB.start hg
  have hC := Lib.hid (fun W (h : GrAt W W.heap.size g ⟨ta, tc, na, nc, pa, pc⟩) => rcheckg_any g ⟨ta, tc, na, nc, pa, pc⟩ W h hs)
  have hnl := hs.n
  clear hg hs
  unfold gval gcells at *
  dsimp only at *
  rcases nonE_cases hE with ⟨h1, h2⟩ | ⟨h1, h2, h3⟩
  · rw [h2]
    obtain ⟨C, hCv⟩ : ∃ C : Int, C = gchk g := ⟨_, rfl⟩
    rw [← hCv] at h1 hC ⊢
    have hzn : (C != 0) = true := by simpa using h1
    clear hCv h1 h2 hE
    go_enter Tryz.func27, Tryz.ntmps27
    go_wp2_with (go_at_call 39; refine (hC.out _ (hG0.2.1.mono hG0.2.2.size)).mono ?_; rintro e w1 ⟨rfl, hb1⟩)
    go_ret2
    exact ⟨rfl, (hG0.step hb1).2.2⟩
  · rw [h3]
    rw [h1] at hC
    have h4 : s < 16 ∨ 16 + (g.names.length : Int) ≤ s := by
      have := of_decide_eq_false h2
      omega
    clear h1 h2 h3 hE
    go_enter Tryz.func27, Tryz.ntmps27
    go_upto_region 4 with (go_at_call 39; refine (hC.out _ (hG0.2.1.mono hG0.2.2.size)).mono ?_; rintro e w1 ⟨rfl, hb1⟩)
    have hG1 := hG0.step hb1
    clear hG0 hb1
    obtain ⟨c0, c1, c2, c3, c4, c5⟩ := hG1.cells
    dsimp only at c1 c3 c5
    by_cases h5 : s < 16
    · clear h4
      go_wp2_with fail
      go_ret2
      exact ⟨rfl, hG1.2.2⟩
    · have h6 : 16 + (g.names.length : Int) ≤ s := by omega
      clear h4
      go_wp2_with fail
      go_ret2
      exact ⟨rfl, hG1.2.2⟩
end Go.Proofs.YtnnkfgekiaaehaaGreat

/- A grammar and its copy are the same. -/
namespace Go.Proofs.YtnnkfgekiaaehaaGreat
open Go.ChangeShapes Go.WideShapes Go.ChangeAt Go.RowKit
set_option linter.unusedVariables false

set_option maxRecDepth 100000 in
set_option maxHeartbeats 4000000 in
theorem samegrammar_true (g : Gr) (a a' : GA) (w : World) (hg : GrAt w w.heap.size g a) (hg' : GrAt w w.heap.size g a') (hL : LightP g) :
    Calls Tryz.prog 29 #[gval g a, gval g a'] w fun e w' => e = .returned (.bool true) ∧ Below w.heap.size w w' := by
  obtain ⟨ta, tc, na, nc, pa, pc⟩ := a
  obtain ⟨ta', tc', na', nc', pa', pc'⟩ := a'
  have hG0 := (GB.start hg).alloc (.cells (gcells g ⟨ta', tc', na', nc', pa', pc'⟩) 25)
  have q5 : Blk ((w.alloc (.cells (gcells g ⟨ta, tc, na, nc, pa, pc⟩) 25)).alloc (.cells (gcells g ⟨ta', tc', na', nc', pa', pc'⟩) 25)) (w.heap.size + 1) 25 (gcells g ⟨ta', tc', na', nc', pa', pc'⟩) := Blk.newAt _ _ _ _ (by simp)
  have hp30 := hL.p
  have hT := Lib.hid (fun (W : World) (hb : Below w.heap.size w W) => sametexts_true ta ta' g.toks.length tc tc' g.toks W ((hg.toks.below hb).mono hb.size) ((hg'.toks.below hb).mono hb.size) (by have := hL.t; unfold maxLen; omega))
  have hN := Lib.hid (fun (W : World) (hb : Below w.heap.size w W) => sametexts_true na na' g.names.length nc nc' g.names W ((hg.names.below hb).mono hb.size) ((hg'.names.below hb).mono hb.size) (by have := hL.n; unfold maxLen; omega))
  have hPr := Lib.hid hg.prods
  have hPr' := Lib.hid hg'.prods
  have hr8 := Lib.hid hL.r
  dsimp only at hPr hPr'
  clear hg hg' hL
  unfold gval gcells at *
  dsimp only at *
  go_enter Tryz.func29, Tryz.ntmps29
  go_upto_region 1 with (fail)
  generalize (w.alloc (.cells #[.int .i64 g.k, .slice ta g.toks.length tc, .string g.sep, .slice na g.names.length nc, .int .i64 g.start, .slice pa g.prods.length pc] 25)).alloc (.cells #[.int .i64 g.k, .slice ta' g.toks.length tc', .string g.sep, .slice na' g.names.length nc', .int .i64 g.start, .slice pa' g.prods.length pc'] 25) = W at *
  obtain ⟨c0, c1, c2, c3, c4, c5⟩ := hG0.cells
  dsimp only at c1 c3 c5
  have d0 := q5.cell 0
  have d1 := q5.cell 1
  have d2 := q5.cell 2
  have d3 := q5.cell 3
  have d4 := q5.cell 4
  have d5 := q5.cell 5
  simp only [List.getElem?_toArray, List.getElem?_cons_zero, List.getElem?_cons_succ] at d0 d1 d2 d3 d4 d5
  go_wp2_with fail
  refine (hT.out _ hG0.2.2).mono ?_
  rintro e w1 ⟨rfl, hb1⟩
  have hG1 := hG0.step hb1
  have q6 := q5.step hb1
  clear hG0 q5 hb1 c0 c1 c2 c3 c4 c5 d0 d1 d2 d3 d4 d5
  obtain ⟨c0, c1, c2, c3, c4, c5⟩ := hG1.cells
  dsimp only at c1 c3 c5
  have d0 := q6.cell 0
  have d1 := q6.cell 1
  have d2 := q6.cell 2
  have d3 := q6.cell 3
  have d4 := q6.cell 4
  have d5 := q6.cell 5
  simp only [List.getElem?_toArray, List.getElem?_cons_zero, List.getElem?_cons_succ] at d0 d1 d2 d3 d4 d5
  go_wp2_with fail
  refine (hN.out _ hG1.2.2).mono ?_
  rintro e w2 ⟨rfl, hb2⟩
  have hG2 := hG1.step hb2
  have q7 := q6.step hb2
  clear hG1 q6 hb2 c0 c1 c2 c3 c4 c5 d0 d1 d2 d3 d4 d5
  obtain ⟨c0, c1, c2, c3, c4, c5⟩ := hG2.cells
  dsimp only at c1 c3 c5
  have d0 := q7.cell 0
  have d1 := q7.cell 1
  have d2 := q7.cell 2
  have d3 := q7.cell 3
  have d4 := q7.cell 4
  have d5 := q7.cell 5
  simp only [List.getElem?_toArray, List.getElem?_cons_zero, List.getElem?_cons_succ] at d0 d1 d2 d3 d4 d5
  go_wp2_with fail
  clear c0 c1 c2 c3 c4 c5 d0 d1 d2 d3 d4 d5
  go_loopg [5] g.prods.length (fun gk s5 wr => ∃ i : Nat, s5 = .int .i64 i ∧ i + gk = g.prods.length ∧ GB w g ⟨ta, tc, na, nc, pa, pc⟩ wr ∧ Blk wr (w.heap.size + 1) 25 #[.int .i64 g.k, .slice ta' g.toks.length tc', .string g.sep, .slice na' g.names.length nc', .int .i64 g.start, .slice pa' g.prods.length pc'])
  case atStart => exact ⟨0, rfl, by omega, hG2, q7⟩
  case round =>
    clear hG2 q7
    obtain ⟨i, rfl, hi, hG, q7⟩ := hrel
    replace hi := Lib.hid hi
    obtain ⟨c0, c1, c2, c3, c4, c5⟩ := hG.cells
    dsimp only at c1 c3 c5
    have d5 := q7.cell 5
    simp only [List.getElem?_toArray, List.getElem?_cons_zero, List.getElem?_cons_succ] at d5
    by_cases hin : i < g.prods.length
    · have hxi : g.prods[i]? = some g.prods[i] := List.getElem?_eq_getElem hin
      obtain ⟨b, off, hA, hbt, x0, RA, rc, x1, hx2, hx3, hx4⟩ := hPr.out.get hxi
      obtain ⟨b', off', hA', hbt', z0, RA', rc', z1, hz2, hz3, hz4⟩ := hPr'.out.get hxi
      have hpr := hr8.out _ (List.getElem_mem hin)
      generalize g.prods[i] = p at *
      replace hxi := Lib.hid hxi
      have x0' := (hG.2.2.cell (p := ⟨b, off + i * 2, none⟩) hbt).trans x0
      have x1' := (hG.2.2.cell (p := ⟨b, off + i * 2 + 1, none⟩) hbt).trans x1
      have z0' := (hG.2.2.cell (p := ⟨b', off' + i * 2, none⟩) hbt').trans z0
      have z1' := (hG.2.2.cell (p := ⟨b', off' + i * 2 + 1, none⟩) hbt').trans z1
      clear x0 x1 z0 z1
      subst hA hA'
      have hzi : (0 : Int) ≤ i := by omega
      have hzn : (i : Int) < g.prods.length := by omega
      go_upto_region 6 with (fail)
      have hSk := Lib.hid (fun (p' : KeptBy wr) => sameints_true RA RA' p.right.length rc rc' p.right p'.world (((hx2.below hG.2.2).below (p'.kept.mono hG.2.2.size)).mono (Nat.le_trans hG.2.2.size p'.kept.size)) (((hz2.below hG.2.2).below (p'.kept.mono hG.2.2.size)).mono (Nat.le_trans hG.2.2.size p'.kept.size)) (by unfold maxLen; omega))
      have k0 := cell_kept x0'
      have k1 := cell_kept x1'
      have k2 := cell_kept z0'
      have k3 := cell_kept z1'
      have k4 := cell_kept c5
      have k5 := cell_kept d5
      refine wp_region_kept (by kernel_rfl) (by kernel_rfl) ?_
      repeat (go_big_quiet_step ((go_at_call 60; exact Calls.kept_by (hSk.out _))))
      refine wpQuiet_nil ?_
      rintro _ ⟨p9, rfl⟩
      have hpk := p9.kept
      clear hSk k0 k1 k2 k3 k4 k5
      generalize p9.world = w3 at hpk
      go_wp2_with fail
      go_roundg (g.prods.length - (i + 1))
      case measure => have := hi.out; omega
      case rel => exact ⟨i + 1, by go_num, by have := hi.out; omega, hG.step hpk, q7.step hpk⟩
    · go_wp2_with fail
      go_ret
      exact ⟨rfl, hG.2.2⟩
end Go.Proofs.YtnnkfgekiaaehaaGreat

/- All, of the program and of the reference. -/
namespace Go.Proofs.YtnnkfgekiaaehaaGreat
open Go.ChangeShapes Go.WideShapes Go.ChangeAt Go.RowKit
set_option linter.unusedVariables false

/-- an own slice of own slices of looks -/
def OwnSS (W : World) (base : Nat) (v : Value) (Ls : List (List Lk)) : Prop :=
  ∃ vals : List Value, Own1 W base 28 v vals ∧ vals.length = Ls.length ∧ ∀ (i : Nat) (L : List Lk), Ls[i]? = some L → ∃ u, vals[i]? = some u ∧ OwnL W 0 u L
theorem OwnSS.nil (W : World) (base : Nat) : OwnSS W base (.slice none 0 0) [] := ⟨[], Own1.nil _ _ _, rfl, by simp⟩
theorem OwnSS.step {W W' : World} {base : Nat} {v : Value} {Ls : List (List Lk)} (h : OwnSS W base v Ls) (hb : Below W.heap.size W W') : OwnSS W' base v Ls := by
  obtain ⟨vals, h1, h2, h3⟩ := h
  exact ⟨vals, row_step h1 hb, h2, fun i L hL => by obtain ⟨u, a, b⟩ := h3 i L hL; exact ⟨u, a, b.step hb⟩⟩
theorem OwnSS.rds {W : World} {base n : Nat} {v : Value} {Ls : List (List Lk)} {m : Int} (h : OwnSS W base v Ls) (hn : Ls.length = n) (hm8 : m ≤ 8) (hr : ∀ L ∈ Ls, Asc L ∧ ∀ x ∈ L, x.right m) : ∃ A c, v = .slice A n c ∧ RdS W m A n Ls := by
  obtain ⟨vals, h1, h2, h3⟩ := h
  rcases h1.2 with ⟨rfl, h0⟩ | ⟨g, cap, cur, rfl, hb, hg, hnc, hcm, hcs, ht⟩
  · have : n = 0 := by omega
    subst this
    exact ⟨none, 0, rfl, hn, .inl rfl⟩
  · refine ⟨some ⟨g, 0, none⟩, cap, by rw [← hn, ← h2], hn, .inr ⟨g, 0, rfl, (Array.getElem?_eq_some_iff.1 hg).1, fun i L hL => ?_⟩⟩
    obtain ⟨u, hu, ho⟩ := h3 i L hL
    obtain ⟨ha, hx⟩ := hr L (List.mem_of_getElem? hL)
    obtain ⟨X, c, rfl, hS⟩ := SetAt.of_own ho hx hm8 ha
    refine ⟨X, c, ?_, hS⟩
    have hi := (List.getElem?_eq_some_iff.1 hu).1
    have h1 : (cur.toList.take (vals.length * 1))[i]? = vals[i]? := by rw [ht]
    rw [List.getElem?_take_of_lt (by omega), hu] at h1
    simp only [World.cell?, hg, Nat.zero_add]
    simp only [Option.isSome_none, Bool.false_eq_true, if_false]
    rw [← Array.getElem?_toList, h1]
theorem OwnSS.push {W W' : World} {base : Nat} {v v' : Value} {Ls : List (List Lk)} {L : List Lk} {u : Value} {vals : List Value} (h1 : Own1 W base 28 v vals) (h2 : vals.length = Ls.length) (h3 : ∀ (i : Nat) (L : List Lk), Ls[i]? = some L → ∃ u, vals[i]? = some u ∧ OwnL W 0 u L) (hu : OwnL W 0 u L)
    (h' : W'.ownsRow base 28 1 v' (vals.length + 1) (vals ++ [u])) (hg : W.grownBy W' v.ownBlock) : OwnSS W' base v' (Ls ++ [L]) := by
  have hne : ∀ (b : Nat) (cs : Array Value), v.ownBlock = some b → ¬ Blk W b 41 cs := by
    intro b cs e hq
    rcases h1.2 with ⟨rfl, _⟩ | ⟨g, cap, cur, rfl, _, hgg, _⟩
    · cases e
    · injection e with e
      subst e
      have : W.heap[g]? = some (.cells cs 41 (0, 0)) := hq
      rw [hgg] at this
      cases this
  refine ⟨vals ++ [u], by unfold Own1; rw [List.length_append]; exact h', by simp [h2], fun i M hM => ?_⟩
  by_cases hi : i < Ls.length
  · rw [List.getElem?_append_left hi] at hM
    obtain ⟨u', a, b⟩ := h3 i M hM
    exact ⟨u', by rw [List.getElem?_append_left (by omega)]; exact a, row_grown b hg hne⟩
  · have he : i = Ls.length := by have := (List.getElem?_eq_some_iff.1 hM).1; simp at this; omega
    subst he
    rw [List.getElem?_append_right (Nat.le_refl _), Nat.sub_self] at hM
    simp at hM
    subst hM
    exact ⟨u, by rw [← h2, List.getElem?_append_right (Nat.le_refl _), Nat.sub_self]; rfl, row_grown hu hg hne⟩

/-- what All hands back where all is right -/
def RetAll (g : Gr) (w : World) (e : Ending) (w' : World) : Prop := ∃ Ls A c, e = .returned (.tuple #[.slice A g.names.length c, .int .i64 0, .int .i64 0]) ∧ RdS w' g.toks.length A g.names.length Ls ∧ (∀ i : Nat, i < g.names.length → FSet g (16 + (i : Int)) (Ls.getD i [])) ∧ Below w.heap.size w w'
theorem fset_at {g : Gr} (hok : gchk g = 0) {ss fs : List (List Lk)} (h1 : SetsFit g.k.toNat ss) (h2 : SoundF g.prods g.k.toNat ss) (h3 : ClosedF g.prods g.k.toNat ss) (h4 : SetsFit g.k.toNat fs) (h5 : SoundO g.prods g.k.toNat g.start fs) (h6 : ClosedO g.prods g.k.toNat g.start ss fs) {i : Nat} (hi : i < g.names.length) (y : Lk) :
    y ∈ fs.getD i [] ↔ FO g.prods g.k.toNat g.start (16 + (i : Int)) y := by
  have := retA_set hok (s := 16 + (i : Int)) (by unfold ntB; apply decide_eq_true; omega) h1 h2 h3 h4 h5 h6 y
  rwa [show (16 + (i : Int) - 16).toNat = i by omega] at this

set_option maxHeartbeats 2000000 in
theorem all_err (g : Gr) (a : GA) (w : World) (hg : GrAt w w.heap.size g a) (hs : Small g) (hE : gchk g ≠ 0) :
    Calls Tryz.prog 18 #[gval g a] w fun e w' => e = .returned (.tuple #[.slice none 0 0, .int .i64 0, .int .i64 (gchk g)]) ∧ Below w.heap.size w w' := by
  obtain ⟨ta, tc, na, nc, pa, pc⟩ := a
  have hG0 := GB.start hg
  have hC := Lib.hid (fun (W : World) (h : GrAt W W.heap.size g ⟨ta, tc, na, nc, pa, pc⟩) => gcheck_any g ⟨ta, tc, na, nc, pa, pc⟩ W h hs)
  clear hg hs
  unfold gval gcells at *
  dsimp only at *
  obtain ⟨E, hE0⟩ : ∃ E, E = gchk g := ⟨_, rfl⟩
  rw [← hE0] at hC hE ⊢
  have hEb : (E != 0) = true := by simpa using hE
  clear hE0 hE
  go_enter Tryz.func18, Tryz.ntmps18
  go_wp2_with (go_at_call 33; refine (hC.out _ ((hG0.2.1).mono hG0.2.2.size)).mono ?_; rintro e w1 ⟨rfl, hb1⟩)
  go_ret3
  exact ⟨rfl, (hG0.step hb1).2.2⟩
set_option maxHeartbeats 2000000 in
theorem refall_err (g : Gr) (a : GA) (w : World) (hg : GrAt w w.heap.size g a) (hs : Small g) (hE : gchk g ≠ 0) :
    Calls Tryz.prog 19 #[gval g a] w fun e w' => e = .returned (.tuple #[.slice none 0 0, .int .i64 0, .int .i64 (gchk g)]) ∧ Below w.heap.size w w' := by
  obtain ⟨ta, tc, na, nc, pa, pc⟩ := a
  have hG0 := GB.start hg
  have hC := Lib.hid (fun (W : World) (h : GrAt W W.heap.size g ⟨ta, tc, na, nc, pa, pc⟩) => rcheckg_any g ⟨ta, tc, na, nc, pa, pc⟩ W h hs)
  clear hg hs
  unfold gval gcells at *
  dsimp only at *
  obtain ⟨E, hE0⟩ : ∃ E, E = gchk g := ⟨_, rfl⟩
  rw [← hE0] at hC hE ⊢
  have hEb : (E != 0) = true := by simpa using hE
  clear hE0 hE
  go_enter Tryz.func19, Tryz.ntmps19
  go_wp2_with (go_at_call 39; refine (hC.out _ ((hG0.2.1).mono hG0.2.2.size)).mono ?_; rintro e w1 ⟨rfl, hb1⟩)
  go_ret3
  exact ⟨rfl, (hG0.step hb1).2.2⟩

set_option maxHeartbeats 2000000 in
theorem refall_any (g : Gr) (a : GA) (w : World) (hg : GrAt w w.heap.size g a) (hok : gchk g = 0) (hfew : ∀ s, Few g s) : Calls Tryz.prog 19 #[gval g a] w (RetAll g w) := by
  obtain ⟨ta, tc, na, nc, pa, pc⟩ := a
  have hk := gok_of hok
  have hn9 : g.names.length ≤ 8 := hk.nm.2
  have hG0 := GB.start hg
  have hC := Lib.hid (fun W (h : GrAt W W.heap.size g ⟨ta, tc, na, nc, pa, pc⟩) => rcheckg_any g ⟨ta, tc, na, nc, pa, pc⟩ W h (small_of hok))
  rw [hok] at hC
  have hF := Lib.hid (fun W (h : GrAt W W.heap.size g ⟨ta, tc, na, nc, pa, pc⟩) => follows_any g ⟨ta, tc, na, nc, pa, pc⟩ g.k.toNat hk W h)
  have hSet := Lib.hid (fun (ss fs : List (List Lk)) h1 h2 h3 h4 h5 h6 i hi y => fset_at hok (ss := ss) (fs := fs) h1 h2 h3 h4 h5 h6 (i := i) hi y)
  have hP := Lib.hid (fun (Ls : List (List Lk)) (A : Option Addr) (c : Nat) (w' : World) (h1 : RdS w' g.toks.length A g.names.length Ls) (h2 : ∀ i : Nat, i < g.names.length → FSet g (16 + (i : Int)) (Ls.getD i [])) (h3 : Below w.heap.size w w') => (show RetAll g w (.returned (.tuple #[.slice A g.names.length c, .int .i64 0, .int .i64 0])) w' from ⟨Ls, A, c, rfl, h1, h2, h3⟩))
  have hfew' := Lib.hid hfew
  clear hg hok hk hfew
  unfold gval gcells at *
  dsimp only at *
  go_enter Tryz.func19, Tryz.ntmps19
  go_upto_region 4 with (go_at_call 39; refine (hC.out _ (hG0.2.1.mono hG0.2.2.size)).mono ?_; rintro e w1 ⟨rfl, hb1⟩)
  have hG1 := hG0.step hb1
  clear hG0 hb1
  obtain ⟨c0, c1, c2, c3, c4, c5⟩ := hG1.cells
  dsimp only at c1 c3 c5
  go_wp2_with fail
  refine (hF.out _ (hG1.2.1.mono hG1.2.2.size)).mono ?_
  rintro e w2 ⟨bo, fs, ss, rfl, hS, f1, f2, f3, f4, f5, f6, hb2⟩
  have hbW := Lib.hid (hG1.step hb2).2.2
  have hFS : Hid (∀ i : Nat, i < g.names.length → FSet g (16 + (i : Int)) (fs.getD i [])) := Lib.hid fun i hi => by
    obtain ⟨_, _, _, _, hA⟩ := hS.get i hi
    exact ⟨hA.asc, hSet.out ss fs f3 f4 f5 f1 f2 f6 i hi⟩
  clear f1 f2 f3 f4 f5 f6 hSet hb2 hG1 c0 c1 c2 c3 c4 c5
  go_wp2_with fail
  go_loopg [7] g.names.length (fun gk s7 wr => ∃ i : Nat, s7 = .int .i64 i ∧ i + gk = g.names.length ∧ wr = w2)
  case atStart => exact ⟨0, rfl, by omega, rfl⟩
  case round =>
    obtain ⟨i, rfl, hi, rfl⟩ := hrel
    replace hi := Lib.hid hi
    by_cases hin : i < g.names.length
    · obtain ⟨X, xc, hcx, _, hX⟩ := hS.get i hin
      have hF1 := hFS.out i hin
      have hz : ¬ (600 : Int) < (fs.getD i []).length := by
        have := hfew'.out _ (fs.getD i []) (asc_nodup hF1.1) fun y hy => (hF1.2 y).1 hy
        omega
      generalize fs.getD i [] = L at *
      replace hF1 := Lib.hid hF1
      have hz0 : (0 : Int) ≤ i := by omega
      have hz1 : (i : Int) < g.names.length := by omega
      go_wp2_with fail
      go_roundg (g.names.length - (i + 1))
      case measure => have := hi.out; omega
      case rel => exact ⟨i + 1, by go_num, by have := hi.out; omega, rfl⟩
    · go_wp2_with fail
      go_ret3
      exact hP.out fs _ _ _ hS.rds hFS.out hbW.out

set_option maxRecDepth 100000 in
set_option maxHeartbeats 4000000 in
theorem all2_any (g : Gr) (a : GA) (w : World) (hg : GrAt w w.heap.size g a) (hok : gchk g = 0) (hfew : ∀ s, Few g s) : Calls Tryz.prog 18 #[gval g a] w (RetAll g w) := by
  obtain ⟨ta, tc, na, nc, pa, pc⟩ := a
  have hk := gok_of hok
  have hn9 : g.names.length ≤ 8 := hk.nm.2
  have ht8 := hk.tk
  have hG0 := GB.start hg
  have hC := Lib.hid (fun (W : World) (h : GrAt W W.heap.size g ⟨ta, tc, na, nc, pa, pc⟩) => gcheck_any g ⟨ta, tc, na, nc, pa, pc⟩ W h (small_of hok))
  rw [hok] at hC
  have hA := Lib.hid (fun (W : World) (h : GrAt W W.heap.size g ⟨ta, tc, na, nc, pa, pc⟩) => all_any g ⟨ta, tc, na, nc, pa, pc⟩ g.k.toNat hk W h)
  have hSet := Lib.hid (fun (ss fs : List (List Lk)) h1 h2 h3 h4 h5 h6 i hi y => fset_at hok (ss := ss) (fs := fs) h1 h2 h3 h4 h5 h6 (i := i) hi y)
  have hRt := Lib.hid (fun (s : Int) (x : Lk) (h : FO g.prods g.k.toNat g.start s x) => fo_rightG hk h)
  have hP := Lib.hid (fun (Ls : List (List Lk)) (A : Option Addr) (c : Nat) (w' : World) (h1 : RdS w' g.toks.length A g.names.length Ls) (h2 : ∀ i : Nat, i < g.names.length → FSet g (16 + (i : Int)) (Ls.getD i [])) (h3 : Below w.heap.size w w') => (show RetAll g w (.returned (.tuple #[.slice A g.names.length c, .int .i64 0, .int .i64 0])) w' from ⟨Ls, A, c, rfl, h1, h2, h3⟩))
  have hfew' := Lib.hid hfew
  clear hg hok hk hfew
  unfold gval gcells at *
  dsimp only at *
  go_enter Tryz.func18, Tryz.ntmps18
  go_upto_region 4 with (go_at_call 33; refine (hC.out _ (hG0.2.1.mono hG0.2.2.size)).mono ?_; rintro e w1 ⟨rfl, hb1⟩)
  have hG1 := hG0.step hb1
  clear hG0 hb1
  obtain ⟨c0, c1, c2, c3, c4, c5⟩ := hG1.cells
  dsimp only at c1 c3 c5
  go_wp2_with fail
  refine (hA.out _ (hG1.2.1.mono hG1.2.2.size)).mono ?_
  rintro e w2 ⟨bo, fo, ss, fs, rfl, hS1, hS2, k1, k2, k3, k4, k5, k6, k7, k8, hb2⟩
  have hbW := Lib.hid (hG1.step hb2).2.2
  have hmem : Hid (∀ i : Nat, i < g.names.length → ∀ y, y ∈ fs.getD i [] ↔ FO g.prods g.k.toNat g.start (16 + (i : Int)) y) := Lib.hid fun i hi => hSet.out ss fs k1 k2 k3 k4 k5 k6 i hi
  have hr8 : Hid (∀ i : Nat, ∀ x ∈ fs.getD i [], x.right 8) := Lib.hid fun i x hx => (setsFit_get k4 i x hx).1
  have hnd : Hid (∀ i : Nat, (fs.getD i []).Nodup) := Lib.hid fun i => by
    rw [List.getD_eq_getElem?_getD]
    cases hh : fs[i]? with
    | none => simp
    | some t => exact k8 t (List.mem_of_getElem? hh)
  clear hS1 k1 k2 k3 k4 k5 k6 k7 k8 hSet hb2 hG1 c0 c1 c2 c3 c4 c5 hC hA
  go_wp2_with fail
  go_loopg [2, 22] g.names.length (fun gk s2 s22 wr => ∃ i : Nat, s22 = .int .i64 i ∧ i + gk = g.names.length ∧ OwnSS wr w2.heap.size s2 ((List.range i).map fun j => lset (fs.getD j [])) ∧ Below w2.heap.size w2 wr)
  case atStart => exact ⟨0, rfl, by omega, OwnSS.nil _ _, Below.refl _ _⟩
  case round =>
    obtain ⟨i, rfl, hi, ho, hb⟩ := hrel
    replace hi := Lib.hid hi
    by_cases hin : i < g.names.length
    · have hS3 := (hS2.below hb).mono hb.size
      obtain ⟨mb, hmb, z0, hM⟩ := hS3.at0 i hin
      have hl6 : (fs.getD i []).length ≤ 600 := hfew'.out _ _ (hnd.out i) fun y hy => (hmem.out i hin y).1 hy
      have hr := hr8.out i
      have hrg : (List.range (i + 1)).map (fun j => lset (fs.getD j [])) = (List.range i).map (fun j => lset (fs.getD j [])) ++ [lset (fs.getD i [])] := by rw [List.range_succ, List.map_append]; rfl
      generalize (List.range i).map (fun j => lset (fs.getD j [])) = Ls at *
      generalize fs.getD i [] = S at *
      replace hrg := Lib.hid hrg
      have hz : ¬ (600 : Int) < S.length := by omega
      have hlen := hM.len 3
      have hz0 : (0 : Int) ≤ i := by omega
      have hz1 : (i : Int) < g.names.length := by omega
      have hM' := Lib.hid hM
      replace hr := Lib.hid hr
      go_wp2_with fail
      refine (sorted_any mb S _ hM'.out hr.out (by omega)).mono ?_
      rintro e w3 ⟨v3, rfl, ho3, hb3⟩
      obtain ⟨A3, c3, rfl, _, _, _, _⟩ := ho3.reads
      obtain ⟨vals, o1, o2, o3⟩ := ho.step hb3
      have hu : OwnL w3 0 (.slice A3 (lset S).length c3) (lset S) := ho3.mono (by omega)
      have hone : ∀ u ∈ (#[Value.slice A3 (lset S).length c3] : Array Value).toList, u.oneCell' = true := by
        intro u hu
        simp at hu
        subst hu
        rfl
      have hvl : vals.length ≤ 8 := by
        have h1 := congrArg List.length hrg.out
        simp at h1
        omega
      have o1' := o1.alloc (.cells #[.slice A3 (lset S).length c3] 28)
      have hbA : Below w3.heap.size w3 (w3.alloc (.cells #[.slice A3 (lset S).length c3] 28)) := bAlc (Below.refl _ _) _
      have o3' : ∀ (i : Nat) (L : List Lk), Ls[i]? = some L → ∃ u, vals[i]? = some u ∧ OwnL (w3.alloc (.cells #[.slice A3 (lset S).length c3] 28)) 0 u L := fun i L hL => by obtain ⟨u, a, b⟩ := o3 i L hL; exact ⟨u, a, b.step hbA⟩
      have hu' := hu.step hbA
      replace o3' := Lib.hid o3'
      replace hone := Lib.hid hone
      have hbs := hb.size
      have hbs3 := hb3.size
      go_wp2_with (at_builtin; refine wpList_push _ rfl _ _ 50 rfl w2.heap.size 28 _ 1 24 (by kernel_rfl) info28 rfl (by omega) _ vals.length vals rfl o1' _ #[.slice A3 (lset S).length c3] rfl (Blk.new _ _ _) rfl hone.out (by omega) (by omega) (by simp; omega) ?_; intro v' w5 ho5 hg5 hat5 hb5)
      have hS5 := OwnSS.push o1' o2 o3'.out hu' (by simpa using ho5) hg5
      have hb9 : Below w2.heap.size w2 w5 := hb5 w2 (bAlc (bStep hb hb3) _)
      go_roundg (g.names.length - (i + 1))
      case measure => have := hi.out; omega
      case rel => exact ⟨i + 1, by go_num, by have := hi.out; omega, by rw [hrg.out]; exact hS5, hb9⟩
    · have he : i = g.names.length := by have := hi.out; omega
      obtain ⟨A, c, rfl, hR⟩ := ho.rds (m := g.toks.length) (n := g.names.length) (by simp; omega) (by omega) (fun L hL => by
        obtain ⟨j, hj, rfl⟩ := List.mem_map.1 hL
        have hj := List.mem_range.1 hj
        exact ⟨lset_asc (k := 8) (hr8.out j), fun x hx => hRt.out _ x ((hmem.out j (by omega) x).1 ((lset_mem (k := 8) (hr8.out j) x).1 hx))⟩)
      have hFS : Hid (∀ j : Nat, j < g.names.length → FSet g (16 + (j : Int)) (((List.range i).map fun j => lset (fs.getD j [])).getD j [])) := Lib.hid fun j hj => by
        have e : ((List.range i).map fun j => lset (fs.getD j [])).getD j [] = lset (fs.getD j []) := by
          rw [List.getD_eq_getElem?_getD, List.getElem?_map, List.getElem?_range (by omega)]; rfl
        rw [e]
        exact ⟨lset_asc (k := 8) (hr8.out j), fun y => (lset_mem (k := 8) (hr8.out j) y).trans (hmem.out j hj y)⟩
      generalize (List.range i).map (fun j => lset (fs.getD j [])) = Ls at *
      have hbF := Lib.hid (bStep hbW.out hb)
      go_wp2_with fail
      go_ret3
      exact hP.out _ _ _ _ hR hFS.out hbF.out
end Go.Proofs.YtnnkfgekiaaehaaGreat

/- Spots: their equality; SameSpots. -/
namespace Go.Proofs.YtnnkfgekiaaehaaGreat
open Go.ChangeShapes Go.WideShapes Go.ChangeAt Go.RowKit
set_option linter.unusedVariables false

/-- a spot as a value -/
def spv (x : Nat × Nat) : Value := .agg #[.int .i64 x.1, .int .i64 x.2]
theorem spv_inj {x y : Nat × Nat} (h : spv x = spv y) : x = y := by
  cases x; cases y; simp [spv] at h; rw [Prod.mk.injEq]; omega
theorem under54 : Tryz.prog.underlying 100 = some (.struct (Tryz.prog.fieldsOf 100)) := by kernel_rfl
theorem spotKeyed : Maps.Keyed Tryz.prog 100 := Maps.Keyed.of_law (deep_law_gate (P := Tryz.prog) (k := 100) (by kernel_rfl) (of_decide_eq_true (by kernel_rfl)) (of_decide_eq_true (by kernel_rfl)) (by kernel_rfl) (by kernel_rfl))
theorem fields54 : ∃ f0 f1 : Field, Tryz.prog.fieldsOf 100 = #[f0, f1] ∧ f0.name = "Prod" ∧ f0.type = 3 ∧ f0.offset = 0 ∧ f1.name = "Dot" ∧ f1.type = 3 ∧ f1.offset = 1 := by
  refine ⟨(Tryz.prog.fieldsOf 100)[0]!, (Tryz.prog.fieldsOf 100)[1]!, by kernel_rfl, by kernel_rfl, by kernel_rfl, by kernel_rfl, by kernel_rfl, by kernel_rfl, by kernel_rfl⟩
theorem cells54 : Tryz.prog.cellsOf 100 = 2 := by kernel_rfl
theorem keyT54 : Tryz.prog.keyType 100 = true := by kernel_rfl
theorem nat_wf {n : Nat} (h : n ≤ 1000000) : (Lit.int .i64 (n : Int)).wf = true := by
  have e1 : IntKind.i64.min = -9223372036854775808 := by decide
  have e2 : IntKind.i64.max = 9223372036854775807 := by decide
  simp [Lit.wf, e1, e2]
  omega
theorem take_eq_allq {α : Type} {l m : List α} {i : Nat} (hl : l.length ≤ i) (hlm : l.length = m.length) (h : l.take i = m.take i) : l = m := by
  rwa [List.take_of_length_le hl, List.take_of_length_le (by omega)] at h
theorem spot_key (x : Nat × Nat) (h1 : x.1 ≤ 1000000) (h2 : x.2 ≤ 1000000) : ∃ l, keyOf Tryz.prog 100 (spv x) = some l := by
  obtain ⟨d, hd⟩ := size_types
  obtain ⟨f0, f1, hf, n0, t0, o0, n1, t1, o1⟩ := fields54
  have hk : Tryz.prog.keyLits (Tryz.prog.types.size + 1) 100 (spv x).cells.toList = some [.int .i64 x.1, .int .i64 x.2] := by
    rw [hd]; unfold Program.keyLits; rw [under54, hf]
    simp [spv, Value.cells, cells54, cells3, n0, t0, o0, n1, t1, o1, lits_int, nat_wf h1, nat_wf h2]
  have hfo : Value.formed Tryz.prog 100 (spv x) = true := by
    simp [Value.formed, spv, cells54]
  unfold keyOf
  rw [under54]
  show ∃ l, (if (Tryz.prog.keyType 100 && Value.formed Tryz.prog 100 (spv x)) = true then (Tryz.prog.keyLits (Tryz.prog.types.size + 1) 100 (spv x).cells.toList).map (fun ls => Lit.string (keyBytes ls)) else none) = some l
  rw [if_pos (by rw [keyT54, hfo]; rfl), hk]
  exact ⟨_, rfl⟩
theorem spot_same (x y : Nat × Nat) (hx : x.1 ≤ 1000000 ∧ x.2 ≤ 1000000) (hy : y.1 ≤ 1000000 ∧ y.2 ≤ 1000000) (w : World) : (Op.equal 100 (spv x) (spv y)).run Tryz.prog w = .ok (decide (x = y)) w := by
  obtain ⟨lx, h1⟩ := spot_key x hx.1 hx.2
  obtain ⟨ly, h2⟩ := spot_key y hy.1 hy.2
  have hm : ∃ m, m ≤ 10000 ∧ Tryz.prog.keyTypeAt m 100 = true := ⟨3, by omega, by kernel_rfl⟩
  obtain ⟨m, hm1, hm2⟩ := hm
  obtain ⟨r, hr, hiff⟩ := run_equal_deep (P := Tryz.prog) w hm1 hm2 (by kernel_rfl) h1 h2
  rw [hr]
  have : r = decide (x = y) := by
    by_cases e : x = y
    · subst e
      rw [h1] at h2
      cases h2
      simp [hiff]
    · have : r ≠ true := fun h => e (by
        have hl := hiff.mp h
        rw [← hl] at h2
        exact spv_inj (spotKeyed.inj h1 h2))
      cases r
      · simp [e]
      · exact absurd rfl this
  rw [this]
theorem spot_neq (x y : Nat × Nat) (hx : x.1 ≤ 1000000 ∧ x.2 ≤ 1000000) (hy : y.1 ≤ 1000000 ∧ y.2 ≤ 1000000) (w : World) : (binOp .neq 100 (spv x) (spv y)).run Tryz.prog w = .ok (.bool (!decide (x = y))) w := by
  have h := spot_same x y hx hy w
  simp only [spv] at h ⊢
  simp only [binOp]
  simp [h, Result.andThen]
def SpotsOk (l : List (Nat × Nat)) : Prop := ∀ x ∈ l, x.1 ≤ 1000000 ∧ x.2 ≤ 1000000

theorem samespots_any (A A2 : Option Addr) (n m c c2 : Nat) (l k : List (Nat × Nat)) (w : World) (ha : RdQ w w.heap.size A n l) (hb : RdQ w w.heap.size A2 m k) (hr : SpotsOk l) (hr2 : SpotsOk k) (hn : n ≤ maxLen) (hm : m ≤ maxLen) :
    Calls Tryz.prog 28 #[.slice A n c, .slice A2 m c2] w fun e w' => e = .returned (.bool (decide (l = k))) ∧ Below w.heap.size w w' := by
  have hl := Lib.hid ha.1
  have hk := Lib.hid hb.1
  obtain ⟨R, hR⟩ : ∃ R, R = decide (l = k) := ⟨_, rfl⟩
  rw [← hR]
  replace hR := Lib.hid hR
  unfold maxLen at hn hm
  by_cases hnm : n = m
  · subst hnm
    have hE := Lib.hid (fun (y x : Nat × Nat) (hy : y ∈ l) (hx : x ∈ k) (w : World) => spot_neq y x (hr y hy) (hr2 x hx) w)
    unfold spv at hE
    go_enter Tryz.func28, Tryz.ntmps28
    go_wp2_with fail
    go_loopg [5] n (fun gk s5 wr => ∃ i : Nat, s5 = .int .i64 i ∧ i + gk = n ∧ l.take i = k.take i ∧ RdQ wr w.heap.size A n l ∧ RdQ wr w.heap.size A2 n k ∧ Below w.heap.size w wr)
    case atStart => exact ⟨0, rfl, by omega, by simp, ha, hb, Below.refl _ _⟩
    case round =>
      clear ha hb
      obtain ⟨i, rfl, hi, hni, ha, hb, hw⟩ := hrel
      replace hi := Lib.hid hi
      replace hni := Lib.hid hni
      by_cases hin : i < n
      · have hil : i < l.length := by have := hl.out; omega
        have hik : i < k.length := by have := hk.out; omega
        have hyi : l[i]? = some l[i] := List.getElem?_eq_getElem hil
        have hxi : k[i]? = some k[i] := List.getElem?_eq_getElem hik
        obtain ⟨b, off, rfl, hbt, x0, x1⟩ := ha.get hyi
        obtain ⟨b', off', rfl, hbt', y0, y1⟩ := hb.get hxi
        have htk : l.take (i + 1) = l.take i ++ [l[i]] := List.take_succ_eq_append_getElem hil
        have htk2 : k.take (i + 1) = k.take i ++ [k[i]] := List.take_succ_eq_append_getElem hik
        have hee := hE.out l[i] k[i] (List.getElem_mem hil) (List.getElem_mem hik)
        generalize hy : l[i] = y at *
        generalize hx : k[i] = x at *
        replace hy := Lib.hid hy
        replace hyi := Lib.hid hyi
        replace hx := Lib.hid hx
        replace hxi := Lib.hid hxi
        replace htk := Lib.hid htk
        replace htk2 := Lib.hid htk2
        have hzi : (0 : Int) ≤ i := by omega
        have hzn : (i : Int) < n := by omega
        by_cases hyx : y = x
        · simp only [hyx, decide_true, Bool.not_true] at hee
          have hG := Lib.hid (show l.take (i + 1) = k.take (i + 1) by rw [htk.out, htk2.out, hni.out, hyx])
          subst hyx
          go_wp2_with fail
          go_quiet (fail)
          go_wp2_with fail
          go_roundg (n - (i + 1))
          case measure => have := hi.out; omega
          case rel => exact ⟨i + 1, by go_num, by have := hi.out; omega, hG.out, ha.below (bDrwN' _ _), hb.below (bDrwN' _ _), bDrwN hw _⟩
        · have hRF : R = false := by
            rw [hR.out]; apply decide_eq_false
            rintro rfl
            exact hyx (hy.out.symm.trans hx.out)
          subst hRF
          simp only [hyx, decide_false, Bool.not_false] at hee
          clear hyx
          go_wp2_with fail
          go_quiet (fail)
          go_wp2_with fail
          go_ret
          exact ⟨rfl, bDrwN hw _⟩
      · have hRT : R = true := by
          rw [hR.out]; exact decide_eq_true (take_eq_allq (by have := hl.out; omega) (by have := hl.out; have := hk.out; omega) hni.out)
        subst hRT
        go_wp2_with fail
        go_ret
        exact ⟨rfl, hw⟩
  · have hb1 : ((n : Int) != (m : Int)) = true := by simp; omega
    have hRF : R = false := by
      rw [hR.out]; apply decide_eq_false
      rintro rfl
      exact hnm (hl.out.symm.trans hk.out)
    subst hRF
    clear hnm
    go_enter Tryz.func28, Tryz.ntmps28
    go_wp2_with fail
    go_ret
    exact ⟨rfl, Below.refl _ _⟩
end Go.Proofs.YtnnkfgekiaaehaaGreat

/- What the questions of FollowSets answer, in all cases. -/
namespace Go.Proofs.YtnnkfgekiaaehaaGreat
open Go.ChangeShapes Go.WideShapes Go.ChangeAt Go.RowKit
set_option linter.unusedVariables false

theorem nonE_zero {g : Gr} {s : Int} (h : nonE g s = 0) : gchk g = 0 ∧ ntB g s = true := by
  unfold nonE at h
  by_cases e : gchk g = 0
  · rw [if_pos e] at h
    cases hn : ntB g s with
    | true => exact ⟨e, rfl⟩
    | false => rw [hn] at h; simp at h
  · rw [if_neg e] at h; exact absurd h e
/-- all sets -/
def SetsP (g : Gr) (Ls : List (List Lk)) : Prop := (gchk g ≠ 0 ∧ Ls = []) ∨ (gchk g = 0 ∧ Ls.length = g.names.length ∧ ∀ i : Nat, i < g.names.length → FSet g (16 + (i : Int)) (Ls.getD i []))
theorem SetsP.uniq {g : Gr} {L M : List (List Lk)} (h : SetsP g L) (h' : SetsP g M) : L = M := by
  rcases h with ⟨e, rfl⟩ | ⟨e, h1, h2⟩ <;> rcases h' with ⟨e', rfl⟩ | ⟨e', h1', h2'⟩
  · rfl
  · exact absurd e' e
  · exact absurd e e'
  · refine List.ext_getElem (by omega) fun i hi hi' => ?_
    have := (h2 i (by omega)).uniq (h2' i (by omega))
    simpa [List.getD_eq_getElem?_getD, hi, hi'] using this
def RetAS (g : Gr) (w : World) (e : Ending) (w' : World) : Prop := ∃ Ls A c, e = .returned (.tuple #[.slice A Ls.length c, .int .i64 0, .int .i64 (gchk g)]) ∧ SetsP g Ls ∧ Ls.length ≤ 8 ∧ RdS w' g.toks.length A Ls.length Ls ∧ Below w.heap.size w w'
theorem all_as (g : Gr) (a : GA) (w : World) (hg : GrAt w w.heap.size g a) (hs : SmallP g) (F : Nat) (h1 : gchk g ≠ 0 → Calls Tryz.prog F #[gval g a] w fun e w' => e = .returned (.tuple #[.slice none 0 0, .int .i64 0, .int .i64 (gchk g)]) ∧ Below w.heap.size w w') (h2 : gchk g = 0 → Calls Tryz.prog F #[gval g a] w (RetAll g w)) :
    Calls Tryz.prog F #[gval g a] w (RetAS g w) := by
  by_cases e : gchk g = 0
  · have hn := (gok_of e).nm
    refine (h2 e).mono fun e' w' ⟨Ls, A, c, he, hr, hf, hb⟩ => ⟨Ls, A, c, ?_, .inr ⟨e, hr.1, hf⟩, by rw [hr.1]; exact hn.2, by rw [hr.1]; exact hr, hb⟩
    rw [he, hr.1, e]
  · exact (h1 e).mono fun e' w' ⟨he, hb⟩ => ⟨[], none, 0, by rw [he]; rfl, .inl ⟨e, rfl⟩, by simp, ⟨rfl, .inl rfl⟩, hb⟩

/-- FOLLOW of one -/
def OfP (g : Gr) (s : Int) (L : List Lk) : Prop := (nonE g s ≠ 0 ∧ L = []) ∨ (nonE g s = 0 ∧ FSet g s L)
theorem OfP.uniq {g : Gr} {s : Int} {L M : List Lk} (h : OfP g s L) (h' : OfP g s M) : L = M := by
  rcases h with ⟨e, rfl⟩ | ⟨e, h1⟩ <;> rcases h' with ⟨e', rfl⟩ | ⟨e', h1'⟩
  · rfl
  · exact absurd e' e
  · exact absurd e e'
  · exact h1.uniq h1'
def RetOS (g : Gr) (s : Int) (w : World) (e : Ending) (w' : World) : Prop := ∃ L A c, e = .returned (.tuple #[.slice A L.length c, .int .i64 (nonE g s)]) ∧ OfP g s L ∧ (∀ x ∈ L, x.right 8) ∧ L.length ≤ 4681 ∧ RdL w' w'.heap.size A L.length L ∧ Below w.heap.size w w'
theorem of_os (g : Gr) (a : GA) (s : Int) (w : World) (hg : GrAt w w.heap.size g a) (hs : SmallP g) : Calls Tryz.prog 21 #[gval g a, .int .i64 s] w (RetOS g s w) := by
  by_cases e : nonE g s = 0
  · obtain ⟨hok, hn⟩ := nonE_zero e
    have hk := gok_of hok
    refine (of_any g a s w hg hok hn fun L hL hy => hs.few hok hL fun y h => ?_).mono fun e' w' ⟨L, v, he, hL, ho, hb⟩ => ?_
    · have := hy y h; exact ⟨fo_rightG hk this, (fo_right (m := g.toks.length) hk.k1 hk.k4 (by have := hk.tk; omega) (fun p hp s hs h16 => by have := (hk.pr p hp).2.2 s hs; omega) this).2⟩
    · obtain ⟨A, c, rfl, hS⟩ := SetAt.of_own ho (fun x hx => fo_rightG hk ((hL.2 x).1 hx)) (by have := hk.tk; omega) hL.1
      exact ⟨L, A, c, by rw [he, e], .inr ⟨e, hL⟩, fun x hx => right_mono (hS.right x hx) (by have := hk.tk; omega) (by omega), hS.n4, hS.rd, hb⟩
  · exact (of_err g a s w hg hs.1.small e).mono fun e' w' ⟨he, hb⟩ => ⟨[], none, 0, he, .inl ⟨e, rfl⟩, by simp, by simp, RdL.nil _ _ _, hb⟩
theorem refof_os (g : Gr) (a : GA) (s : Int) (w : World) (hg : GrAt w w.heap.size g a) (hs : SmallP g) : Calls Tryz.prog 22 #[gval g a, .int .i64 s] w (RetOS g s w) := by
  by_cases e : nonE g s = 0
  · obtain ⟨hok, hn⟩ := nonE_zero e
    have hk := gok_of hok
    refine (refof2_any g a s w hg hok hn fun L hL hy => hs.few hok hL fun y h => ?_).mono fun e' w' ⟨L, A, c, he, hL, hS, hb⟩ => ?_
    · have := hy y h; exact ⟨fo_rightG hk this, (fo_right (m := g.toks.length) hk.k1 hk.k4 (by have := hk.tk; omega) (fun p hp s hs h16 => by have := (hk.pr p hp).2.2 s hs; omega) this).2⟩
    · exact ⟨L, A, c, by rw [he, e], .inr ⟨e, hL⟩, fun x hx => right_mono (hS.right x hx) (by have := hk.tk; omega) (by omega), hS.n4, hS.rd, hb⟩
  · exact (refof2_err g a s w hg hs.1.small e).mono fun e' w' ⟨he, hb⟩ => ⟨[], none, 0, he, .inl ⟨e, rfl⟩, by simp, by simp, RdL.nil _ _ _, hb⟩

/-- whether a look is in FOLLOW, and the error -/
def hasE (g : Gr) (s : Int) (x : Lk) : Int := if nonE g s = 0 then lchk x g.toks.length else nonE g s
def HasP (g : Gr) (s : Int) (x : Lk) (b : Bool) : Prop := (hasE g s x ≠ 0 ∧ b = false) ∨ (hasE g s x = 0 ∧ (b = true ↔ FO g.prods g.k.toNat g.start s x))
theorem HasP.uniq {g : Gr} {s : Int} {x : Lk} {b c : Bool} (h : HasP g s x b) (h' : HasP g s x c) : b = c := by
  rcases h with ⟨e, rfl⟩ | ⟨e, h1⟩ <;> rcases h' with ⟨e', rfl⟩ | ⟨e', h1'⟩
  · rfl
  · exact absurd e' e
  · exact absurd e e'
  · have := h1.trans h1'.symm
    cases b <;> cases c <;> simp_all
def RetHS (g : Gr) (s : Int) (x : Lk) (w : World) (e : Ending) (w' : World) : Prop := ∃ b : Bool, e = .returned (.tuple #[.bool b, .int .i64 (hasE g s x)]) ∧ HasP g s x b ∧ Below w.heap.size w w'
theorem has_hs (g : Gr) (a : GA) (s : Int) (x : Lk) (w : World) (hg : GrAt w w.heap.size g a) (hs : SmallP g) (hx : x.wf) : Calls Tryz.prog 13 #[gval g a, .int .i64 s, x.v] w (RetHS g s x w) := by
  by_cases e : nonE g s = 0
  · obtain ⟨hok, hn⟩ := nonE_zero e
    by_cases e2 : lchk x g.toks.length = 0
    · have h0 : hasE g s x = 0 := by unfold hasE; rw [if_pos e, e2]
      exact (has35_any g a s x w hg hok hn hx e2).mono fun e' w' ⟨b, he, hb, hw⟩ => ⟨b, by rw [he, h0], .inr ⟨h0, hb⟩, hw⟩
    · have h0 : hasE g s x = lchk x g.toks.length := by unfold hasE; rw [if_pos e]
      exact (has_bad g a s x w hg hok hn hx e2).mono fun e' w' ⟨he, hw⟩ => ⟨false, by rw [he, h0], .inl ⟨by rw [h0]; exact e2, rfl⟩, hw⟩
  · have h0 : hasE g s x = nonE g s := by unfold hasE; rw [if_neg e]
    exact (has_err g a s x w hg hs.1.small e).mono fun e' w' ⟨he, hw⟩ => ⟨false, by rw [he, h0], .inl ⟨by rw [h0]; exact e, rfl⟩, hw⟩
theorem refhas_hs (g : Gr) (a : GA) (s : Int) (x : Lk) (w : World) (hg : GrAt w w.heap.size g a) (hs : SmallP g) (hx : x.wf) : Calls Tryz.prog 23 #[gval g a, .int .i64 s, x.v] w (RetHS g s x w) := by
  by_cases e : nonE g s = 0
  · obtain ⟨hok, hn⟩ := nonE_zero e
    have h0 : hasE g s x = lchk x g.toks.length := by unfold hasE; rw [if_pos e]
    refine (refhas2_any g a s x w hg hok hn hx).mono fun e' w' ⟨b, he, hb, hw⟩ => ⟨b, by rw [he, h0], ?_, hw⟩
    by_cases e2 : lchk x g.toks.length = 0
    · rw [if_pos e2] at hb; exact .inr ⟨by rw [h0]; exact e2, hb⟩
    · rw [if_neg e2] at hb; exact .inl ⟨by rw [h0]; exact e2, hb⟩
  · have h0 : hasE g s x = nonE g s := by unfold hasE; rw [if_neg e]
    exact (refhas_err g a s x w hg hs.1.small e).mono fun e' w' ⟨he, hw⟩ => ⟨false, by rw [he, h0], .inl ⟨by rw [h0]; exact e, rfl⟩, hw⟩

/-- whether the end may follow -/
def EndP (g : Gr) (s : Int) (b : Bool) : Prop := (nonE g s ≠ 0 ∧ b = false) ∨ (nonE g s = 0 ∧ (b = true ↔ FO g.prods g.k.toNat g.start s (Lk.of [])))
theorem EndP.uniq {g : Gr} {s : Int} {b c : Bool} (h : EndP g s b) (h' : EndP g s c) : b = c := by
  rcases h with ⟨e, rfl⟩ | ⟨e, h1⟩ <;> rcases h' with ⟨e', rfl⟩ | ⟨e', h1'⟩
  · rfl
  · exact absurd e' e
  · exact absurd e e'
  · have := h1.trans h1'.symm
    cases b <;> cases c <;> simp_all
def RetES (g : Gr) (s : Int) (w : World) (e : Ending) (w' : World) : Prop := ∃ b : Bool, e = .returned (.tuple #[.bool b, .int .i64 (nonE g s)]) ∧ EndP g s b ∧ Below w.heap.size w w'
theorem ends_es (g : Gr) (a : GA) (s : Int) (w : World) (hg : GrAt w w.heap.size g a) (hs : SmallP g) : Calls Tryz.prog 24 #[gval g a, .int .i64 s] w (RetES g s w) := by
  by_cases e : nonE g s = 0
  · obtain ⟨hok, hn⟩ := nonE_zero e
    exact (ends_any g a s w hg hok hn).mono fun e' w' ⟨b, he, hb, hw⟩ => ⟨b, by rw [he, e], .inr ⟨e, hb⟩, hw⟩
  · exact (ends_err g a s w hg hs.1.small e).mono fun e' w' ⟨he, hw⟩ => ⟨false, he, .inl ⟨e, rfl⟩, hw⟩
theorem refends_es (g : Gr) (a : GA) (s : Int) (w : World) (hg : GrAt w w.heap.size g a) (hs : SmallP g) : Calls Tryz.prog 25 #[gval g a, .int .i64 s] w (RetES g s w) := by
  by_cases e : nonE g s = 0
  · obtain ⟨hok, hn⟩ := nonE_zero e
    exact (refends_any g a s w hg hok hn).mono fun e' w' ⟨b, he, hb, hw⟩ => ⟨b, by rw [he, e], .inr ⟨e, hb⟩, hw⟩
  · exact (refends_err g a s w hg hs.1.small e).mono fun e' w' ⟨he, hw⟩ => ⟨false, he, .inl ⟨e, rfl⟩, hw⟩

/-- the uses, in all cases -/
def usesE (g : Gr) (s : Int) : List (Nat × Nat) := if nonE g s = 0 then useL g.prods s else []
theorem rowU_bd (k : Nat) : ∀ (l : List Int) (d : Nat), ∀ u ∈ rowU k d l, u.1 = k ∧ u.2.1 < d + l.length
  | [], _, u, h => by simp [rowU] at h
  | s :: l, d, u, h => by
    rw [rowU] at h
    rcases List.mem_cons.1 h with rfl | h
    · exact ⟨rfl, by simp⟩
    · obtain ⟨h1, h2⟩ := rowU_bd k l (d + 1) u h
      exact ⟨h1, by rw [List.length_cons]; omega⟩
theorem usesN_bd : ∀ (ps : List Pr) (k : Nat), (∀ p ∈ ps, p.right.length ≤ 6) → ∀ u ∈ usesN k ps, u.1 < k + ps.length ∧ u.2.1 < 6
  | [], _, _, u, h => by simp [usesN] at h
  | p :: ps, k, hr, u, h => by
    rw [usesN] at h
    rcases List.mem_append.1 h with h | h
    · obtain ⟨h1, h2⟩ := rowU_bd k p.right 0 u h
      have := hr p List.mem_cons_self
      exact ⟨by rw [List.length_cons]; omega, by omega⟩
    · obtain ⟨h1, h2⟩ := usesN_bd ps (k + 1) (fun q hq => hr q (List.mem_cons_of_mem _ hq)) u h
      exact ⟨by rw [List.length_cons]; omega, h2⟩
theorem usesE_ok (g : Gr) (s : Int) : SpotsOk (usesE g s) ∧ (usesE g s).length ≤ 1000 := by
  unfold usesE
  by_cases e : nonE g s = 0
  · rw [if_pos e]
    obtain ⟨hok, hn⟩ := nonE_zero e
    have hk := gok_of hok
    have hr : ∀ p ∈ g.prods, p.right.length ≤ 6 := fun p hp => (hk.pr p hp).2.1
    refine ⟨fun x hx => ?_, Nat.le_trans (useL_len g.prods s hr) (by have := hk.pl; omega)⟩
    unfold useL at hx
    obtain ⟨u, hu, rfl⟩ := List.mem_map.1 hx
    obtain ⟨h1, h2⟩ := usesN_bd g.prods 0 hr u (List.mem_filter.1 hu).1
    have := hk.pl
    exact ⟨by show u.1 ≤ _; omega, by show u.2.1 ≤ _; omega⟩
  · rw [if_neg e]; exact ⟨(fun x hx => by cases hx), by simp⟩
def RetUS (g : Gr) (s : Int) (w : World) (e : Ending) (w' : World) : Prop := ∃ A c, e = .returned (.tuple #[.slice A (usesE g s).length c, .int .i64 (nonE g s)]) ∧ RdQ w' w'.heap.size A (usesE g s).length (usesE g s) ∧ Below w.heap.size w w'
theorem uses_us (g : Gr) (a : GA) (s : Int) (w : World) (hg : GrAt w w.heap.size g a) (hs : SmallP g) : Calls Tryz.prog 26 #[gval g a, .int .i64 s] w (RetUS g s w) := by
  by_cases e : nonE g s = 0
  · obtain ⟨hok, hn⟩ := nonE_zero e
    have h0 : usesE g s = useL g.prods s := by unfold usesE; rw [if_pos e]
    refine (uses_any g a s w hg hok hn).mono fun e' w' ⟨l, v, he, ho, hl, _, hw⟩ => ?_
    obtain ⟨_, rfl⟩ := hl
    rw [← h0] at ho
    obtain ⟨A, c, rfl, hr, _, _⟩ := ho.reads
    exact ⟨A, c, by rw [he, e], hr, hw⟩
  · have h0 : usesE g s = [] := by unfold usesE; rw [if_neg e]
    refine (uses_err g a s w hg hs.1.small e).mono fun e' w' ⟨he, hw⟩ => ⟨none, 0, ?_, ?_, hw⟩
    · rw [he, h0]; rfl
    · rw [h0]; exact ⟨rfl, .inl rfl⟩
theorem refuses_us (g : Gr) (a : GA) (s : Int) (w : World) (hg : GrAt w w.heap.size g a) (hs : SmallP g) : Calls Tryz.prog 27 #[gval g a, .int .i64 s] w (RetUS g s w) := by
  by_cases e : nonE g s = 0
  · obtain ⟨hok, hn⟩ := nonE_zero e
    have h0 : usesE g s = useL g.prods s := by unfold usesE; rw [if_pos e]
    refine (refuses_any g a s w hg hok hn).mono fun e' w' ⟨v, he, ho, hw⟩ => ?_
    rw [← h0] at ho
    obtain ⟨A, c, rfl, hr, _, _⟩ := ho.reads
    exact ⟨A, c, by rw [he, e], hr, hw⟩
  · have h0 : usesE g s = [] := by unfold usesE; rw [if_neg e]
    refine (refuses_err g a s w hg hs.1.small e).mono fun e' w' ⟨he, hw⟩ => ⟨none, 0, ?_, ?_, hw⟩
    · rw [he, h0]; rfl
    · rw [h0]; exact ⟨rfl, .inl rfl⟩
end Go.Proofs.YtnnkfgekiaaehaaGreat

/- The walk of FollowSets. -/
namespace Go.Proofs.YtnnkfgekiaaehaaGreat
open Go.ChangeShapes Go.WideShapes Go.ChangeAt Go.RowKit
set_option linter.unusedVariables false

theorem SmallP.fewO {g : Gr} (h : SmallP g) (hok : gchk g = 0) (s : Int) : Few g s := fun L hn hL => h.few hok hn fun y hy => by
  have hk := gok_of hok
  exact ⟨fo_rightG hk (hL y hy), (fo_right (m := g.toks.length) hk.k1 hk.k4 (by have := hk.tk; omega) (fun p hp s hs h16 => by have := (hk.pr p hp).2.2 s hs; omega) (hL y hy)).2⟩

set_option maxRecDepth 100000 in
set_option maxHeartbeats 8000000 in
theorem followSets_walk (g : Gr) (a : GA) (s : Int) (x : Lk) (w : World) (hg : GrAt w w.heap.size g a) (ws : (Lit.int .i64 s).wf = true) (hx : x.wf) : Calls Tryz.prog 5 #[gval g a, .int .i64 s, x.v] w fun e w' => e = .returned (.bool true) ∧ Below w.heap.size w w' := by
  have hAw := Lib.hid (fun (W : World) => awake_any W)
  have hSm := Lib.hid (fun (W : World) (h : GrAt W W.heap.size g a) => small_some g a W h)
  have hOw := Lib.hid (fun (W : World) (hs : SmallP g) (h : GrAt W W.heap.size g a) => own_any g a W h (by have := hs.1.t; omega) (by have := hs.1.n; omega) (by have := hs.1.p; omega) (fun p hp => by have := hs.1.r p hp; omega))
  have hAl := Lib.hid (fun (b : GA) (W : World) (hs : SmallP g) (h : GrAt W W.heap.size g b) => all_as g b W h hs 18 (fun e => all_err g b W h hs.1.small e) (fun e => all2_any g b W h e (hs.fewO e)))
  have hAl2 := Lib.hid (fun (b : GA) (W : World) (hs : SmallP g) (h : GrAt W W.heap.size g b) => all_as g b W h hs 19 (fun e => refall_err g b W h hs.1.small e) (fun e => refall_any g b W h e (hs.fewO e)))
  have hOf := Lib.hid (fun (b : GA) (W : World) (hs : SmallP g) (h : GrAt W W.heap.size g b) => of_os g b s W h hs)
  have hOf2 := Lib.hid (fun (b : GA) (W : World) (hs : SmallP g) (h : GrAt W W.heap.size g b) => refof_os g b s W h hs)
  have hHa := Lib.hid (fun (b : GA) (W : World) (hs : SmallP g) (h : GrAt W W.heap.size g b) => has_hs g b s x W h hs hx)
  have hHa2 := Lib.hid (fun (b : GA) (W : World) (hs : SmallP g) (h : GrAt W W.heap.size g b) => refhas_hs g b s x W h hs hx)
  have hEn := Lib.hid (fun (b : GA) (W : World) (hs : SmallP g) (h : GrAt W W.heap.size g b) => ends_es g b s W h hs)
  have hEn2 := Lib.hid (fun (b : GA) (W : World) (hs : SmallP g) (h : GrAt W W.heap.size g b) => refends_es g b s W h hs)
  have hUs := Lib.hid (fun (b : GA) (W : World) (hs : SmallP g) (h : GrAt W W.heap.size g b) => uses_us g b s W h hs)
  have hUs2 := Lib.hid (fun (b : GA) (W : World) (hs : SmallP g) (h : GrAt W W.heap.size g b) => refuses_us g b s W h hs)
  have hSG := Lib.hid (fun (b c : GA) (W : World) (hs : SmallP g) (h : GrAt W W.heap.size g b) (h' : GrAt W W.heap.size g c) => samegrammar_true g b c W h h' hs.1)
  have hSS := Lib.hid (fun (A A2 : Option Addr) (n c c2 : Nat) (Ls : List (List Lk)) (W : World) (h1 : RdS W g.toks.length A n Ls) (h2 : RdS W g.toks.length A2 n Ls) (hn : n ≤ 1000000) => samesets_true g.toks.length A A2 n c c2 Ls W h1 h2 hn)
  have hSL := Lib.hid (fun (L : List Lk) (W : World) (A A2 : Option Addr) (c c2 : Nat) (h1 : RdL W W.heap.size A L.length L) (h2 : RdL W W.heap.size A2 L.length L) (hr : ∀ x ∈ L, x.right 8) (hn : L.length ≤ 4681) => same_sets (W := W) (m := 8) (c := c) (c2 := c2) h1 h2 hr hn)
  have hSQ : Hid (∀ (W : World) (A A2 : Option Addr) (c c2 : Nat), RdQ W W.heap.size A (usesE g s).length (usesE g s) → RdQ W W.heap.size A2 (usesE g s).length (usesE g s) → Calls Tryz.prog 28 #[.slice A (usesE g s).length c, .slice A2 (usesE g s).length c2] W fun e w' => e = .returned (.bool true) ∧ Below W.heap.size W w') := Lib.hid fun W A A2 c c2 h1 h2 => by
    obtain ⟨o1, o2⟩ := usesE_ok g s
    have := samespots_any A A2 (usesE g s).length (usesE g s).length c c2 (usesE g s) (usesE g s) W h1 h2 o1 o1 (by unfold maxLen; omega) (by unfold maxLen; omega)
    rwa [decide_eq_true rfl] at this
  have hOU := Lib.hid (fun (L M : List Lk) (h : OfP g s L) (h' : OfP g s M) => h.uniq h')
  have hAU := Lib.hid (fun (L M : List (List Lk)) (h : SetsP g L) (h' : SetsP g M) => h.uniq h')
  have hHU := Lib.hid (fun (b c : Bool) (h : HasP g s x b) (h' : HasP g s x c) => h.uniq h')
  have hEU := Lib.hid (fun (b c : Bool) (h : EndP g s b) (h' : EndP g s c) => h.uniq h')
  unfold RetAS at hAl hAl2
  unfold RetOS at hOf hOf2
  unfold RetHS at hHa hHa2
  unfold RetES at hEn hEn2
  unfold RetUS at hUs hUs2
  generalize usesE g s = UL at *
  generalize gchk g = CE at *
  generalize nonE g s = NE at *
  generalize hasE g s x = HE at *
  obtain ⟨ta, tc, na, nc, pa, pc⟩ := a
  have hG0 := (GB.start hg).alloc (.cells x.cells 41)
  have q5 : Blk ((w.alloc (.cells (gcells g ⟨ta, tc, na, nc, pa, pc⟩) 25)).alloc (.cells x.cells 41)) (w.heap.size + 1) 41 x.cells := Blk.newAt _ _ _ _ (by simp)
  clear hg hx ws
  unfold gval gcells at *
  unfold Lk.cells at *
  unfold Lk.v at *
  dsimp only at *
  go_enter Tryz.func5, Tryz.ntmps5
  go_upto_region 1 with (fail)
  generalize (w.alloc (.cells #[.int .i64 g.k, .slice ta g.toks.length tc, .string g.sep, .slice na g.names.length nc, .int .i64 g.start, .slice pa g.prods.length pc] 25)).alloc (.cells #[.int .i64 x.n, .int .i64 x.a, .int .i64 x.b, .int .i64 x.c, .int .i64 x.d] 41) = W at *
  obtain ⟨c0, c1, c2, c3, c4, c5⟩ := hG0.cells
  dsimp only at c1 c3 c5
  go_wp2_with fail
  refine (hSm.out _ ((hG0.2.1).mono hG0.2.2.size)).mono ?_
  rintro e w1 ⟨b1, rfl, hL, hb1⟩
  have hG1 := hG0.step hb1
  have q6 := q5.step hb1
  clear hG0 hb1 c0 c1 c2 c3 c4 c5 q5
  obtain ⟨c0, c1, c2, c3, c4, c5⟩ := hG1.cells
  dsimp only at c1 c3 c5
  replace hL := Lib.hid hL
  cases b1 with
  | false =>
    have hbW := Lib.hid hG1.2.2
    go_wp2_with (go_at_call 7; refine (hAw.out _).mono ?_; rintro e w2 ⟨rfl, hb2⟩)
    go_ret
    exact ⟨rfl, bStep hbW.out hb2⟩
  | true =>
    have hsm := Lib.hid (hL.out rfl)
    clear hL
    go_wp2_with fail
    refine (hOw.out _ hsm.out ((hG1.2.1).mono hG1.2.2.size)).mono ?_
    rintro e w2 ⟨⟨ta', tc', na', nc', pa', pc'⟩, rfl, hg', _, _, hb2⟩
    simp only [gval, gcells]
    go_upto_region 4 with (fail)
    have hbA : Below w2.heap.size w2 (w2.alloc (.cells #[.int .i64 g.k, .slice ta' g.toks.length tc', .string g.sep, .slice na' g.names.length nc', .int .i64 g.start, .slice pa' g.prods.length pc'] 25)) := bAlc (Below.refl _ _) _
    have qo2 := Blk.new w2 25 #[.int .i64 g.k, .slice ta' g.toks.length tc', .string g.sep, .slice na' g.names.length nc', .int .i64 g.start, .slice pa' g.prods.length pc']
    have hgo2 := hg'.step hbA
    have hG2 := (hG1.step hb2).step hbA
    have qx2 := (q6.step hb2).step hbA
    clear hG1 q6 hg' hb2 hbA c0 c1 c2 c3 c4 c5
    generalize w2.alloc (.cells #[.int .i64 g.k, .slice ta' g.toks.length tc', .string g.sep, .slice na' g.names.length nc', .int .i64 g.start, .slice pa' g.prods.length pc'] 25) = W2 at *
    generalize w2.heap.size = gp at *
    obtain ⟨c0, c1, c2, c3, c4, c5⟩ := hG2.cells
    dsimp only at c1 c3 c5
    have o0 := qo2.cell 0
    have o1 := qo2.cell 1
    have o2 := qo2.cell 2
    have o3 := qo2.cell 3
    have o4 := qo2.cell 4
    have o5 := qo2.cell 5
    have d0 := qx2.cell 0
    have d1 := qx2.cell 1
    have d2 := qx2.cell 2
    have d3 := qx2.cell 3
    have d4 := qx2.cell 4
    simp only [List.getElem?_toArray, List.getElem?_cons_zero, List.getElem?_cons_succ] at o0 o1 o2 o3 o4 o5 d0 d1 d2 d3 d4
    go_wp2_with fail
    refine (hAl.out ⟨ta', tc', na', nc', pa', pc'⟩ _ hsm.out (hgo2)).mono ?_
    rintro e v3 ⟨Ls, A1, k1, rfl, hP1, hn1, hR1, hb⟩
    replace hP1 := Lib.hid hP1
    replace hR1 := Lib.hid hR1
    have hG3 := hG2.step hb
    have qo3 := qo2.step hb
    have qx3 := qx2.step hb
    have hgo3 := hgo2.step hb
    clear hG2 qo2 qx2 hgo2 hb c0 c1 c2 c3 c4 c5 o0 o1 o2 o3 o4 o5 d0 d1 d2 d3 d4
    obtain ⟨c0, c1, c2, c3, c4, c5⟩ := hG3.cells
    dsimp only at c1 c3 c5
    have o0 := qo3.cell 0
    have o1 := qo3.cell 1
    have o2 := qo3.cell 2
    have o3 := qo3.cell 3
    have o4 := qo3.cell 4
    have o5 := qo3.cell 5
    have d0 := qx3.cell 0
    have d1 := qx3.cell 1
    have d2 := qx3.cell 2
    have d3 := qx3.cell 3
    have d4 := qx3.cell 4
    simp only [List.getElem?_toArray, List.getElem?_cons_zero, List.getElem?_cons_succ] at o0 o1 o2 o3 o4 o5 d0 d1 d2 d3 d4
    go_wp2_with fail
    refine (hAl2.out ⟨ta, tc, na, nc, pa, pc⟩ _ hsm.out ((hG3.2.1).mono hG3.2.2.size)).mono ?_
    rintro e v4 ⟨Ls2, A2, k2, rfl, hP2, _, hR2, hb⟩
    obtain rfl := hAU.out _ _ hP2 hP1.out
    clear hP2 hP1
    replace hR2 := Lib.hid hR2
    have hG4 := hG3.step hb
    have qo4 := qo3.step hb
    have qx4 := qx3.step hb
    have hgo4 := hgo3.step hb
    have hR1' := Lib.hid (hR1.out.step hb)
    clear hR1
    clear hG3 qo3 qx3 hgo3 hb c0 c1 c2 c3 c4 c5 o0 o1 o2 o3 o4 o5 d0 d1 d2 d3 d4
    obtain ⟨c0, c1, c2, c3, c4, c5⟩ := hG4.cells
    dsimp only at c1 c3 c5
    have o0 := qo4.cell 0
    have o1 := qo4.cell 1
    have o2 := qo4.cell 2
    have o3 := qo4.cell 3
    have o4 := qo4.cell 4
    have o5 := qo4.cell 5
    have d0 := qx4.cell 0
    have d1 := qx4.cell 1
    have d2 := qx4.cell 2
    have d3 := qx4.cell 3
    have d4 := qx4.cell 4
    simp only [List.getElem?_toArray, List.getElem?_cons_zero, List.getElem?_cons_succ] at o0 o1 o2 o3 o4 o5 d0 d1 d2 d3 d4
    go_wp2_with fail
    refine (hSS.out A1 A2 _ k1 k2 _ _ hR1'.out hR2.out (by omega)).mono ?_
    rintro e v5a ⟨rfl, hb⟩
    clear hR1' hR2 hn1
    have hG5 := hG4.step hb
    have qo5 := qo4.step hb
    have qx5 := qx4.step hb
    have hgo5 := hgo4.step hb
    clear hG4 qo4 qx4 hgo4 hb c0 c1 c2 c3 c4 c5 o0 o1 o2 o3 o4 o5 d0 d1 d2 d3 d4
    obtain ⟨c0, c1, c2, c3, c4, c5⟩ := hG5.cells
    dsimp only at c1 c3 c5
    have o0 := qo5.cell 0
    have o1 := qo5.cell 1
    have o2 := qo5.cell 2
    have o3 := qo5.cell 3
    have o4 := qo5.cell 4
    have o5 := qo5.cell 5
    have d0 := qx5.cell 0
    have d1 := qx5.cell 1
    have d2 := qx5.cell 2
    have d3 := qx5.cell 3
    have d4 := qx5.cell 4
    simp only [List.getElem?_toArray, List.getElem?_cons_zero, List.getElem?_cons_succ] at o0 o1 o2 o3 o4 o5 d0 d1 d2 d3 d4
    go_wp2_with fail
    refine (hOf.out ⟨ta', tc', na', nc', pa', pc'⟩ _ hsm.out (hgo5)).mono ?_
    rintro e v5 ⟨L1, A3, k3, rfl, hP3, hr3, hl3, hR3, hb⟩
    replace hP3 := Lib.hid hP3
    replace hr3 := Lib.hid hr3
    replace hR3 := Lib.hid hR3
    have hG6 := hG5.step hb
    have qo6 := qo5.step hb
    have qx6 := qx5.step hb
    have hgo6 := hgo5.step hb
    clear hG5 qo5 qx5 hgo5 hb c0 c1 c2 c3 c4 c5 o0 o1 o2 o3 o4 o5 d0 d1 d2 d3 d4
    obtain ⟨c0, c1, c2, c3, c4, c5⟩ := hG6.cells
    dsimp only at c1 c3 c5
    have o0 := qo6.cell 0
    have o1 := qo6.cell 1
    have o2 := qo6.cell 2
    have o3 := qo6.cell 3
    have o4 := qo6.cell 4
    have o5 := qo6.cell 5
    have d0 := qx6.cell 0
    have d1 := qx6.cell 1
    have d2 := qx6.cell 2
    have d3 := qx6.cell 3
    have d4 := qx6.cell 4
    simp only [List.getElem?_toArray, List.getElem?_cons_zero, List.getElem?_cons_succ] at o0 o1 o2 o3 o4 o5 d0 d1 d2 d3 d4
    go_wp2_with fail
    refine (hOf2.out ⟨ta, tc, na, nc, pa, pc⟩ _ hsm.out ((hG6.2.1).mono hG6.2.2.size)).mono ?_
    rintro e v6 ⟨L2, A4, k4, rfl, hP4, _, _, hR4, hb⟩
    obtain rfl := hOU.out _ _ hP4 hP3.out
    clear hP4 hP3
    replace hR4 := Lib.hid hR4
    have hG7 := hG6.step hb
    have qo7 := qo6.step hb
    have qx7 := qx6.step hb
    have hgo7 := hgo6.step hb
    have hR3' := Lib.hid ((hR3.out.below hb).mono hb.size)
    clear hR3
    clear hG6 qo6 qx6 hgo6 hb c0 c1 c2 c3 c4 c5 o0 o1 o2 o3 o4 o5 d0 d1 d2 d3 d4
    obtain ⟨c0, c1, c2, c3, c4, c5⟩ := hG7.cells
    dsimp only at c1 c3 c5
    have o0 := qo7.cell 0
    have o1 := qo7.cell 1
    have o2 := qo7.cell 2
    have o3 := qo7.cell 3
    have o4 := qo7.cell 4
    have o5 := qo7.cell 5
    have d0 := qx7.cell 0
    have d1 := qx7.cell 1
    have d2 := qx7.cell 2
    have d3 := qx7.cell 3
    have d4 := qx7.cell 4
    simp only [List.getElem?_toArray, List.getElem?_cons_zero, List.getElem?_cons_succ] at o0 o1 o2 o3 o4 o5 d0 d1 d2 d3 d4
    go_wp2_with fail
    refine (hHa.out ⟨ta', tc', na', nc', pa', pc'⟩ _ hsm.out (hgo7)).mono ?_
    rintro e v7 ⟨bh, rfl, hP5, hb⟩
    replace hP5 := Lib.hid hP5
    have hG8 := hG7.step hb
    have qo8 := qo7.step hb
    have qx8 := qx7.step hb
    have hgo8 := hgo7.step hb
    have hR3'' := Lib.hid ((hR3'.out.below hb).mono hb.size)
    clear hR3'
    have hR4' := Lib.hid ((hR4.out.below hb).mono hb.size)
    clear hR4
    clear hG7 qo7 qx7 hgo7 hb c0 c1 c2 c3 c4 c5 o0 o1 o2 o3 o4 o5 d0 d1 d2 d3 d4
    obtain ⟨c0, c1, c2, c3, c4, c5⟩ := hG8.cells
    dsimp only at c1 c3 c5
    have o0 := qo8.cell 0
    have o1 := qo8.cell 1
    have o2 := qo8.cell 2
    have o3 := qo8.cell 3
    have o4 := qo8.cell 4
    have o5 := qo8.cell 5
    have d0 := qx8.cell 0
    have d1 := qx8.cell 1
    have d2 := qx8.cell 2
    have d3 := qx8.cell 3
    have d4 := qx8.cell 4
    simp only [List.getElem?_toArray, List.getElem?_cons_zero, List.getElem?_cons_succ] at o0 o1 o2 o3 o4 o5 d0 d1 d2 d3 d4
    go_wp2_with fail
    refine (hHa2.out ⟨ta, tc, na, nc, pa, pc⟩ _ hsm.out ((hG8.2.1).mono hG8.2.2.size)).mono ?_
    rintro e v8 ⟨bh2, rfl, hP6, hb⟩
    obtain rfl := hHU.out _ _ hP6 hP5.out
    clear hP6 hP5
    have hG9 := hG8.step hb
    have qo9 := qo8.step hb
    have qx9 := qx8.step hb
    have hgo9 := hgo8.step hb
    have hR3''' := Lib.hid ((hR3''.out.below hb).mono hb.size)
    clear hR3''
    have hR4'' := Lib.hid ((hR4'.out.below hb).mono hb.size)
    clear hR4'
    clear hG8 qo8 qx8 hgo8 hb c0 c1 c2 c3 c4 c5 o0 o1 o2 o3 o4 o5 d0 d1 d2 d3 d4
    obtain ⟨c0, c1, c2, c3, c4, c5⟩ := hG9.cells
    dsimp only at c1 c3 c5
    have o0 := qo9.cell 0
    have o1 := qo9.cell 1
    have o2 := qo9.cell 2
    have o3 := qo9.cell 3
    have o4 := qo9.cell 4
    have o5 := qo9.cell 5
    have d0 := qx9.cell 0
    have d1 := qx9.cell 1
    have d2 := qx9.cell 2
    have d3 := qx9.cell 3
    have d4 := qx9.cell 4
    simp only [List.getElem?_toArray, List.getElem?_cons_zero, List.getElem?_cons_succ] at o0 o1 o2 o3 o4 o5 d0 d1 d2 d3 d4
    go_wp2_with fail
    refine (hSL.out _ _ A3 A4 k3 k4 hR3'''.out hR4''.out hr3.out hl3).mono ?_
    rintro e v9a ⟨rfl, hb⟩
    clear hR3''' hR4'' hr3 hl3
    have hG10 := hG9.step hb
    have qo10 := qo9.step hb
    have qx10 := qx9.step hb
    have hgo10 := hgo9.step hb
    clear hG9 qo9 qx9 hgo9 hb c0 c1 c2 c3 c4 c5 o0 o1 o2 o3 o4 o5 d0 d1 d2 d3 d4
    obtain ⟨c0, c1, c2, c3, c4, c5⟩ := hG10.cells
    dsimp only at c1 c3 c5
    have o0 := qo10.cell 0
    have o1 := qo10.cell 1
    have o2 := qo10.cell 2
    have o3 := qo10.cell 3
    have o4 := qo10.cell 4
    have o5 := qo10.cell 5
    have d0 := qx10.cell 0
    have d1 := qx10.cell 1
    have d2 := qx10.cell 2
    have d3 := qx10.cell 3
    have d4 := qx10.cell 4
    simp only [List.getElem?_toArray, List.getElem?_cons_zero, List.getElem?_cons_succ] at o0 o1 o2 o3 o4 o5 d0 d1 d2 d3 d4
    go_wp2_with fail
    refine (hEn.out ⟨ta', tc', na', nc', pa', pc'⟩ _ hsm.out (hgo10)).mono ?_
    rintro e v9 ⟨be, rfl, hP7, hb⟩
    replace hP7 := Lib.hid hP7
    have hG11 := hG10.step hb
    have qo11 := qo10.step hb
    have qx11 := qx10.step hb
    have hgo11 := hgo10.step hb
    clear hG10 qo10 qx10 hgo10 hb c0 c1 c2 c3 c4 c5 o0 o1 o2 o3 o4 o5 d0 d1 d2 d3 d4
    obtain ⟨c0, c1, c2, c3, c4, c5⟩ := hG11.cells
    dsimp only at c1 c3 c5
    have o0 := qo11.cell 0
    have o1 := qo11.cell 1
    have o2 := qo11.cell 2
    have o3 := qo11.cell 3
    have o4 := qo11.cell 4
    have o5 := qo11.cell 5
    have d0 := qx11.cell 0
    have d1 := qx11.cell 1
    have d2 := qx11.cell 2
    have d3 := qx11.cell 3
    have d4 := qx11.cell 4
    simp only [List.getElem?_toArray, List.getElem?_cons_zero, List.getElem?_cons_succ] at o0 o1 o2 o3 o4 o5 d0 d1 d2 d3 d4
    go_wp2_with fail
    refine (hEn2.out ⟨ta, tc, na, nc, pa, pc⟩ _ hsm.out ((hG11.2.1).mono hG11.2.2.size)).mono ?_
    rintro e v10 ⟨be2, rfl, hP8, hb⟩
    obtain rfl := hEU.out _ _ hP8 hP7.out
    clear hP8 hP7
    have hG12 := hG11.step hb
    have qo12 := qo11.step hb
    have qx12 := qx11.step hb
    have hgo12 := hgo11.step hb
    clear hG11 qo11 qx11 hgo11 hb c0 c1 c2 c3 c4 c5 o0 o1 o2 o3 o4 o5 d0 d1 d2 d3 d4
    obtain ⟨c0, c1, c2, c3, c4, c5⟩ := hG12.cells
    dsimp only at c1 c3 c5
    have o0 := qo12.cell 0
    have o1 := qo12.cell 1
    have o2 := qo12.cell 2
    have o3 := qo12.cell 3
    have o4 := qo12.cell 4
    have o5 := qo12.cell 5
    have d0 := qx12.cell 0
    have d1 := qx12.cell 1
    have d2 := qx12.cell 2
    have d3 := qx12.cell 3
    have d4 := qx12.cell 4
    simp only [List.getElem?_toArray, List.getElem?_cons_zero, List.getElem?_cons_succ] at o0 o1 o2 o3 o4 o5 d0 d1 d2 d3 d4
    go_wp2_with fail
    refine (hUs.out ⟨ta', tc', na', nc', pa', pc'⟩ _ hsm.out (hgo12)).mono ?_
    rintro e v11 ⟨A5, k5, rfl, hR5, hb⟩
    replace hR5 := Lib.hid hR5
    have hG13 := hG12.step hb
    have qo13 := qo12.step hb
    have qx13 := qx12.step hb
    have hgo13 := hgo12.step hb
    clear hG12 qo12 qx12 hgo12 hb c0 c1 c2 c3 c4 c5 o0 o1 o2 o3 o4 o5 d0 d1 d2 d3 d4
    obtain ⟨c0, c1, c2, c3, c4, c5⟩ := hG13.cells
    dsimp only at c1 c3 c5
    have o0 := qo13.cell 0
    have o1 := qo13.cell 1
    have o2 := qo13.cell 2
    have o3 := qo13.cell 3
    have o4 := qo13.cell 4
    have o5 := qo13.cell 5
    have d0 := qx13.cell 0
    have d1 := qx13.cell 1
    have d2 := qx13.cell 2
    have d3 := qx13.cell 3
    have d4 := qx13.cell 4
    simp only [List.getElem?_toArray, List.getElem?_cons_zero, List.getElem?_cons_succ] at o0 o1 o2 o3 o4 o5 d0 d1 d2 d3 d4
    go_wp2_with fail
    refine (hUs2.out ⟨ta, tc, na, nc, pa, pc⟩ _ hsm.out ((hG13.2.1).mono hG13.2.2.size)).mono ?_
    rintro e v12 ⟨A6, k6, rfl, hR6, hb⟩
    replace hR6 := Lib.hid hR6
    have hG14 := hG13.step hb
    have qo14 := qo13.step hb
    have qx14 := qx13.step hb
    have hgo14 := hgo13.step hb
    have hR5' := Lib.hid ((hR5.out.below hb).mono hb.size)
    clear hR5
    clear hG13 qo13 qx13 hgo13 hb c0 c1 c2 c3 c4 c5 o0 o1 o2 o3 o4 o5 d0 d1 d2 d3 d4
    obtain ⟨c0, c1, c2, c3, c4, c5⟩ := hG14.cells
    dsimp only at c1 c3 c5
    have o0 := qo14.cell 0
    have o1 := qo14.cell 1
    have o2 := qo14.cell 2
    have o3 := qo14.cell 3
    have o4 := qo14.cell 4
    have o5 := qo14.cell 5
    have d0 := qx14.cell 0
    have d1 := qx14.cell 1
    have d2 := qx14.cell 2
    have d3 := qx14.cell 3
    have d4 := qx14.cell 4
    simp only [List.getElem?_toArray, List.getElem?_cons_zero, List.getElem?_cons_succ] at o0 o1 o2 o3 o4 o5 d0 d1 d2 d3 d4
    go_wp2_with fail
    refine (hSQ.out _ A5 A6 k5 k6 hR5'.out hR6.out).mono ?_
    rintro e v13a ⟨rfl, hb⟩
    clear hR5' hR6
    have hG15 := hG14.step hb
    have qo15 := qo14.step hb
    have qx15 := qx14.step hb
    have hgo15 := hgo14.step hb
    clear hG14 qo14 qx14 hgo14 hb c0 c1 c2 c3 c4 c5 o0 o1 o2 o3 o4 o5 d0 d1 d2 d3 d4
    obtain ⟨c0, c1, c2, c3, c4, c5⟩ := hG15.cells
    dsimp only at c1 c3 c5
    have o0 := qo15.cell 0
    have o1 := qo15.cell 1
    have o2 := qo15.cell 2
    have o3 := qo15.cell 3
    have o4 := qo15.cell 4
    have o5 := qo15.cell 5
    have d0 := qx15.cell 0
    have d1 := qx15.cell 1
    have d2 := qx15.cell 2
    have d3 := qx15.cell 3
    have d4 := qx15.cell 4
    simp only [List.getElem?_toArray, List.getElem?_cons_zero, List.getElem?_cons_succ] at o0 o1 o2 o3 o4 o5 d0 d1 d2 d3 d4
    go_wp2_with fail
    refine (hSG.out ⟨ta', tc', na', nc', pa', pc'⟩ ⟨ta, tc, na, nc, pa, pc⟩ _ hsm.out hgo15 ((hG15.2.1).mono hG15.2.2.size)).mono ?_
    rintro e v14 ⟨rfl, hb⟩
    have hbF := Lib.hid (hG15.step hb).2.2
    go_wp2_with (go_at_call 7; refine (hAw.out _).mono ?_; rintro e v15 ⟨rfl, hb9⟩)
    go_ret
    exact ⟨rfl, bStep hbF.out hb9⟩
end Go.Proofs.YtnnkfgekiaaehaaGreat

/- The look that comes in as an argument: opened. -/
namespace Go.Proofs.YtnnkfgekiaaehaaGreat
open Go.ChangeShapes Go.WideShapes Go.ChangeAt Go.RowKit
set_option linter.unusedVariables false

/-- a look that comes in -/
theorem open_look {H : Type} {enc : TypeId × Value → H} {W : World} {fuel : Nat} {cs : List Value} {y : DataW H × List MemPlace} (h : DataW.trod enc Tryz.prog W 0 (fun _ => true) true fuel 41 cs = some y) :
    ∃ x : Lk, cs = x.cells.toList ∧ x.wf := by
  obtain ⟨f0, f1, he, _, t0, o0, _, t1, o1⟩ := fields42
  have hs : Tryz.prog.underlying 41 = some (.struct #[f0, f1]) := by rw [under42, he]
  obtain ⟨xs, n, _, _, hlen, hxl, hf⟩ := DataW.trod_struct hs h
  rw [c41] at hlen
  obtain ⟨v0, v1, v2, v3, v4, rfl⟩ := five_of hlen
  have g0 := hf 0 f0 rfl
  have g1 := hf 1 f1 rfl
  simp only [t0, t1, o0, o1, c3, c39, List.drop_zero, List.drop_succ_cons, List.take_succ_cons, List.take_zero] at g0 g1
  have hxl2 : xs.length = 2 := hxl
  rw [List.getElem?_eq_getElem (by omega)] at g0 g1
  obtain ⟨k, r0, _, w0⟩ := DataW.trod_int Tryz.underlying3 g0
  obtain ⟨y0, y1, y2, y3, m, _, h0, h1, h2, h3⟩ := trod_array4 under40 c3 g1
  obtain ⟨a, r1, _, w1⟩ := DataW.trod_int Tryz.underlying3 h0
  obtain ⟨b, r2, _, w2⟩ := DataW.trod_int Tryz.underlying3 h1
  obtain ⟨c, r3, _, w3⟩ := DataW.trod_int Tryz.underlying3 h2
  obtain ⟨d, r4, _, w4⟩ := DataW.trod_int Tryz.underlying3 h3
  simp at r0 r1 r2 r3 r4
  subst r0 r1 r2 r3 r4
  exact ⟨⟨k, a, b, c, d⟩, rfl, w0, w1, w2, w3, w4⟩
end Go.Proofs.YtnnkfgekiaaehaaGreat
