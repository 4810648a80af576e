/- Walks and plain laws, part 7 of 9: The statements' own helpers: look, example, awake; The statements' own helper awake: the chapter's example holds; Productions of the call's own; The kit's OwnGrammar; The kit's Any; Small grammars: few looks; the laws of FOLLOW on sets. Conditions: none beyond those that each theorem states. -/
import Derived.Test.YtnnkfgekiaaehaaD6
import Derived.Deep.RegionHeld3
import Derived.Deep.LoopGhost
import Derived.Laws.IdiomStrings
/- The statements' own helpers: look, example, awake. -/
namespace Go.Proofs.Ytnnkfgekiaaehaa
open Go.ChangeShapes Go.WideShapes Go.ChangeAt Go.RowKit
set_option linter.unusedVariables false

/-- the cells of a look under way -/
def lkc (n : Nat) (l : List Int) (i : Nat) : Array Value := #[.int .i64 n, .int .i64 (if 0 < i then l.getD 0 0 else 0), .int .i64 (if 1 < i then l.getD 1 0 else 0), .int .i64 0, .int .i64 0]
theorem lkc_end (l : List Int) (h : l.length ≤ 2) : lkc l.length l l.length = (Lk.of l).cells := by
  match l, h with
  | [], _ => rfl
  | [a], _ => rfl
  | [a, b], _ => rfl
  | a :: b :: c :: l, h => simp at h
set_option maxHeartbeats 2000000 in
theorem look_any (A : Option Addr) (n c : Nat) (l : List Int) (w : World) (h : Rd1 w w.heap.size A n (ints l)) (hn : n ≤ 2) :
    Calls Try.prog 19 #[.slice A n c] w fun e w' => e = .returned (Lk.of l).v ∧ Below w.heap.size w w' := by
  have hl : l.length = n := by have := h.1; simpa [ints] using this
  have hln := Lib.hid hl
  have h' := Lib.hid h
  clear hl h
  go_enter Try.func19, Try.ntmps19
  go_wp2_with fail
  have qa : Blk ((w.alloc (.cells #[.int .i64 0, .int .i64 0, .int .i64 0, .int .i64 0, .int .i64 0] 42)).alloc (.cells #[.int .i64 n, .int .i64 0, .int .i64 0, .int .i64 0, .int .i64 0] 42)) w.heap.size 42 #[.int .i64 0, .int .i64 0, .int .i64 0, .int .i64 0, .int .i64 0] := (Blk.new _ _ _).alloc _
  have qb : Blk ((w.alloc (.cells #[.int .i64 0, .int .i64 0, .int .i64 0, .int .i64 0, .int .i64 0] 42)).alloc (.cells #[.int .i64 n, .int .i64 0, .int .i64 0, .int .i64 0, .int .i64 0] 42)) (w.heap.size + 1) 42 (lkc n l 0) := Blk.newAt _ _ _ _ (by simp)
  have hb0 : Below w.heap.size w ((w.alloc (.cells #[.int .i64 0, .int .i64 0, .int .i64 0, .int .i64 0, .int .i64 0] 42)).alloc (.cells #[.int .i64 n, .int .i64 0, .int .i64 0, .int .i64 0, .int .i64 0] 42)) := bAlc (bAlc (Below.refl _ _) _) _
  go_loopg [4] n (fun gk s4 wr => ∃ i : Nat, s4 = .int .i64 i ∧ i + gk = n ∧ Blk wr (w.heap.size + 1) 42 (lkc n l i) ∧ Blk wr w.heap.size 42 #[.int .i64 0, .int .i64 0, .int .i64 0, .int .i64 0, .int .i64 0] ∧ Below w.heap.size w wr)
  case atStart => exact ⟨0, rfl, by omega, qb, qa, hb0⟩
  case round =>
    clear qa qb hb0
    obtain ⟨i, rfl, hi, qb, qa, hb⟩ := hrel
    replace hi := Lib.hid hi
    by_cases hin : i < n
    · have hil : i < l.length := by have := hln.out; omega
      have hsi : (ints l)[i]? = some (.int .i64 (l.getD i 0)) := by simp [ints, hil]
      obtain ⟨b, off, rfl, hbt, x0⟩ := (h'.out.below hb).get hsi
      replace hsi := Lib.hid hsi
      obtain ⟨xv, hxv⟩ : ∃ xv, xv = l.getD i 0 := ⟨_, rfl⟩
      rw [← hxv] at x0
      replace hxv := Lib.hid hxv
      have hz1 : (0 : Int) ≤ i := by omega
      have hz2 : (i : Int) < n := by omega
      rcases (by omega : i = 0 ∨ i = 1) with rfl | rfl
      · rw [Nat.add_zero] at x0
        have r1 := qb.cell 1
        have f1 := qb.frozen 1
        simp only [lkc, List.getElem?_toArray, List.getElem?_cons_zero, List.getElem?_cons_succ] at r1
        go_wp2_with fail
        go_roundg (n - (0 + 1))
        case measure => have := hi.out; omega
        case rel => exact ⟨1, by go_num, by have := hi.out; omega, by have h1 := qb.put 1 (.int .i64 xv); rw [hxv.out] at h1 ⊢; exact h1, qa.far (by simp) _, bSet hb _ _ (by simp)⟩
      · have r1 := qb.cell 2
        have f1 := qb.frozen 2
        simp only [lkc, List.getElem?_toArray, List.getElem?_cons_zero, List.getElem?_cons_succ] at r1
        go_wp2_with fail
        go_roundg (n - (1 + 1))
        case measure => have := hi.out; omega
        case rel => exact ⟨2, by go_num, by have := hi.out; omega, by have h1 := qb.put 2 (.int .i64 xv); rw [hxv.out] at h1 ⊢; exact h1, qa.far (by simp) _, bSet hb _ _ (by simp)⟩
    · have hie : i = n := by have := hi.out; omega
      subst hie
      have he := lkc_end l (by have := hln.out; omega)
      rw [hln.out] at he
      rw [he] at qb
      replace he := Lib.hid he
      have b0 := qb.cell 0
      have b1 := qb.cell 1
      have b2 := qb.cell 2
      have b3 := qb.cell 3
      have b4 := qb.cell 4
      have a0 := qa.cell 0
      have a1 := qa.cell 1
      have a2 := qa.cell 2
      have a3 := qa.cell 3
      have a4 := qa.cell 4
      have f0 := qa.frozen 0
      have f1 := qa.frozen 1
      have f2 := qa.frozen 2
      have f3 := qa.frozen 3
      have f4 := qa.frozen 4
      simp only [Lk.cells, List.getElem?_toArray, List.getElem?_cons_zero, List.getElem?_cons_succ] at b0 b1 b2 b3 b4 a0 a1 a2 a3 a4
      go_wp2_with fail
      have hq := put5 (y := Lk.of []) qa (Lk.of l)
      exact bodyPost_ret (results_look rfl _ _ _ (Lk.of l) rfl hq) rfl ⟨rfl, bSet5 hb (Nat.le_refl _) _ _ _ _ _⟩

theorem rd_row {w : World} {g : Nat} {e : TypeId} {cs : Array Value} (hb : Blk w g e cs) : Rd1 w w.heap.size (some ⟨g, 0, none⟩) cs.size cs.toList :=
  ⟨by simp, .inr ⟨g, 0, rfl, hb.lt, fun i v hv => by rw [hb.cell]; simpa using hv⟩⟩
theorem under26 : Try.prog.underlying 26 = some (.struct (Try.prog.fieldsOf 26)) := by kernel_rfl
theorem size26 : (Try.prog.info? 26).map (·.size) = some 6 := by kernel_rfl
def RetE (w : World) (e : Ending) (w' : World) : Prop := ∃ a, e = .returned (gval exG a) ∧ GrAt w' w'.heap.size exG a ∧ Below w.heap.size w w'
set_option maxHeartbeats 2000000 in
theorem example_any (w : World) : Calls Try.prog 17 #[] w (RetE w) := by
  have hP := Lib.hid (fun (a : GA) (w' : World) (h1 : GrAt w' w'.heap.size exG a) (h2 : Below w.heap.size w w') => (show RetE w (.returned (gval exG a)) w' from ⟨a, rfl, h1, h2⟩))
  go_enter Try.func17, Try.ntmps17
  go_wp2_with fail
  generalize hW0 : w.alloc (.cells #[.int .i64 2, .slice (some ⟨w.heap.size + 1, 0, none⟩) 3 3, .string { data := #[99] }, .slice (some ⟨w.heap.size + 1 + 1, 0, none⟩) 2 2, .int .i64 16, .slice (some ⟨w.heap.size + 1 + 1 + 1 + 1 + 1 + 1, 0, none⟩) 4 4] 26) = W0
  obtain ⟨W1, hW1⟩ : ∃ W1, W1 = W0.alloc (.cells #[.string { data := #[97] }, .string { data := #[98] }, .string { data := #[100] }] 9) := ⟨_, rfl⟩
  have z0 : W0.heap.size = w.heap.size + 1 := by rw [← hW0]; simp
  have q0 : Blk W0 w.heap.size 26 #[.int .i64 2, .slice (some ⟨w.heap.size + 1, 0, none⟩) 3 3, .string { data := #[99] }, .slice (some ⟨w.heap.size + 1 + 1, 0, none⟩) 2 2, .int .i64 16, .slice (some ⟨w.heap.size + 1 + 1 + 1 + 1 + 1 + 1, 0, none⟩) 4 4] := by rw [← hW0]; exact Blk.new w 26 _
  have b0 : Below w.heap.size w W0 := by rw [← hW0]; exact bAlc (Below.refl _ _) _
  rw [← hW1]
  have z1 : W1.heap.size = w.heap.size + 2 := by rw [hW1]; simp [z0]
  have q1 : Blk W1 (w.heap.size + 1) 9 #[.string { data := #[97] }, .string { data := #[98] }, .string { data := #[100] }] := by rw [hW1]; exact Blk.newAt _ _ _ _ z0.symm
  have b1 : Below W0.heap.size W0 W1 := by rw [hW1]; exact bAlc (Below.refl _ _) _
  obtain ⟨W2, hW2⟩ : ∃ W2, W2 = W1.alloc (.cells #[.string { data := #[83] }, .string { data := #[66] }] 9) := ⟨_, rfl⟩
  rw [← hW2]
  have z2 : W2.heap.size = w.heap.size + 3 := by rw [hW2]; simp [z1]
  have q2 : Blk W2 (w.heap.size + 2) 9 #[.string { data := #[83] }, .string { data := #[66] }] := by rw [hW2]; exact Blk.newAt _ _ _ _ z1.symm
  have b2 : Below W1.heap.size W1 W2 := by rw [hW2]; exact bAlc (Below.refl _ _) _
  obtain ⟨W3, hW3⟩ : ∃ W3, W3 = W2.alloc (.cells #[.int .i64 0, .int .i64 16, .int .i64 1] 3) := ⟨_, rfl⟩
  rw [← hW3]
  have z3 : W3.heap.size = w.heap.size + 4 := by rw [hW3]; simp [z2]
  have q3 : Blk W3 (w.heap.size + 3) 3 #[.int .i64 0, .int .i64 16, .int .i64 1] := by rw [hW3]; exact Blk.newAt _ _ _ _ z2.symm
  have b3 : Below W2.heap.size W2 W3 := by rw [hW3]; exact bAlc (Below.refl _ _) _
  obtain ⟨W4, hW4⟩ : ∃ W4, W4 = W3.alloc (.cells #[.int .i64 17] 3) := ⟨_, rfl⟩
  rw [← hW4]
  have z4 : W4.heap.size = w.heap.size + 5 := by rw [hW4]; simp [z3]
  have q4 : Blk W4 (w.heap.size + 4) 3 #[.int .i64 17] := by rw [hW4]; exact Blk.newAt _ _ _ _ z3.symm
  have b4 : Below W3.heap.size W3 W4 := by rw [hW4]; exact bAlc (Below.refl _ _) _
  obtain ⟨W5, hW5⟩ : ∃ W5, W5 = W4.alloc (.cells #[.int .i64 2] 3) := ⟨_, rfl⟩
  rw [← hW5]
  have z5 : W5.heap.size = w.heap.size + 6 := by rw [hW5]; simp [z4]
  have q5 : Blk W5 (w.heap.size + 5) 3 #[.int .i64 2] := by rw [hW5]; exact Blk.newAt _ _ _ _ z4.symm
  have b5 : Below W4.heap.size W4 W5 := by rw [hW5]; exact bAlc (Below.refl _ _) _
  generalize hW6 : W5.alloc (.cells #[.int .i64 16, .slice (some ⟨w.heap.size + 1 + 1 + 1, 0, none⟩) 3 3, .int .i64 16, .slice (some ⟨w.heap.size + 1 + 1 + 1 + 1, 0, none⟩) 1 1, .int .i64 17, .slice (some ⟨w.heap.size + 1 + 1 + 1 + 1 + 1, 0, none⟩) 1 1, .int .i64 17, .slice none 0 0] 59) = W6
  have z6 : W6.heap.size = w.heap.size + 7 := by rw [← hW6]; simp [z5]
  have q6 : Blk W6 (w.heap.size + 6) 59 #[.int .i64 16, .slice (some ⟨w.heap.size + 1 + 1 + 1, 0, none⟩) 3 3, .int .i64 16, .slice (some ⟨w.heap.size + 1 + 1 + 1 + 1, 0, none⟩) 1 1, .int .i64 17, .slice (some ⟨w.heap.size + 1 + 1 + 1 + 1 + 1, 0, none⟩) 1 1, .int .i64 17, .slice none 0 0] := by rw [← hW6]; exact Blk.newAt _ _ _ _ z5.symm
  have b6 : Below W5.heap.size W5 W6 := by rw [← hW6]; exact bAlc (Below.refl _ _) _
  have p5 := q5.step b6
  have p4 := (q4.step b5).step b6
  have p3 := ((q3.step b4).step b5).step b6
  have p2 := (((q2.step b3).step b4).step b5).step b6
  have p1 := ((((q1.step b2).step b3).step b4).step b5).step b6
  have p0 := (((((q0.step b1).step b2).step b3).step b4).step b5).step b6
  have hb : Below w.heap.size w W6 := bStep (bStep (bStep (bStep (bStep (bStep b0 b1) b2) b3) b4) b5) b6
  have hg : GrAt W6 W6.heap.size exG ⟨some ⟨w.heap.size + 1, 0, none⟩, 3, some ⟨w.heap.size + 2, 0, none⟩, 2, some ⟨w.heap.size + 6, 0, none⟩, 4⟩ := by
    refine ⟨rd_row p1, Nat.le_refl _, by simp [maxLen], rd_row p2, Nat.le_refl _, by simp [maxLen], ⟨rfl, .inr ⟨w.heap.size + 6, 0, rfl, by omega, ?_⟩⟩, Nat.le_refl _, by simp [maxLen], by decide, by decide, by decide⟩
    intro i p hp
    have hlt := (List.getElem?_eq_some_iff.1 hp).1
    have hl4 : exG.prods.length = 4 := rfl
    rcases (by omega : i = 0 ∨ i = 1 ∨ i = 2 ∨ i = 3) with rfl | rfl | rfl | rfl
    · cases hp; exact ⟨q6.cell 0, _, _, q6.cell 1, rd_row p3, Nat.le_refl _, by simp [maxLen]⟩
    · cases hp; exact ⟨q6.cell 2, _, _, q6.cell 3, rd_row p4, Nat.le_refl _, by simp [maxLen]⟩
    · cases hp; exact ⟨q6.cell 4, _, _, q6.cell 5, rd_row p5, Nat.le_refl _, by simp [maxLen]⟩
    · cases hp; exact ⟨q6.cell 6, _, _, q6.cell 7, Rd1.nil _ _ _, Nat.le_refl _, by simp [maxLen]⟩
  exact bodyPost_ret (results_cell_row rfl _ _ _ 26 _ (0, 0) _ rfl p0 under26 rfl size26) rfl (hP.out _ _ hg hb)
end Go.Proofs.Ytnnkfgekiaaehaa

/- The statements' own helper awake: the chapter's example holds. -/
namespace Go.Proofs.Ytnnkfgekiaaehaa
open Go.ChangeShapes Go.WideShapes Go.ChangeAt Go.RowKit
set_option linter.unusedVariables false

theorem rdL_row {W : World} {g : Nat} {l : List Lk} (h : Blk W g 42 (cellsL l).toArray) : RdL W W.heap.size (some ⟨g, 0, none⟩) l.length l :=
  ⟨rfl, .inr ⟨g, 0, rfl, h.lt, fun i x hx j hj => by rw [Nat.zero_add, h.cell, ← cellsL_get l i x hx j hj]; simp⟩⟩
theorem look_row (W : World) (g : Nat) (l : List Int) (h : Blk W g 3 (ints l).toArray) (hl : l.length ≤ 2) : Calls Try.prog 19 #[.slice (some ⟨g, 0, none⟩) l.length l.length] W fun e w' => e = .returned (Lk.of l).v ∧ Below W.heap.size W w' := by
  have hr := rd_row h
  have e : (ints l).toArray.size = l.length := by simp [ints]
  rw [e] at hr
  exact look_any _ _ _ l W hr hl

set_option maxHeartbeats 4000000 in
theorem awake_any (w : World) : Calls Try.prog 13 #[] w fun e w' => e = .returned (.bool true) ∧ Below w.heap.size w w' := by
  have hE := Lib.hid (fun W => example_any W)
  have hO := Lib.hid (fun (a : GA) (W : World) (h : GrAt W W.heap.size exG a) => of_any exG a 16 W h exG_ok (by decide +kernel) (exG_16.few (by simp)))
  have hL1 := Lib.hid (fun (W : World) (g : Nat) (h : Blk W g 3 #[.int .i64 1]) => (look_row W g [1] h (by simp) : Calls Try.prog 19 #[.slice (some ⟨g, 0, none⟩) 1 1] W fun e w' => e = .returned (.agg #[.int .i64 1, .int .i64 1, .int .i64 0, .int .i64 0, .int .i64 0]) ∧ Below W.heap.size W w'))
  have hL2 := Lib.hid (fun (W : World) (g : Nat) (h : Blk W g 3 #[.int .i64 1, .int .i64 1]) => (look_row W g [1, 1] h (by simp) : Calls Try.prog 19 #[.slice (some ⟨g, 0, none⟩) 2 2] W fun e w' => e = .returned (.agg #[.int .i64 2, .int .i64 1, .int .i64 1, .int .i64 0, .int .i64 0]) ∧ Below W.heap.size W w'))
  have hS := Lib.hid (fun (A : Option Addr) (c g : Nat) (W : World) (h1 : RdL W W.heap.size A 3 [Lk.of [], Lk.of [1], Lk.of [1, 1]]) (h2 : Blk W g 42 (cellsL [Lk.of [], Lk.of [1], Lk.of [1, 1]]).toArray) =>
    samelooks_any A (some ⟨g, 0, none⟩) 3 3 c 3 [Lk.of [], Lk.of [1], Lk.of [1, 1]] [Lk.of [], Lk.of [1], Lk.of [1, 1]] W h1 (rdL_row h2) (by intro y hy; simp at hy; rcases hy with rfl | rfl | rfl <;> exact right_wf (m := 8) (of_right (by omega) (by simp) (by simp))) (by intro y hy; simp at hy; rcases hy with rfl | rfl | rfl <;> exact right_wf (m := 8) (of_right (by omega) (by simp) (by simp))) (by simp [maxLen]) (by simp [maxLen]))
  rw [show decide ([Lk.of [], Lk.of [1], Lk.of [1, 1]] = [Lk.of [], Lk.of [1], Lk.of [1, 1]]) = true from by decide] at hS
  go_enter Try.func13, Try.ntmps13
  go_upto_region 2 with (first
    | (go_at_call 17; refine (hE.out _).mono ?_; rintro e w1 ⟨a, rfl, hg1, hb1⟩)
    | (go_at_call 9; refine (hO.out a _ hg1).mono ?_; rintro e w2 ⟨L, v, rfl, hL, ho, hb2⟩))
  have hLe := hL.uniq exG_16
  subst hLe
  obtain ⟨A, c, rfl, hrd, _, _, _⟩ := ho.reads
  have hb12 := hb1.trans (hb2.mono hb1.size)
  have hrd' := Lib.hid hrd
  clear hrd ho hg1 hL
  go_wp2_with (first
    | (go_at_call 19; refine (hL1.out _ _ (Blk.new _ _ _)).mono ?_; clear hL1; rintro e w3 ⟨rfl, hb3⟩)
    | (go_at_call 19; refine (hL2.out _ _ (Blk.new _ _ _)).mono ?_; clear hL2; rintro e w4 ⟨rfl, hb4⟩)
    | (go_at_call 12; refine (hS.out A c _ _ ((hrd'.out.below (by repeat (first | assumption | exact Below.refl _ _ | (refine bStep ?_ (by assumption)) | (with_reducible refine bAlc ?_ _)))).mono (Below.size (w := w2) (B := w2.heap.size) (by repeat (first | assumption | exact Below.refl _ _ | (refine bStep ?_ (by assumption)) | (with_reducible refine bAlc ?_ _))))) (Blk.new _ _ _)).mono ?_; rintro e w5 ⟨rfl, hb5⟩))
  go_ret
  refine ⟨rfl, hb12.trans (Below.mono (B := w2.heap.size) ?_ hb12.size)⟩
  repeat (first | assumption | exact Below.refl _ _ | (refine bStep ?_ (by assumption)) | (with_reducible refine bAlc ?_ _))
end Go.Proofs.Ytnnkfgekiaaehaa

/- Productions of the call's own. -/
namespace Go.Proofs.Ytnnkfgekiaaehaa
open Go.ChangeShapes Go.WideShapes Go.ChangeAt Go.RowKit
set_option linter.unusedVariables false

/-- the slice at RA, with the capacity c, reads as l, in a block of numbers not below base -/
def RtAt (W : World) (base : Nat) (RA : Option Addr) (c : Nat) (l : List Int) : Prop :=
  l.length ≤ c ∧ c ≤ maxLen ∧ (l = [] ∨ ∃ b off cs, RA = some ⟨b, off, none⟩ ∧ base ≤ b ∧ Blk W b 3 cs ∧ ∀ (i : Nat) (v : Value), (ints l)[i]? = some v → cs[off + i]? = some v)
theorem RtAt.of {W : World} {base : Nat} {v : Value} {l : List Int} (h : Own1 W base 3 v (ints l)) : ∃ RA c, v = .slice RA l.length c ∧ RtAt W base RA c l := by
  have hl : (ints l).length = l.length := by simp [ints]
  rcases h.2 with ⟨rfl, h0⟩ | ⟨g, cap, cur, rfl, hb, hg, hnc, hcm, hcs, ht⟩
  · have : l = [] := List.eq_nil_of_length_eq_zero (by omega)
    subst this
    exact ⟨none, 0, rfl, Nat.le_refl _, by simp [maxLen], .inl rfl⟩
  · rw [hl] at hnc ⊢
    refine ⟨some ⟨g, 0, none⟩, cap, rfl, hnc, hcm, .inr ⟨g, 0, cur, rfl, hb, hg, fun i x hx => ?_⟩⟩
    have hlt := (List.getElem?_eq_some_iff.1 hx).1
    rw [← ht, List.getElem?_take, if_pos (by omega)] at hx
    rw [Nat.zero_add]
    simpa using hx
theorem RtAt.step {W W' : World} {base : Nat} {RA : Option Addr} {c : Nat} {l : List Int} (h : RtAt W base RA c l) (hb : Below W.heap.size W W') : RtAt W' base RA c l := by
  obtain ⟨h1, h2, h3⟩ := h
  refine ⟨h1, h2, h3.imp id ?_⟩
  rintro ⟨b, off, cs, e, e1, e2, e3⟩
  exact ⟨b, off, cs, e, e1, e2.step hb, e3⟩
theorem RtAt.grown {W W' : World} {base : Nat} {RA : Option Addr} {c : Nat} {l : List Int} {row : Option Nat} (h : RtAt W base RA c l) (hg : W.grownBy W' row) (hne : ∀ g cs, row = some g → ¬ Blk W g 3 cs) : RtAt W' base RA c l := by
  obtain ⟨h1, h2, h3⟩ := h
  refine ⟨h1, h2, h3.imp id ?_⟩
  rintro ⟨b, off, cs, e, e1, e2, e3⟩
  exact ⟨b, off, cs, e, e1, e2.grown hg (fun e' => hne b cs e'.symm e2), e3⟩
theorem RtAt.reads {W : World} {base : Nat} {RA : Option Addr} {c : Nat} {l : List Int} (h : RtAt W base RA c l) : Rd1 W W.heap.size RA l.length (ints l) := by
  refine ⟨by simp [ints], ?_⟩
  rcases h.2.2 with rfl | ⟨b, off, cs, rfl, e1, e2, e3⟩
  · exact .inl rfl
  · exact .inr ⟨b, off, rfl, e2.lt, fun i v hv => by rw [e2.cell]; exact e3 i v hv⟩

/-- the cells of productions -/
def cellsP : List Pr → List (Option Addr × Nat) → List Value
  | p :: ps, r :: rs => .int .i64 p.left :: .slice r.1 p.right.length r.2 :: cellsP ps rs
  | _, _ => []
theorem cellsP_len : ∀ (ps : List Pr) (rs : List (Option Addr × Nat)), ps.length = rs.length → (cellsP ps rs).length = ps.length * 2
  | [], [], _ => rfl
  | [], _ :: _, h => by simp at h
  | _ :: _, [], h => by simp at h
  | p :: ps, r :: rs, h => by
    have := cellsP_len ps rs (by simpa using h)
    simp only [cellsP, List.length_cons, this]; omega
theorem cellsP_get : ∀ (ps : List Pr) (rs : List (Option Addr × Nat)) (i : Nat) (p : Pr) (r : Option Addr × Nat), ps[i]? = some p → rs[i]? = some r → (cellsP ps rs)[i * 2]? = some (.int .i64 p.left) ∧ (cellsP ps rs)[i * 2 + 1]? = some (.slice r.1 p.right.length r.2)
  | [], _, i, p, r, h, _ => by simp at h
  | _ :: _, [], i, p, r, _, h => by simp at h
  | p0 :: ps, r0 :: rs, 0, p, r, h, h' => by simp at h h'; subst h; subst h'; exact ⟨rfl, rfl⟩
  | p0 :: ps, r0 :: rs, i + 1, p, r, h, h' => by
    have := cellsP_get ps rs i p r (by simpa using h) (by simpa using h')
    rw [show (i + 1) * 2 = i * 2 + 1 + 1 by omega]
    exact this
theorem cellsP_app : ∀ (ps : List Pr) (rs : List (Option Addr × Nat)) (p : Pr) (r : Option Addr × Nat), ps.length = rs.length → cellsP (ps ++ [p]) (rs ++ [r]) = cellsP ps rs ++ [.int .i64 p.left, .slice r.1 p.right.length r.2]
  | [], [], p, r, _ => rfl
  | [], _ :: _, _, _, h => by simp at h
  | _ :: _, [], _, _, h => by simp at h
  | p0 :: ps, r0 :: rs, p, r, h => by
    have := cellsP_app ps rs p r (by simpa using h)
    simp only [List.cons_append, cellsP, this]
/-- v is a slice of the call's own of the productions ps, with right sides of its own -/
def PsR (W : World) (base : Nat) (v : Value) (ps : List Pr) (rs : List (Option Addr × Nat)) : Prop :=
  ps.length = rs.length ∧ W.ownsRow base 59 2 v ps.length (cellsP ps rs) ∧ ∀ (i : Nat) (p : Pr) (r : Option Addr × Nat), ps[i]? = some p → rs[i]? = some r → RtAt W base r.1 r.2 p.right
def PsO (W : World) (base : Nat) (v : Value) (ps : List Pr) : Prop := ∃ rs, PsR W base v ps rs
theorem PsO.nil (W : World) (base : Nat) : PsO W base (.slice none 0 0) [] := ⟨[], rfl, World.ownsRow_nil W base 59 2, by simp⟩
theorem row_step {W W' : World} {base : Nat} {e : TypeId} {size : Nat} {v : Value} {n : Nat} {xs : List Value} (h : W.ownsRow base e size v n xs) (hb : Below W.heap.size W W') : W'.ownsRow base e size v n xs := by
  refine ⟨h.1, ?_⟩
  rcases h.2 with hn | ⟨g, cap, cur, rfl, hg0, hg, rest⟩
  · exact .inl hn
  · exact .inr ⟨g, cap, cur, rfl, hg0, (hb.block g (Array.getElem?_eq_some_iff.1 hg).1).trans hg, rest⟩
theorem row_grown {W W' : World} {base : Nat} {e : TypeId} {size : Nat} {v : Value} {n : Nat} {xs : List Value} {row : Option Nat} (h : W.ownsRow base e size v n xs) (hg : W.grownBy W' row) (hne : ∀ g cs, row = some g → ¬ Blk W g e cs) : W'.ownsRow base e size v n xs := by
  refine ⟨h.1, ?_⟩
  rcases h.2 with hn | ⟨g, cap, cur, rfl, hg0, hg', rest⟩
  · exact .inl hn
  · exact .inr ⟨g, cap, cur, rfl, hg0, (hg.block g (Array.getElem?_eq_some_iff.1 hg').1 (fun e' => hne g cur e'.symm hg')).trans hg', rest⟩
theorem PsO.step {W W' : World} {base : Nat} {v : Value} {ps : List Pr} (h : PsO W base v ps) (hb : Below W.heap.size W W') : PsO W' base v ps := by
  obtain ⟨rs, h1, h2, h3⟩ := h
  exact ⟨rs, h1, row_step h2 hb, fun i p r a b => (h3 i p r a b).step hb⟩
theorem PsO.grown {W W' : World} {base : Nat} {v : Value} {ps : List Pr} {row : Option Nat} (h : PsO W base v ps) (hg : W.grownBy W' row) (h3' : ∀ g cs, row = some g → ¬ Blk W g 3 cs) (h59 : ∀ g cs, row = some g → ¬ Blk W g 59 cs) : PsO W' base v ps := by
  obtain ⟨rs, h1, h2, h3⟩ := h
  exact ⟨rs, h1, row_grown h2 hg h59, fun i p r a b => (h3 i p r a b).grown hg h3'⟩
theorem PsO.mono {W : World} {base b' : Nat} {v : Value} {ps : List Pr} (h : PsO W base v ps) (hb : b' ≤ base) : PsO W b' v ps := by
  obtain ⟨rs, h1, h2, h3⟩ := h
  refine ⟨rs, h1, ⟨h2.1, ?_⟩, fun i p r a b => ?_⟩
  · rcases h2.2 with hn | ⟨g, cap, cur, rfl, hg0, rest⟩
    · exact .inl hn
    · exact .inr ⟨g, cap, cur, rfl, by omega, rest⟩
  · obtain ⟨c1, c2, c3⟩ := h3 i p r a b
    refine ⟨c1, c2, c3.imp id ?_⟩
    rintro ⟨b, off, cs, e, e1, e2, e3⟩
    exact ⟨b, off, cs, e, by omega, e2, e3⟩
theorem own_blk {W : World} {base : Nat} {e : TypeId} {size : Nat} {v : Value} {n : Nat} {xs : List Value} (h : W.ownsRow base e size v n xs) {g : Nat} (hg : v.ownBlock = some g) : ∃ cs, Blk W g e cs := by
  rcases h.2 with ⟨rfl, _⟩ | ⟨g', cap, cur, rfl, _, hb, _⟩
  · simp [Value.ownBlock] at hg
  · simp [Value.ownBlock] at hg; subst hg; exact ⟨cur, hb⟩
theorem blk_type {W : World} {g : Nat} {t t' : TypeId} {cs cs' : Array Value} (h : Blk W g t cs) (h' : Blk W g t' cs') : t = t' := by
  unfold Blk at h h'; rw [h] at h'; injection h' with h'; injection h'
theorem PsO.pushed {W W' : World} {base : Nat} {v v' : Value} {ps : List Pr} {rs : List (Option Addr × Nat)} {p : Pr} {RA : Option Addr} {c : Nat} (h : PsR W base v ps rs) (hr : RtAt W base RA c p.right)
    (h1 : W'.ownsRow base 59 2 v' (ps.length + 1) (cellsP ps rs ++ [.int .i64 p.left, .slice RA p.right.length c])) (h2 : W.grownBy W' v.ownBlock) : PsO W' base v' (ps ++ [p]) := by
  obtain ⟨g1, g2, g3⟩ := h
  have hne : ∀ g cs, v.ownBlock = some g → ¬ Blk W g 3 cs := fun g cs e hb => by
    obtain ⟨cs', hb'⟩ := own_blk g2 e
    have := blk_type hb hb'
    cases this
  refine ⟨rs ++ [(RA, c)], by simp [g1], ?_, ?_⟩
  · rw [cellsP_app ps rs p (RA, c) g1, List.length_append]; exact h1
  · intro i q r hq hr'
    by_cases hi : i < ps.length
    · rw [List.getElem?_append_left hi] at hq
      rw [List.getElem?_append_left (by omega)] at hr'
      exact (g3 i q r hq hr').grown h2 hne
    · have hie : i = ps.length := by have := (List.getElem?_eq_some_iff.1 hq).1; simp at this; omega
      subst hie
      simp at hq
      rw [g1] at hr'
      simp at hr'
      subst hq; subst hr'
      exact hr.grown h2 hne
theorem PsO.reads {W : World} {base : Nat} {v : Value} {ps : List Pr} (h : PsO W base v ps) : ∃ A c, v = .slice A ps.length c ∧ RdP W W.heap.size A ps.length ps ∧ ps.length ≤ c ∧ c ≤ maxLen := by
  obtain ⟨rs, h1, h2, h3⟩ := h
  rcases h2.2 with ⟨rfl, h0⟩ | ⟨g, cap, cur, rfl, hb, hg, hnc, hcm, hcs, ht⟩
  · exact ⟨none, 0, by rw [h0], ⟨rfl, .inl h0⟩, by omega, by simp [maxLen]⟩
  · refine ⟨some ⟨g, 0, none⟩, cap, rfl, ⟨rfl, .inr ⟨g, 0, rfl, (Array.getElem?_eq_some_iff.1 hg).1, fun i p hp => ?_⟩⟩, hnc, hcm⟩
    have hi := (List.getElem?_eq_some_iff.1 hp).1
    have hri : rs[i]? = some rs[i] := List.getElem?_eq_getElem (by omega)
    obtain ⟨d1, d2⟩ := cellsP_get ps rs i p _ hp hri
    rw [← ht, List.getElem?_take, if_pos (by omega)] at d1 d2
    have hr := h3 i p _ hp hri
    refine ⟨?_, _, _, ?_, hr.reads, hr.1, hr.2.1⟩
    · rw [cell_of_row W g _ cur 59 (0, 0) hg, Nat.zero_add]; simpa using d1
    · rw [cell_of_row W g _ cur 59 (0, 0) hg, Nat.zero_add]; simpa using d2
theorem info59 : (Try.prog.info? 59).map (fun i => (i.zero, i.size, i.bytes)) = some (some (.agg #[.int .i64 0, .slice none 0 0]), 2, 32) := by kernel_rfl
theorem under24 : Try.prog.underlying 24 = some (.slice 59) := by kernel_rfl
end Go.Proofs.Ytnnkfgekiaaehaa

/- The kit's OwnGrammar. -/
namespace Go.Proofs.Ytnnkfgekiaaehaa
open Go.ChangeShapes Go.WideShapes Go.ChangeAt Go.RowKit
set_option linter.unusedVariables false

section
variable (w : World) {ops : Array Oper} {rest : List Oper} {o : Oper} {a : Act} {K : Act → World → Prop} {Q : Exit → Act → World → Prop}
/-- 'append(s, p)', one production, in a block known whole -/
theorem wp_pushP (s x : Operand) (ho : o.op = .call { callee := .builtin .append, args := #[s, x], argTypes := #[24, 24] })
    (base : Nat) (v : Value) (ps : List Pr) (rs : List (Option Addr × Nat)) (hs : a.eval s = v) (hown : PsR w base v ps rs) (g : Nat) (p : Pr) (RA : Option Addr) (c : Nat) (hx : a.eval x = .slice (some ⟨g, 0, none⟩) 1 1) (hb : Blk w g 59 #[.int .i64 p.left, .slice RA p.right.length c])
    (hr : RtAt w base RA c p.right) (hn : ps.length < 1000000) (hbase : base ≤ w.heap.size)
    (h : ∀ v' w', PsO w' base v' (ps ++ [p]) → w.grownBy w' v.ownBlock → K (a.put o.dst v') w') : Oper.wp Try.prog o a w K Q := by
  obtain ⟨i0, hi0, hz0, hz1, hz2⟩ := info_parts info59
  have hnews : ∀ j u, [Value.int .i64 p.left, .slice RA p.right.length c][j]? = some u → w.cell? ((⟨g, 0, none⟩ : Addr).add j) = some u := by
    intro j u hu
    have : (⟨g, 0, none⟩ : Addr).add j = ⟨g, j, none⟩ := by unfold Addr.add; split <;> simp_all
    rw [this, hb.cell]
    simpa using hu
  obtain ⟨v', w', hrun, h2, h3, h4, h5⟩ := run_append_own_at (P := Try.prog) w base 24 o.type 59 i0 _ 2 32 under24 hi0 hz0 hz1 hz2 rfl (by omega) v ps.length _ hown.2.1 ⟨g, 0, none⟩ 1 1 [.int .i64 p.left, .slice RA p.right.length c] rfl hnews (by simp [Value.oneCell']) (by unfold maxLen; omega) (by omega) hbase
  unfold Oper.wp execOp
  simp only [ho, resolve, invoke, builtin, Sem.run_bind, Sem.run_pure, Result.andThen_ok, List.map_toArray, List.map_cons, List.map_nil, hs, hx, hrun]
  exact h v' w' (PsO.pushed hown hr h2 h3) h3
end
theorem own_strs {w : World} {base : Nat} {v : Value} {l : List ByteArray} (h : Own1 w base 9 v (strs l)) : ∃ A c, v = .slice A l.length c ∧ Rd1 w w.heap.size A l.length (strs l) ∧ l.length ≤ c ∧ c ≤ maxLen := by
  obtain ⟨A, c, e, h1, h2, h3, _⟩ := h.reads
  have hl : (strs l).length = l.length := by simp [strs]
  rw [hl] at e h1 h2
  exact ⟨A, c, e, h1, h2, h3⟩
theorem grownBy_setC' (w : World) (b i : Nat) (v : Value) : w.grownBy (w.setCell ⟨b, i, none⟩ v) (some b) :=
  ⟨rfl, rfl, rfl, by simp, fun k hk hne => Below.heap_setCell w ⟨b, i, none⟩ v k (fun e => hne (by rw [e]))⟩
/-- the grammar's box under way -/
def ogc (g : Gr) (tv nv pv : Value) : Array Value := #[.int .i64 g.k, tv, .string g.sep, nv, .int .i64 g.start, pv]
def OG (w : World) (g : Gr) (a : GA) (tv nv pv : Value) (W : World) : Prop :=
  GrAt W w.heap.size g a ∧ Blk W w.heap.size 26 (ogc g tv nv pv) ∧ Blk W (w.heap.size + 1) 26 #[.int .i64 0, .slice none 0 0, .string ByteArray.empty, .slice none 0 0, .int .i64 0, .slice none 0 0] ∧ Own1 W (w.heap.size + 2) 9 tv (strs g.toks) ∧ Own1 W (w.heap.size + 2) 9 nv (strs g.names) ∧ Below w.heap.size w W
theorem OG.step {w : World} {g : Gr} {a : GA} {tv nv pv : Value} {W W' : World} (h : OG w g a tv nv pv W) (hb : Below W.heap.size W W') : OG w g a tv nv pv W' := by
  obtain ⟨h1, h2, h3, h4, h5, h6⟩ := h
  exact ⟨h1.below (hb.mono h6.size), h2.step hb, h3.step hb, h4.step hb, h5.step hb, bStep h6 hb⟩
theorem OG.grown {w : World} {g : Gr} {a : GA} {tv nv pv : Value} {W W' : World} {row : Option Nat} (h : OG w g a tv nv pv W) (hg : W.grownBy W' row) (hr : ∀ r, row = some r → w.heap.size + 2 ≤ r ∧ ∃ cs, Blk W r 59 cs) : OG w g a tv nv pv W' := by
  obtain ⟨h1, h2, h3, h4, h5, h6⟩ := h
  have hb : Below w.heap.size W W' := ⟨hg.os, hg.tape, hg.output, hg.size, fun k hk => hg.block k (by have := h6.size; omega) (fun e => by have := (hr k e.symm).1; omega)⟩
  have h9 : ∀ b cs, row = some b → ¬ Blk W b 9 cs := fun b cs e hq => by obtain ⟨_, cs', hq'⟩ := hr b e; cases blk_type hq hq'
  exact ⟨h1.below hb, h2.grown hg (fun e => by have := (hr _ e.symm).1; omega), h3.grown hg (fun e => by have := (hr _ e.symm).1; omega), row_grown h4 hg h9, row_grown h5 hg h9, h6.trans hb⟩
theorem OG.own {w : World} {g : Gr} {a : GA} {tv nv pv : Value} {W W' : World} (h : OG w g a tv nv pv W) {v : Value} {n : Nat} {xs : List Value} (hr : W.ownsRow (w.heap.size + 2) 59 2 v n xs) (hg : W.grownBy W' v.ownBlock) : OG w g a tv nv pv W' :=
  h.grown hg fun r e => ⟨(own_in hr r e).1, own_blk hr e⟩

def KO (w : World) (g : Gr) (a : GA) (tv nv pv : Value) (wr W : World) : Prop := OG w g a tv nv pv W ∧ Below w.heap.size wr W
theorem RtAt.mono {W : World} {base b' : Nat} {RA : Option Addr} {c : Nat} {l : List Int} (h : RtAt W base RA c l) (hb : b' ≤ base) : RtAt W b' RA c l := by
  obtain ⟨c1, c2, c3⟩ := h
  refine ⟨c1, c2, c3.imp id ?_⟩
  rintro ⟨b, off, cs, e, e1, e2, e3⟩
  exact ⟨b, off, cs, e, by omega, e2, e3⟩
theorem put6 {w : World} {g : Nat} {x0 x1 x2 x3 x4 x5 : Value} (h : Blk w g 26 #[x0, x1, x2, x3, x4, x5]) (a b c d e f : Value) :
    Blk ((((((w.setCell ⟨g, 0, none⟩ a).setCell ⟨g, 1, none⟩ b).setCell ⟨g, 2, none⟩ c).setCell ⟨g, 3, none⟩ d).setCell ⟨g, 4, none⟩ e).setCell ⟨g, 5, none⟩ f) g 26 #[a, b, c, d, e, f] :=
  (((((h.put 0 a).put 1 b).put 2 c).put 3 d).put 4 e).put 5 f
theorem bSet6 {W0 W : World} {g : Nat} (h : Below W0.heap.size W0 W) (hg : W0.heap.size ≤ g) (a b c d e f : Value) :
    Below W0.heap.size W0 ((((((W.setCell ⟨g, 0, none⟩ a).setCell ⟨g, 1, none⟩ b).setCell ⟨g, 2, none⟩ c).setCell ⟨g, 3, none⟩ d).setCell ⟨g, 4, none⟩ e).setCell ⟨g, 5, none⟩ f) :=
  bSet (bSet (bSet (bSet (bSet (bSet h _ _ hg) _ _ hg) _ _ hg) _ _ hg) _ _ hg) _ _ hg
theorem far6 {w : World} {g : Nat} {x0 x1 x2 x3 x4 x5 : Value} (h : Blk w g 26 #[x0, x1, x2, x3, x4, x5]) (a b c d e f : Value) :
    w.grownBy ((((((w.setCell ⟨g, 0, none⟩ a).setCell ⟨g, 1, none⟩ b).setCell ⟨g, 2, none⟩ c).setCell ⟨g, 3, none⟩ d).setCell ⟨g, 4, none⟩ e).setCell ⟨g, 5, none⟩ f) (some g) := by
  have key : ∀ {X Y : World} (i : Nat) (v : Value), X.grownBy Y (some g) → X.grownBy (Y.setCell ⟨g, i, none⟩ v) (some g) := fun i v hg => World.grownBy.andThen hg (grownBy_setC' _ g i v) (fun j hj => .inr hj)
  exact key 5 f (key 4 e (key 3 d (key 2 c (key 1 b (grownBy_setC' w g 0 a)))))
theorem under26' : Try.prog.underlying 26 = some (.struct (Try.prog.fieldsOf 26)) := by kernel_rfl
theorem size26' : (Try.prog.info? 26).map (·.size) = some 6 := by kernel_rfl
/-- what OwnGrammar hands back -/
def RetGO (w : World) (g : Gr) (e : Ending) (w' : World) : Prop := ∃ a, e = .returned (gval g a) ∧ GrAt w' w'.heap.size g a ∧ PsO w' w.heap.size (.slice a.pa g.prods.length a.pc) g.prods ∧ (Own1 w' w.heap.size 9 (.slice a.ta g.toks.length a.tc) (strs g.toks) ∧ Own1 w' w.heap.size 9 (.slice a.na g.names.length a.nc) (strs g.names)) ∧ Below w.heap.size w w'

set_option maxRecDepth 100000 in
set_option maxHeartbeats 4000000 in
theorem own_any (g : Gr) (a : GA) (w : World) (hg : GrAt w w.heap.size g a) (ht : g.toks.length ≤ 1000000) (hn : g.names.length ≤ 1000000) (hp : g.prods.length ≤ 1000000) (hr : ∀ p ∈ g.prods, p.right.length ≤ 1000000) : Calls Try.prog 10 #[gval g a] w (RetGO w g) := by
  have hP := Lib.hid (fun (a' : GA) (w' : World) (h1 : GrAt w' w'.heap.size g a') (h2 : PsO w' w.heap.size (.slice a'.pa g.prods.length a'.pc) g.prods) (h4 : Own1 w' w.heap.size 9 (.slice a'.ta g.toks.length a'.tc) (strs g.toks) ∧ Own1 w' w.heap.size 9 (.slice a'.na g.names.length a'.nc) (strs g.names)) (h3 : Below w.heap.size w w') => (show RetGO w g (.returned (gval g a')) w' from ⟨a', rfl, h1, h2, h4, h3⟩))
  obtain ⟨ta, tc, na, nc, pa, pc⟩ := a
  have hr' := Lib.hid hr
  have hg' := Lib.hid hg
  clear hr hg
  unfold gval at *
  unfold gcells at *
  dsimp only at *
  go_enter Try.func10, Try.ntmps10
  go_upto_region 1 with (fail)
  have q1 : Blk ((w.alloc (.cells #[.int .i64 g.k, .slice ta g.toks.length tc, .string g.sep, .slice na g.names.length nc, .int .i64 g.start, .slice pa g.prods.length pc] 26)).alloc (.cells #[.int .i64 0, .slice none 0 0, .string ByteArray.empty, .slice none 0 0, .int .i64 0, .slice none 0 0] 26)) w.heap.size 26 #[.int .i64 g.k, .slice ta g.toks.length tc, .string g.sep, .slice na g.names.length nc, .int .i64 g.start, .slice pa g.prods.length pc] := (Blk.new _ _ _).alloc _
  have q2 : Blk ((w.alloc (.cells #[.int .i64 g.k, .slice ta g.toks.length tc, .string g.sep, .slice na g.names.length nc, .int .i64 g.start, .slice pa g.prods.length pc] 26)).alloc (.cells #[.int .i64 0, .slice none 0 0, .string ByteArray.empty, .slice none 0 0, .int .i64 0, .slice none 0 0] 26)) (w.heap.size + 1) 26 #[.int .i64 0, .slice none 0 0, .string ByteArray.empty, .slice none 0 0, .int .i64 0, .slice none 0 0] := Blk.newAt _ _ _ _ (by simp)
  have hb0 : Below w.heap.size w ((w.alloc (.cells #[.int .i64 g.k, .slice ta g.toks.length tc, .string g.sep, .slice na g.names.length nc, .int .i64 g.start, .slice pa g.prods.length pc] 26)).alloc (.cells #[.int .i64 0, .slice none 0 0, .string ByteArray.empty, .slice none 0 0, .int .i64 0, .slice none 0 0] 26)) := bAlc (bAlc (Below.refl _ _) _) _
  have hsz : ((w.alloc (.cells #[.int .i64 g.k, .slice ta g.toks.length tc, .string g.sep, .slice na g.names.length nc, .int .i64 g.start, .slice pa g.prods.length pc] 26)).alloc (.cells #[.int .i64 0, .slice none 0 0, .string ByteArray.empty, .slice none 0 0, .int .i64 0, .slice none 0 0] 26)).heap.size = w.heap.size + 2 := by simp
  change Code.wp Try.prog _ _ _ ((w.alloc (.cells #[.int .i64 g.k, .slice ta g.toks.length tc, .string g.sep, .slice na g.names.length nc, .int .i64 g.start, .slice pa g.prods.length pc] 26)).alloc (.cells #[.int .i64 0, .slice none 0 0, .string ByteArray.empty, .slice none 0 0, .int .i64 0, .slice none 0 0] 26))
  generalize (w.alloc (.cells #[.int .i64 g.k, .slice ta g.toks.length tc, .string g.sep, .slice na g.names.length nc, .int .i64 g.start, .slice pa g.prods.length pc] 26)).alloc (.cells #[.int .i64 0, .slice none 0 0, .string ByteArray.empty, .slice none 0 0, .int .i64 0, .slice none 0 0] 26) = W0 at *
  have r1 := q1.cell 1
  simp only [List.getElem?_toArray, List.getElem?_cons_zero, List.getElem?_cons_succ] at r1
  replace hsz := Lib.hid hsz
  go_upto_region 2 with (go_at_call 27; refine (owntexts_any ta g.toks.length tc g.toks _ ((hg'.out.toks.below hb0).mono hb0.size) ht).mono ?_; rintro e w1 ⟨tv, rfl, ho1, hb1⟩; obtain ⟨A1, c1, rfl, hrd1, hc1, hm1⟩ := own_strs ho1; have q1' := q1.step hb1; have r := q1'.cell 1; have f := q1'.frozen 1; simp only [List.getElem?_toArray, List.getElem?_cons_zero, List.getElem?_cons_succ] at r)
  have q1a : Blk (w1.setCell ⟨w.heap.size, 1, none⟩ (.slice A1 g.toks.length c1)) w.heap.size 26 #[.int .i64 g.k, (.slice A1 g.toks.length c1), .string g.sep, .slice na g.names.length nc, .int .i64 g.start, .slice pa g.prods.length pc] := q1'.put 1 (.slice A1 g.toks.length c1)
  have q2a := (q2.step hb1).far (p := ⟨w.heap.size, 1, none⟩) (by simp) (.slice A1 g.toks.length c1)
  have hba := bSet (bStep hb0 hb1) ⟨w.heap.size, 1, none⟩ (.slice A1 g.toks.length c1) (Nat.le_refl _)
  have ho1a : Own1 (w1.setCell ⟨w.heap.size, 1, none⟩ (.slice A1 g.toks.length c1)) (w.heap.size + 2) 9 (.slice A1 g.toks.length c1) (strs g.toks) := row_grown (ho1.mono (by have := hsz.out; omega)) (grownBy_setC' w1 w.heap.size 1 (.slice A1 g.toks.length c1)) (fun b cs e hq => by injection e with e; subst e; cases blk_type q1' hq)
  clear q1 q2 hb0 r1 q1' r f ho1 hb1 hrd1
  generalize w1.setCell ⟨w.heap.size, 1, none⟩ (.slice A1 g.toks.length c1) = W1 at *
  have r3 := q1a.cell 3
  simp only [List.getElem?_toArray, List.getElem?_cons_zero, List.getElem?_cons_succ] at r3
  go_upto_region 3 with (go_at_call 27; refine (owntexts_any na g.names.length nc g.names _ ((hg'.out.names.below hba).mono hba.size) hn).mono ?_; rintro e w2 ⟨nv, rfl, ho2, hb2⟩; obtain ⟨A2, c2, rfl, hrd2, hc2, hm2⟩ := own_strs ho2; have q1' := q1a.step hb2; have r := q1'.cell 3; have f := q1'.frozen 3; simp only [List.getElem?_toArray, List.getElem?_cons_zero, List.getElem?_cons_succ] at r)
  have hOG : OG w g ⟨ta, tc, na, nc, pa, pc⟩ (.slice A1 g.toks.length c1) (.slice A2 g.names.length c2) (.slice pa g.prods.length pc) (w2.setCell ⟨w.heap.size, 3, none⟩ (.slice A2 g.names.length c2)) := by
    have hbb := bSet (bStep hba hb2) ⟨w.heap.size, 3, none⟩ (.slice A2 g.names.length c2) (Nat.le_refl _)
    have hg3 := grownBy_setC' w2 w.heap.size 3 (.slice A2 g.names.length c2)
    have hne : ∀ b cs, some w.heap.size = some b → ¬ Blk w2 b 9 cs := fun b cs e hq => by injection e with e; subst e; cases blk_type q1' hq
    exact ⟨hg'.out.below hbb, q1'.put 3 (.slice A2 g.names.length c2), (q2a.step hb2).far (by simp) (.slice A2 g.names.length c2), row_grown (row_step ho1a hb2) hg3 hne, row_grown (ho2.mono (by have := hba.size; have := hsz.out; have := q2a.lt; omega)) hg3 hne, hbb⟩
  clear q1a q2a hba ho1a q1' r f ho2 hb2 r3 hrd2
  generalize w2.setCell ⟨w.heap.size, 3, none⟩ (.slice A2 g.names.length c2) = W2 at *
  go_wp2_with fail
  go_loopg [3, 4] g.prods.length (fun gk s3 s4 wr => ∃ i : Nat, s4 = .int .i64 i ∧ i + gk = g.prods.length ∧ PsO wr (w.heap.size + 2) s3 (g.prods.take i) ∧ OG w g ⟨ta, tc, na, nc, pa, pc⟩ (.slice A1 g.toks.length c1) (.slice A2 g.names.length c2) (.slice pa g.prods.length pc) wr)
  case atStart => exact ⟨0, rfl, by omega, PsO.nil _ _, hOG⟩
  case round =>
    clear hOG
    obtain ⟨i, rfl, hi, hPs, hOG⟩ := hrel
    replace hi := Lib.hid hi
    have c5 := hOG.2.1.cell 5
    simp only [ogc, List.getElem?_toArray, List.getElem?_cons_zero, List.getElem?_cons_succ] at c5
    by_cases hin : i < g.prods.length
    · have hpi : g.prods[i]? = some g.prods[i] := List.getElem?_eq_getElem hin
      obtain ⟨b, off, hA, hbt, x0, RA, rc, x1, hx2, hx3, hx4⟩ := hOG.1.prods.get hpi
      dsimp only at hA
      subst hA
      have htk : g.prods.take (i + 1) = g.prods.take i ++ [g.prods[i]] := List.take_succ_eq_append_getElem hin
      have hpr := hr'.out _ (List.getElem_mem hin)
      have htl : (g.prods.take i).length = i := by rw [List.length_take]; omega
      generalize g.prods[i] = p at *
      have hz1 : (0 : Int) ≤ i := by omega
      have hz2 : (i : Int) < g.prods.length := by omega
      replace hpi := Lib.hid hpi
      replace htk := Lib.hid htk
      replace htl := Lib.hid htl
      go_upto_region 7 with (fail)
      have hwl := hOG.2.2.2.2.2.size
      have hw2 := hOG.2.2.1.lt
      have hKOb : Hid (∀ X, Below wr.heap.size wr X → KO w g ⟨ta, tc, na, nc, some ⟨b, off, none⟩, pc⟩ (.slice A1 g.toks.length c1) (.slice A2 g.names.length c2) (.slice (some ⟨b, off, none⟩) g.prods.length pc) wr X) := Lib.hid fun X hb => ⟨hOG.step hb, hb.mono hwl⟩
      have hKO3 : Hid (∀ w3 X, X.grownBy w3 u3.ownBlock → Below wr.heap.size wr X → KO w g ⟨ta, tc, na, nc, some ⟨b, off, none⟩, pc⟩ (.slice A1 g.toks.length c1) (.slice A2 g.names.length c2) (.slice (some ⟨b, off, none⟩) g.prods.length pc) wr w3) := Lib.hid fun w3 X hg hb => by
        obtain ⟨rs, hpr⟩ := hPs.step hb
        refine ⟨(hOG.step hb).own hpr.2.1 hg, (hb.mono hwl).trans ⟨hg.os, hg.tape, hg.output, hg.size, fun k hk => hg.block k (by have := hb.size; omega) (fun e => by have := (own_in hpr.2.1 k e.symm).1; omega)⟩⟩
      have hAll : Hid (∀ w', KO w g ⟨ta, tc, na, nc, some ⟨b, off, none⟩, pc⟩ (.slice A1 g.toks.length c1) (.slice A2 g.names.length c2) (.slice (some ⟨b, off, none⟩) g.prods.length pc) wr w' → w'.cell? ⟨w.heap.size, 5, none⟩ = some (.slice (some ⟨b, off, none⟩) g.prods.length pc) ∧ w'.cell? ⟨b, off + i * 2, none⟩ = some (.int .i64 p.left) ∧ w'.cell? ⟨b, off + i * 2 + 1, none⟩ = some (.slice RA p.right.length rc) ∧ KO w g ⟨ta, tc, na, nc, some ⟨b, off, none⟩, pc⟩ (.slice A1 g.toks.length c1) (.slice A2 g.names.length c2) (.slice (some ⟨b, off, none⟩) g.prods.length pc) wr w') :=
        Lib.hid fun w' h => ⟨h.1.2.1.cell 5, ((h.2).cell (p := ⟨b, off + i * 2, none⟩) hbt).trans x0, ((h.2).cell (p := ⟨b, off + i * 2 + 1, none⟩) hbt).trans x1, h⟩
      have hrd : Hid (∀ X, Below wr.heap.size wr X → Rd1 X X.heap.size RA p.right.length (ints p.right)) := Lib.hid fun X hb => (hx2.below (hb.mono hwl)).mono (Nat.le_trans hwl hb.size)
      have hbase : ∀ X, Below wr.heap.size wr X → w.heap.size + 2 ≤ X.heap.size := fun X hb => by have := hb.size; omega
      replace hbase := Lib.hid hbase
      have hlen9 : (g.prods.take i).length < 1000000 := by rw [List.length_take]; omega
      replace hlen9 := Lib.hid hlen9
      replace hx2 := Lib.hid hx2
      clear c5 x0 x1
      first | go_region_held3 (fun w' => w'.cell? ⟨w.heap.size, 5, none⟩ = some (.slice (some ⟨b, off, none⟩) g.prods.length pc) ∧ w'.cell? ⟨b, off + i * 2, none⟩ = some (.int .i64 p.left) ∧ w'.cell? ⟨b, off + i * 2 + 1, none⟩ = some (.slice RA p.right.length rc) ∧ KO w g ⟨ta, tc, na, nc, some ⟨b, off, none⟩, pc⟩ (.slice A1 g.toks.length c1) (.slice A2 g.names.length c2) (.slice (some ⟨b, off, none⟩) g.prods.length pc) wr w')
        ((refine hAll.out _ ?_; first | (refine hKOb.out _ ?_; (repeat (first | assumption | exact Below.refl _ _ | (refine bStep ?_ (by assumption)) | (with_reducible refine bAlc ?_ _) | (with_reducible refine bDrw ?_))); done) | (refine hKO3.out _ _ (by assumption) ?_; repeat (first | assumption | exact Below.refl _ _ | (refine bStep ?_ (by assumption)) | (with_reducible refine bAlc ?_ _) | (with_reducible refine bDrw ?_)))))
        (first
          | (go_at_call 28; refine (ownints_any RA p.right.length rc p.right _ (hrd.out _ (by repeat (first | assumption | exact Below.refl _ _ | (refine bStep ?_ (by assumption)) | (with_reducible refine bAlc ?_ _) | (with_reducible refine bDrw ?_)))) hpr).mono ?_; rintro e w3 ⟨v3, rfl, ho3, hb3⟩; obtain ⟨RA3, k3, rfl, hrt⟩ := RtAt.of ho3)
          | (refine step_of_wp _ (by rfl) ?_; refine wp_pushP _ _ _ (by rfl) (w.heap.size + 2) _ (g.prods.take i) _ (by rfl) (hPs.step (by repeat (first | assumption | exact Below.refl _ _ | (refine bStep ?_ (by assumption)) | (with_reducible refine bAlc ?_ _) | (with_reducible refine bDrw ?_)))).choose_spec _ p RA3 k3 (by rfl) (Blk.new _ _ _) ((hrt.mono (hbase.out _ (by repeat (first | assumption | exact Below.refl _ _ | (refine bStep ?_ (by assumption)) | (with_reducible refine bAlc ?_ _) | (with_reducible refine bDrw ?_))))).step (by repeat (first | assumption | exact Below.refl _ _ | (refine bStep ?_ (by assumption)) | (with_reducible refine bAlc ?_ _) | (with_reducible refine bDrw ?_)))) hlen9.out (hbase.out _ (by repeat (first | assumption | exact Below.refl _ _ | (refine bStep ?_ (by assumption)) | (with_reducible refine bAlc ?_ _) | (with_reducible refine bDrw ?_)))) ?_; intro v4 w4 hps4 hg4)) | fail
      go_wp2_with fail
      go_roundg (g.prods.length - (i + 1))
      case measure => have := hi.out; omega
      case rel => exact ⟨i + 1, by go_num, by have := hi.out; omega, by rw [htk.out]; exact hps4, (hKO3.out _ _ hg4 (by repeat (first | assumption | exact Below.refl _ _ | (refine bStep ?_ (by assumption)) | (with_reducible refine bAlc ?_ _) | (with_reducible refine bDrw ?_)))).1⟩
    · rw [List.take_of_length_le (by omega)] at hPs
      obtain ⟨PA, pk, rfl, hrdp, hpk1, hpk2⟩ := hPs.reads
      have fb := hOG.2.1.frozen 5
      go_upto_region 9 with (fail)
      obtain ⟨o1, o2, o3, o4, o5, o6⟩ := hOG
      have hgr := grownBy_setC' wr w.heap.size 5 (.slice PA g.prods.length pk)
      have hbx : Blk (wr.setCell ⟨w.heap.size, 5, none⟩ (.slice PA g.prods.length pk)) w.heap.size 26 (ogc g (.slice A1 g.toks.length c1) (.slice A2 g.names.length c2) (.slice PA g.prods.length pk)) := o2.put 5 _
      have hrx : Blk (wr.setCell ⟨w.heap.size, 5, none⟩ (.slice PA g.prods.length pk)) (w.heap.size + 1) 26 #[.int .i64 0, .slice none 0 0, .string ByteArray.empty, .slice none 0 0, .int .i64 0, .slice none 0 0] := o3.far (by simp) _
      have hty : ∀ (e : TypeId), e ≠ 26 → ∀ (b : Nat) (cs : Array Value), some w.heap.size = some b → ¬ Blk wr b e cs := fun e he b cs e1 hq => by injection e1 with e1; subst e1; exact he (blk_type hq o2)
      have ht1 := row_grown o4 hgr (hty 9 (by decide))
      have hn1 := row_grown o5 hgr (hty 9 (by decide))
      have hp1 := hPs.grown hgr (hty 3 (by decide)) (hty 59 (by decide))
      have hbb := bSet o6 ⟨w.heap.size, 5, none⟩ (.slice PA g.prods.length pk) (Nat.le_refl _)
      clear o1 o2 o3 o4 o5 o6 hPs hrdp c5 fb hgr hty
      generalize wr.setCell ⟨w.heap.size, 5, none⟩ (.slice PA g.prods.length pk) = W3 at *
      have b0 := hbx.cell 0
      have b1 := hbx.cell 1
      have b2 := hbx.cell 2
      have b3 := hbx.cell 3
      have b4 := hbx.cell 4
      have b5 := hbx.cell 5
      have a0 := hrx.cell 0
      have a1 := hrx.cell 1
      have a2 := hrx.cell 2
      have a3 := hrx.cell 3
      have a4 := hrx.cell 4
      have a5 := hrx.cell 5
      have f0 := hrx.frozen 0
      have f1 := hrx.frozen 1
      have f2 := hrx.frozen 2
      have f3 := hrx.frozen 3
      have f4 := hrx.frozen 4
      have f5 := hrx.frozen 5
      simp only [ogc, List.getElem?_toArray, List.getElem?_cons_zero, List.getElem?_cons_succ] at b0 b1 b2 b3 b4 b5 a0 a1 a2 a3 a4 a5
      go_wp2_with fail
      have hput := put6 hrx (.int .i64 g.k) (.slice A1 g.toks.length c1) (.string g.sep) (.slice A2 g.names.length c2) (.int .i64 g.start) (.slice PA g.prods.length pk)
      have hb6 := bSet6 hbb (g := w.heap.size + 1) (by omega) (.int .i64 g.k) (.slice A1 g.toks.length c1) (.string g.sep) (.slice A2 g.names.length c2) (.int .i64 g.start) (.slice PA g.prods.length pk)
      have hst := far6 hrx (.int .i64 g.k) (.slice A1 g.toks.length c1) (.string g.sep) (.slice A2 g.names.length c2) (.int .i64 g.start) (.slice PA g.prods.length pk)
      have hty : ∀ (e : TypeId), e ≠ 26 → ∀ (b : Nat) (cs : Array Value), some (w.heap.size + 1) = some b → ¬ Blk W3 b e cs := fun e he b cs e1 hq => by injection e1 with e1; subst e1; exact he (blk_type hq hrx)
      have ht2 := row_grown ht1 hst (hty 9 (by decide))
      have hn2 := row_grown hn1 hst (hty 9 (by decide))
      have hp2 := hp1.grown hst (hty 3 (by decide)) (hty 59 (by decide))
      generalize (((((W3.setCell ⟨w.heap.size + 1, 0, none⟩ (.int .i64 g.k)).setCell ⟨w.heap.size + 1, 1, none⟩ (.slice A1 g.toks.length c1)).setCell ⟨w.heap.size + 1, 2, none⟩ (.string g.sep)).setCell ⟨w.heap.size + 1, 3, none⟩ (.slice A2 g.names.length c2)).setCell ⟨w.heap.size + 1, 4, none⟩ (.int .i64 g.start)).setCell ⟨w.heap.size + 1, 5, none⟩ (.slice PA g.prods.length pk) = W4 at *
      obtain ⟨_, _, et, rt, e1, e2⟩ := own_strs (show Own1 W4 (w.heap.size + 2) 9 _ (strs g.toks) from ht2)
      obtain ⟨_, _, en, rn, e3, e4⟩ := own_strs (show Own1 W4 (w.heap.size + 2) 9 _ (strs g.names) from hn2)
      obtain ⟨_, _, ep, rp, e5, e6⟩ := hp2.reads
      cases et; cases en; cases ep
      exact bodyPost_ret (results_cell_row rfl _ _ _ 26 _ (0, 0) _ rfl hput under26' rfl size26') rfl (hP.out ⟨_, _, _, _, _, _⟩ W4 ⟨rt, e1, e2, rn, e3, e4, rp, e5, e6, hg'.out.sep, hg'.out.ts, hg'.out.ns⟩ (hp2.mono (by omega)) ⟨Own1.mono (show Own1 W4 (w.heap.size + 2) 9 _ (strs g.toks) from ht2) (by omega), Own1.mono (show Own1 W4 (w.heap.size + 2) 9 _ (strs g.names) from hn2) (by omega)⟩ hb6)
end Go.Proofs.Ytnnkfgekiaaehaa

/- The kit's Any. -/
namespace Go.Proofs.Ytnnkfgekiaaehaa
open Go.ChangeShapes Go.WideShapes Go.ChangeAt Go.RowKit
set_option linter.unusedVariables false

theorem foldA_stuck (l : List Int) (t m : Int) (i : Nat) {ps : List Pr} (h : 7 ≤ ps.length) : ∀ js : List Nat, js.foldl (addA l t m i) ps = ps
  | [] => rfl
  | j :: js => by
    have : addA l t m i ps j = ps := by unfold addA; rw [if_neg (by omega)]
    rw [List.foldl_cons, this]; exact foldA_stuck l t m i h js
theorem foldA_part (l : List Int) (t m : Int) (i : Nat) (ps : List Pr) (j J : Nat) (hj : j ≤ J) (h : 7 ≤ ((List.range j).foldl (addA l t m i) ps).length) : (List.range J).foldl (addA l t m i) ps = (List.range j).foldl (addA l t m i) ps := by
  have e : List.range J = List.range j ++ (List.range J).drop j := by
    have := List.take_append_drop j (List.range J)
    rw [List.take_range, Nat.min_eq_left hj] at this
    exact this.symm
  rw [e, List.foldl_append]
  exact foldA_stuck l t m i h _
theorem run_push1 (W : World) (base : Nat) (RA : Option Addr) (rk : Nat) (xs : List Int) (hown : Own1 W base 3 (.slice RA xs.length rk) (ints xs)) (x : Int) (g : Nat) (hb : Blk W g 3 #[.int .i64 x]) (hn : xs.length < 1000) (hbase : base ≤ W.heap.size) :
    ∃ RA' rk' W', (Builtin.append_ #[22, 22] 22 #[.slice RA xs.length rk, .slice (some ⟨g, 0, none⟩) 1 1]).run Try.prog W = .ok (.slice RA' (xs.length + 1) rk') W' ∧ Own1 W' base 3 (.slice RA' (xs.length + 1) rk') (ints (xs ++ [x])) ∧ W.grownBy W' (Value.slice RA xs.length rk).ownBlock := by
  obtain ⟨i0, hi0, hz0, hz1, hz2⟩ := info_parts info3
  have hnews : ∀ j u, [Value.int .i64 x][j]? = some u → W.cell? ((⟨g, 0, none⟩ : Addr).add j) = some u := by
    intro j u hu
    have : (⟨g, 0, none⟩ : Addr).add j = ⟨g, j, none⟩ := by unfold Addr.add; split <;> simp_all
    rw [this, hb.cell]
    simpa using hu
  have hxl : (ints xs).length = xs.length := by simp [ints]
  unfold Own1 at hown
  rw [hxl] at hown
  obtain ⟨v', w', hrun, h2, h3, h4, h5⟩ := run_append_own_at (P := Try.prog) W base 22 22 3 i0 _ 1 8 under22 hi0 hz0 hz1 hz2 rfl (by omega) _ xs.length _ hown ⟨g, 0, none⟩ 1 1 [.int .i64 x] rfl hnews (by simp [Value.oneCell']) (by unfold maxLen; omega) (by omega) hbase
  have he : ints xs ++ [Value.int .i64 x] = ints (xs ++ [x]) := by simp [ints]
  rw [he] at h2
  have hlast : (xs ++ [x]).length = xs.length + 1 := by simp
  have ho : Own1 w' base 3 v' (ints (xs ++ [x])) := by
    unfold Own1
    rw [show (ints (xs ++ [x])).length = xs.length + 1 by simp [ints]]
    exact h2
  obtain ⟨A2, c2, e2, _, _, _, _⟩ := ho.reads
  rw [show (ints (xs ++ [x])).length = xs.length + 1 by simp [ints]] at e2
  subst e2
  exact ⟨A2, c2, w', hrun, ho, h3⟩
theorem wp_of_append {o : Oper} {a : Act} {w : World} {K : Act → World → Prop} {Q : Exit → Act → World → Prop} (s x : Operand) (t : TypeId) (ho : o.op = .call { callee := .builtin .append, args := #[s, x], argTypes := #[t, t] })
    (v u : Value) (hs : a.eval s = v) (hx : a.eval x = u) (r : Value) (w' : World) (hrun : (Builtin.append_ #[t, t] o.type #[v, u]).run Try.prog w = .ok r w') (h : K (a.put o.dst r) w') : Oper.wp Try.prog o a w K Q := by
  unfold Oper.wp execOp
  simp only [ho, resolve, invoke, builtin, Sem.run_bind, Sem.run_pure, Result.andThen_ok, List.map_toArray, List.map_cons, List.map_nil, hs, hx, hrun]
  exact h
theorem rightA_take (t m y : Int) (s : Nat) (h : s < (y % 4).toNat) : (rightA t m y).take (s + 1) = (rightA t m y).take s ++ [symA t m (digA y s)] := by
  have hl : s < (rightA t m y).length := by simpa [rightA] using h
  rw [List.take_succ_eq_append_getElem hl]
  simp [rightA]
theorem conv1 (W : World) (b : UInt8) (nb : Int) (hb : nb = (b.toNat : Int)) : (convert 57 9 (.slice (some ⟨W.heap.size, 0, none⟩) 1 1)).run Try.prog (W.alloc (.cells #[.int .u8 nb] 5)) = .ok (.string ⟨#[b]⟩) (W.alloc (.cells #[.int .u8 nb] 5)) := by
  subst hb
  refine run_convert_bytes_back (W.alloc (.cells #[.int .u8 (b.toNat : Int)] 5)) 57 9 5 ⟨W.heap.size, 0, none⟩ 1 [b] (by kernel_rfl) (by kernel_rfl) (by kernel_rfl) ?_
  intro i hi
  have : i = 0 := by simp at hi; omega
  subst this
  have e : (⟨W.heap.size, 0, none⟩ : Addr).add 0 = ⟨W.heap.size, 0, none⟩ := by simp [Addr.add]
  rw [e, (Blk.new W 5 #[.int .u8 (b.toNat : Int)]).cell 0]
  rfl
def RetG (w : World) (g : Gr) (e : Ending) (w' : World) : Prop := ∃ a, e = .returned (gval g a) ∧ GrAt w' w'.heap.size g a ∧ Below w.heap.size w w'
/-- the grammar under way -/
def YI (w : World) (K : Int) (t : Nat) (NA : Option Addr) (nk : Nat) (PA : Option Addr) (pk : Nat) (ns : List ByteArray) (ps : List Pr) (W : World) : Prop :=
  Blk W w.heap.size 26 #[.int .i64 0, .slice none 0 0, .string ByteArray.empty, .slice none 0 0, .int .i64 0, .slice none 0 0] ∧ Blk W (w.heap.size + 1) 9 #[.string { data := #[97] }, .string { data := #[98] }] ∧
    Blk W (w.heap.size + 2) 26 #[.int .i64 K, .slice (some ⟨w.heap.size + 1, 0, none⟩) t 2, .string { data := #[122] }, .slice NA ns.length nk, .int .i64 16, .slice PA ps.length pk] ∧
    Own1 W (w.heap.size + 3) 9 (.slice NA ns.length nk) (strs ns) ∧ PsO W (w.heap.size + 3) (.slice PA ps.length pk) ps ∧ Below w.heap.size w W
theorem YI.step {w : World} {K : Int} {t : Nat} {NA : Option Addr} {nk : Nat} {PA : Option Addr} {pk : Nat} {ns : List ByteArray} {ps : List Pr} {W W' : World} (h : YI w K t NA nk PA pk ns ps W) (hb : Below W.heap.size W W') : YI w K t NA nk PA pk ns ps W' := by
  obtain ⟨h1, h2, h3, h4, h5, h6⟩ := h
  exact ⟨h1.step hb, h2.step hb, h3.step hb, h4.step hb, h5.step hb, bStep h6 hb⟩

theorem YI.box {w : World} {K : Int} {t : Nat} {NA : Option Addr} {nk : Nat} {PA : Option Addr} {pk : Nat} {ns : List ByteArray} {ps : List Pr} {W W1 : World} {row : Option Nat} (h : YI w K t NA nk PA pk ns ps W) (hg : W.grownBy W1 row) (hr : ∀ r, row = some r → w.heap.size + 3 ≤ r) (j : Nat) :
    W1.cell? ⟨w.heap.size + 2, j, none⟩ = W.cell? ⟨w.heap.size + 2, j, none⟩ ∧ W1.frozen? ⟨w.heap.size + 2, j, none⟩ = false := by
  have h3 := h.2.2.1.grown hg (fun e => by have := hr _ e.symm; omega)
  exact ⟨by rw [h3.cell, h.2.2.1.cell], h3.frozen j⟩
theorem YI.names {w : World} {K : Int} {t : Nat} {NA NA2 : Option Addr} {nk nk2 : Nat} {PA : Option Addr} {pk : Nat} {ns : List ByteArray} {s : ByteArray} {ps : List Pr} {W W1 : World} (h : YI w K t NA nk PA pk ns ps W) (hg : W.grownBy W1 (Value.slice NA ns.length nk).ownBlock) (ho : Own1 W1 (w.heap.size + 3) 9 (.slice NA2 (ns ++ [s]).length nk2) (strs (ns ++ [s]))) :
    YI w K t NA2 nk2 PA pk (ns ++ [s]) ps (W1.setCell ⟨w.heap.size + 2, 3, none⟩ (.slice NA2 (ns ++ [s]).length nk2)) := by
  obtain ⟨h1, h2, h3, h4, h5, h6⟩ := h
  have hlo : ∀ r, (Value.slice NA ns.length nk).ownBlock = some r → w.heap.size + 3 ≤ r := fun r e => (own_in h4 r e).1
  have h3' := h3.grown hg (fun e => by have := hlo _ e.symm; omega)
  have hty : ∀ (e : TypeId), e ≠ 9 → ∀ (b : Nat) (cs : Array Value), (Value.slice NA ns.length nk).ownBlock = some b → ¬ Blk W b e cs := fun e he b cs e1 hq => by obtain ⟨cs', hq'⟩ := own_blk h4 e1; exact he (blk_type hq hq')
  have hst := grownBy_setC' W1 (w.heap.size + 2) 3 (.slice NA2 (ns ++ [s]).length nk2)
  have hty2 : ∀ (e : TypeId), e ≠ 26 → ∀ (b : Nat) (cs : Array Value), some (w.heap.size + 2) = some b → ¬ Blk W1 b e cs := fun e he b cs e1 hq => by injection e1 with e1; subst e1; exact he (blk_type hq h3')
  have hb : Below w.heap.size W W1 := ⟨hg.os, hg.tape, hg.output, hg.size, fun k hk => hg.block k (by have := h6.size; omega) (fun e => by have := hlo _ e.symm; omega)⟩
  exact ⟨(h1.grown hg (fun e => by have := hlo _ e.symm; omega)).far (by simp) _, (h2.grown hg (fun e => by have := hlo _ e.symm; omega)).far (by simp) _, h3'.put 3 _, row_grown ho hst (hty2 9 (by decide)), (h5.grown hg (hty 3 (by decide)) (hty 59 (by decide))).grown hst (hty2 3 (by decide)) (hty2 59 (by decide)), bSet (h6.trans hb) _ _ (by simp)⟩
theorem YI.prods {w : World} {K : Int} {t : Nat} {NA PA2 : Option Addr} {nk pk2 : Nat} {PA : Option Addr} {pk : Nat} {ns : List ByteArray} {ps qs : List Pr} {W W1 : World} (h : YI w K t NA nk PA pk ns ps W) (hg : W.grownBy W1 (Value.slice PA ps.length pk).ownBlock) (ho : PsO W1 (w.heap.size + 3) (.slice PA2 qs.length pk2) qs) :
    YI w K t NA nk PA2 pk2 ns qs (W1.setCell ⟨w.heap.size + 2, 5, none⟩ (.slice PA2 qs.length pk2)) := by
  obtain ⟨h1, h2, h3, h4, h5, h6⟩ := h
  obtain ⟨rs, hpr⟩ := h5
  have hlo : ∀ r, (Value.slice PA ps.length pk).ownBlock = some r → w.heap.size + 3 ≤ r := fun r e => (own_in hpr.2.1 r e).1
  have h3' := h3.grown hg (fun e => by have := hlo _ e.symm; omega)
  have hty : ∀ (e : TypeId), e ≠ 59 → ∀ (b : Nat) (cs : Array Value), (Value.slice PA ps.length pk).ownBlock = some b → ¬ Blk W b e cs := fun e he b cs e1 hq => by obtain ⟨cs', hq'⟩ := own_blk hpr.2.1 e1; exact he (blk_type hq hq')
  have hst := grownBy_setC' W1 (w.heap.size + 2) 5 (.slice PA2 qs.length pk2)
  have hty2 : ∀ (e : TypeId), e ≠ 26 → ∀ (b : Nat) (cs : Array Value), some (w.heap.size + 2) = some b → ¬ Blk W1 b e cs := fun e he b cs e1 hq => by injection e1 with e1; subst e1; exact he (blk_type hq h3')
  have hb : Below w.heap.size W W1 := ⟨hg.os, hg.tape, hg.output, hg.size, fun k hk => hg.block k (by have := h6.size; omega) (fun e => by have := hlo _ e.symm; omega)⟩
  exact ⟨(h1.grown hg (fun e => by have := hlo _ e.symm; omega)).far (by simp) _, (h2.grown hg (fun e => by have := hlo _ e.symm; omega)).far (by simp) _, h3'.put 5 _, row_grown (row_grown h4 hg (hty 9 (by decide))) hst (hty2 9 (by decide)), ho.grown hst (hty2 3 (by decide)) (hty2 59 (by decide)), bSet (h6.trans hb) _ _ (by simp)⟩

set_option maxRecDepth 100000 in
set_option maxHeartbeats 8000000 in
theorem any_any (A : Option Addr) (n c : Nat) (l : List Int) (w : World) (h : Rd1 w w.heap.size A n (ints l)) (hn : n ≤ maxLen) (hwf : ∀ v ∈ l, (Lit.int .i64 v).wf = true) : Calls Try.prog 7 #[.slice A n c] w (RetG w (anyG l)) := by
  have hAt : Hid (∀ (W : World) (x : Int) (j : Nat), Below w.heap.size w W → x = (j : Int) → j ≤ 1000 → Calls Try.prog 23 #[.slice A n c, .int .i64 x] W fun e w' => e = .returned (.int .i64 (l.getD j 0)) ∧ W = w') := Lib.hid fun W x j hb hx hj => by
    subst hx
    exact at_any A n c l j w.heap.size W (h.below hb) hn (by omega)
  have hMo : Hid (∀ (W : World) (j : Nat), Calls Try.prog 8 #[.int .i64 (l.getD j 0), .int .i64 1073741824] W fun e w' => e = .returned (.int .i64 (numA l j)) ∧ W = w') := Lib.hid fun W j => by
    refine mod_any (l.getD j 0) 1073741824 W ?_ (by omega) (by omega)
    rw [List.getD_eq_getElem?_getD]
    cases hh : l[j]? with
    | none => rfl
    | some v => exact hwf v (List.mem_of_getElem? hh)
  have h' := Lib.hid h
  clear h hwf
  have hk0 := numA_bd l 0
  obtain ⟨t, ht⟩ : ∃ t, t = tA l := ⟨_, rfl⟩
  obtain ⟨m, hm⟩ : ∃ m, m = mA l := ⟨_, rfl⟩
  go_enter Try.func7, Try.ntmps7
  go_upto_region 2 with (first
    | (go_at_call 23; refine (hAt.out _ _ 0 (bAlc (Below.refl _ _) _) rfl (by omega)).mono ?_; rintro e w' ⟨rfl, rfl⟩)
    | (go_at_call 8; refine (hMo.out _ 0).mono ?_; rintro e w' ⟨rfl, rfl⟩))
  generalize hK0 : numA l 0 = k0 at *
  have ht2 : (1 + k0 / 2 % 2).toNat = t := by rw [ht]; unfold tA; rw [hK0]; omega
  have hm2 : 1 + k0 / 4 % 3 = (m : Int) := by rw [hm]; unfold mA; rw [hK0]; omega
  have htb : t = 1 ∨ t = 2 := by rw [ht]; exact tA_bd l
  have hmb : m = 1 ∨ m = 2 ∨ m = 3 := by rw [hm]; exact mA_bd l
  obtain ⟨K, hK⟩ : ∃ K, K = 1 + k0 % 2 := ⟨_, rfl⟩
  have hQ := Lib.hid (show anyG l = ⟨K, toksA t, ⟨#[122]⟩, (List.range m).map nameA, 16, prodsA l t m m⟩ by unfold anyG; rw [← ht, ← hm, hK0, hK])
  replace ht := Lib.hid ht
  replace hm := Lib.hid hm
  replace hK0 := Lib.hid hK0
  go_upto_region 3 with (fail)
  rw [← hK]
  replace hK := Lib.hid hK
  replace htb := Lib.hid htb
  replace hmb := Lib.hid hmb
  have hY0 : YI w K t none 0 none 0 [] [] (((w.alloc (.cells #[.int .i64 0, .slice none 0 0, .string ByteArray.empty, .slice none 0 0, .int .i64 0, .slice none 0 0] 26)).alloc (.cells #[.string { data := #[97] }, .string { data := #[98] }] 9)).alloc (.cells #[.int .i64 K, .slice (some ⟨w.heap.size + 1, 0, none⟩) t 2, .string { data := #[122] }, .slice none 0 0, .int .i64 16, .slice none 0 0] 26)) :=
    ⟨((Blk.new _ _ _).alloc _).alloc _, (Blk.newAt _ _ _ _ (by simp)).alloc _, Blk.newAt _ _ _ _ (by simp), Own1.nil _ _ 9, PsO.nil _ _, bAlc (bAlc (bAlc (Below.refl _ _) _) _) _⟩
  change Code.wp Try.prog _ _ _ (((w.alloc (.cells #[.int .i64 0, .slice none 0 0, .string ByteArray.empty, .slice none 0 0, .int .i64 0, .slice none 0 0] 26)).alloc (.cells #[.string { data := #[97] }, .string { data := #[98] }] 9)).alloc (.cells #[.int .i64 K, .slice (some ⟨w.heap.size + 1, 0, none⟩) t 2, .string { data := #[122] }, .slice none 0 0, .int .i64 16, .slice none 0 0] 26))
  generalize ((w.alloc (.cells #[.int .i64 0, .slice none 0 0, .string ByteArray.empty, .slice none 0 0, .int .i64 0, .slice none 0 0] 26)).alloc (.cells #[.string { data := #[97] }, .string { data := #[98] }] 9)).alloc (.cells #[.int .i64 K, .slice (some ⟨w.heap.size + 1, 0, none⟩) t 2, .string { data := #[122] }, .slice none 0 0, .int .i64 16, .slice none 0 0] 26) = W0 at *
  go_wp2_with fail
  go_loopg [6] m (fun gk s6 wr => ∃ (i : Nat) (NA : Option Addr) (nk : Nat) (PA : Option Addr) (pk : Nat), s6 = .int .i64 i ∧ i + gk = m ∧ YI w K t NA nk PA pk ((List.range i).map nameA) (prodsA l t m i) wr)
  case atStart => exact ⟨0, none, 0, none, 0, rfl, by omega, hY0⟩
  case round =>
    clear hY0
    obtain ⟨i, NA, nk, PA, pk, rfl, hi, hY⟩ := hrel
    replace hi := Lib.hid hi
    have hm3 : m ≤ 3 := by have := hmb.out; omega
    by_cases him : i < m
    · have hz1 : (0 : Int) ≤ i := by omega
      have hz2 : (i : Int) < m := by omega
      have hzi : i ≤ 2 := by omega
      have b3 := hY.2.2.1.cell 3
      simp only [List.getElem?_toArray, List.getElem?_cons_zero, List.getElem?_cons_succ] at b3
      go_upto_region 7 with (fail)
      go_cut [] (fun wx => ∃ (NA : Option Addr) (nk : Nat), YI w K t NA nk PA pk ((List.range (i + 1)).map nameA) (prodsA l t m i) wx)
      case first =>
        have hnm : (List.range (i + 1)).map nameA = (List.range i).map nameA ++ [nameA i] := by rw [List.range_succ, List.map_append]; rfl
        have hsl : strs ((List.range i).map nameA ++ [nameA i]) = strs ((List.range i).map nameA) ++ [.string (nameA i)] := by simp [strs]
        obtain ⟨ns, hns⟩ : ∃ ns, ns = (List.range i).map nameA := ⟨_, rfl⟩
        have hnl : ns.length ≤ 3 := by rw [hns]; simp; omega
        rw [← hns] at hY hsl b3 hnm
        replace hns := Lib.hid hns
        replace hnm := Lib.hid hnm
        replace hsl := Lib.hid hsl
        replace hnl := Lib.hid hnl
        rcases (by omega : i = 0 ∨ i = 1 ∨ i = 2) with rfl | rfl | rfl
        · have hcv := conv1 wr 83 83 rfl
          go_wp2_with (at_builtin; refine wpList_join1 _ rfl _ _ 23 rfl (w.heap.size + 3) 9 _ 16 under23 info9 rfl _ (strs ns) rfl ((hY.step (by repeat (first | assumption | exact Below.refl _ _ | (refine bStep ?_ (by assumption)) | (with_reducible refine bAlc ?_ _) | (with_reducible refine bDrw ?_)))).2.2.2.1) _ _ 1 1 [.string ⟨#[83]⟩] rfl (rd_blk (Blk.newAt _ _ _ _ (by simp))) (by simp [Value.oneCell']) (by simp [strs]; have := hnl.out; omega) (by omega) (by simp; have := hY.2.2.2.2.2.size; have := hY.2.2.1.lt; omega) ?_; intro v' w1 hown1 hg1 hat1 hb1; rw [show strs ns ++ [Value.string ⟨#[83]⟩] = strs (ns ++ [nameA 0]) from hsl.out.symm] at hown1; obtain ⟨NA2, nk2, rfl, _, _, _⟩ := own_strs hown1; obtain ⟨g3, f3⟩ := (hY.step (W' := (wr.alloc (.cells #[.int .u8 83] 5)).alloc (.cells #[.string ⟨#[83]⟩] 9)) (by repeat (first | assumption | exact Below.refl _ _ | (refine bStep ?_ (by assumption)) | (with_reducible refine bAlc ?_ _) | (with_reducible refine bDrw ?_)))).box hg1 (fun r e => (own_in hY.2.2.2.1 r e).1) 3; rw [((hY.step (W' := (wr.alloc (.cells #[.int .u8 83] 5)).alloc (.cells #[.string ⟨#[83]⟩] 9)) (by repeat (first | assumption | exact Below.refl _ _ | (refine bStep ?_ (by assumption)) | (with_reducible refine bAlc ?_ _) | (with_reducible refine bDrw ?_)))).2.2.1).cell 3] at g3; simp only [List.getElem?_toArray, List.getElem?_cons_zero, List.getElem?_cons_succ] at g3)
          go_meet
          refine ⟨NA2, nk2, ?_⟩
          rw [hnm.out]
          have h9 := (hY.step (by repeat (first | assumption | exact Below.refl _ _ | (refine bStep ?_ (by assumption)) | (with_reducible refine bAlc ?_ _) | (with_reducible refine bDrw ?_)))).names hg1 hown1
          rw [show (ns ++ [nameA 0]).length = ns.length + 1 by simp] at h9
          exact h9
        · have hcv := conv1 wr 84 84 rfl
          go_wp2_with (at_builtin; refine wpList_join1 _ rfl _ _ 23 rfl (w.heap.size + 3) 9 _ 16 under23 info9 rfl _ (strs ns) rfl ((hY.step (by repeat (first | assumption | exact Below.refl _ _ | (refine bStep ?_ (by assumption)) | (with_reducible refine bAlc ?_ _) | (with_reducible refine bDrw ?_)))).2.2.2.1) _ _ 1 1 [.string ⟨#[84]⟩] rfl (rd_blk (Blk.newAt _ _ _ _ (by simp))) (by simp [Value.oneCell']) (by simp [strs]; have := hnl.out; omega) (by omega) (by simp; have := hY.2.2.2.2.2.size; have := hY.2.2.1.lt; omega) ?_; intro v' w1 hown1 hg1 hat1 hb1; rw [show strs ns ++ [Value.string ⟨#[84]⟩] = strs (ns ++ [nameA 1]) from hsl.out.symm] at hown1; obtain ⟨NA2, nk2, rfl, _, _, _⟩ := own_strs hown1; obtain ⟨g3, f3⟩ := (hY.step (W' := (wr.alloc (.cells #[.int .u8 84] 5)).alloc (.cells #[.string ⟨#[84]⟩] 9)) (by repeat (first | assumption | exact Below.refl _ _ | (refine bStep ?_ (by assumption)) | (with_reducible refine bAlc ?_ _) | (with_reducible refine bDrw ?_)))).box hg1 (fun r e => (own_in hY.2.2.2.1 r e).1) 3; rw [((hY.step (W' := (wr.alloc (.cells #[.int .u8 84] 5)).alloc (.cells #[.string ⟨#[84]⟩] 9)) (by repeat (first | assumption | exact Below.refl _ _ | (refine bStep ?_ (by assumption)) | (with_reducible refine bAlc ?_ _) | (with_reducible refine bDrw ?_)))).2.2.1).cell 3] at g3; simp only [List.getElem?_toArray, List.getElem?_cons_zero, List.getElem?_cons_succ] at g3)
          go_meet
          refine ⟨NA2, nk2, ?_⟩
          rw [hnm.out]
          have h9 := (hY.step (by repeat (first | assumption | exact Below.refl _ _ | (refine bStep ?_ (by assumption)) | (with_reducible refine bAlc ?_ _) | (with_reducible refine bDrw ?_)))).names hg1 hown1
          rw [show (ns ++ [nameA 1]).length = ns.length + 1 by simp] at h9
          exact h9
        · have hcv := conv1 wr 85 85 rfl
          go_wp2_with (at_builtin; refine wpList_join1 _ rfl _ _ 23 rfl (w.heap.size + 3) 9 _ 16 under23 info9 rfl _ (strs ns) rfl ((hY.step (by repeat (first | assumption | exact Below.refl _ _ | (refine bStep ?_ (by assumption)) | (with_reducible refine bAlc ?_ _) | (with_reducible refine bDrw ?_)))).2.2.2.1) _ _ 1 1 [.string ⟨#[85]⟩] rfl (rd_blk (Blk.newAt _ _ _ _ (by simp))) (by simp [Value.oneCell']) (by simp [strs]; have := hnl.out; omega) (by omega) (by simp; have := hY.2.2.2.2.2.size; have := hY.2.2.1.lt; omega) ?_; intro v' w1 hown1 hg1 hat1 hb1; rw [show strs ns ++ [Value.string ⟨#[85]⟩] = strs (ns ++ [nameA 2]) from hsl.out.symm] at hown1; obtain ⟨NA2, nk2, rfl, _, _, _⟩ := own_strs hown1; obtain ⟨g3, f3⟩ := (hY.step (W' := (wr.alloc (.cells #[.int .u8 85] 5)).alloc (.cells #[.string ⟨#[85]⟩] 9)) (by repeat (first | assumption | exact Below.refl _ _ | (refine bStep ?_ (by assumption)) | (with_reducible refine bAlc ?_ _) | (with_reducible refine bDrw ?_)))).box hg1 (fun r e => (own_in hY.2.2.2.1 r e).1) 3; rw [((hY.step (W' := (wr.alloc (.cells #[.int .u8 85] 5)).alloc (.cells #[.string ⟨#[85]⟩] 9)) (by repeat (first | assumption | exact Below.refl _ _ | (refine bStep ?_ (by assumption)) | (with_reducible refine bAlc ?_ _) | (with_reducible refine bDrw ?_)))).2.2.1).cell 3] at g3; simp only [List.getElem?_toArray, List.getElem?_cons_zero, List.getElem?_cons_succ] at g3)
          go_meet
          refine ⟨NA2, nk2, ?_⟩
          rw [hnm.out]
          have h9 := (hY.step (by repeat (first | assumption | exact Below.refl _ _ | (refine bStep ?_ (by assumption)) | (with_reducible refine bAlc ?_ _) | (with_reducible refine bDrw ?_)))).names hg1 hown1
          rw [show (ns ++ [nameA 2]).length = ns.length + 1 by simp] at h9
          exact h9
      case rest =>
        clear hY b3
        obtain ⟨NA2, nk2, hY⟩ := hcut
        obtain ⟨ns, hns⟩ : ∃ ns, ns = (List.range (i + 1)).map nameA := ⟨_, rfl⟩
        rw [← hns] at hY
        replace hns := Lib.hid hns
        have hb0 := Lib.hid hY.2.2.2.2.2
        go_upto_region 9 with (first
          | (go_at_call 23; refine (hAt.out _ _ (1 + i) (hb0.out) (by omega) (by omega)).mono ?_; rintro e w' ⟨rfl, rfl⟩)
          | (go_at_call 8; refine (hMo.out _ (1 + i)).mono ?_; rintro e w' ⟨rfl, rfl⟩))
        obtain ⟨x, hx⟩ : ∃ x, x = numA l (1 + i) := ⟨_, rfl⟩
        have hxb := numA_bd l (1 + i)
        rw [← hx] at hxb ⊢
        obtain ⟨r, hr⟩ := Int.eq_ofNat_of_zero_le (show 0 ≤ x % 3 by omega)
        have hr3 : r ≤ 2 := by omega
        have hJ : Hid ((numA l (1 + i) % 3).toNat + 1 = r + 1) := Lib.hid (by rw [← hx, hr]; rfl)
        replace hx := Lib.hid hx
        obtain ⟨ps0, hps0⟩ : ∃ ps0, ps0 = prodsA l t m i := ⟨_, rfl⟩
        rw [← hps0] at hY
        replace hps0 := Lib.hid hps0
        go_wp2_with fail
        go_loopg [8] (r + 1) (fun gk s8 wx => ∃ (j : Nat) (PA : Option Addr) (pk : Nat) (ps : List Pr), s8 = .int .i64 j ∧ j + gk = r + 1 ∧ Hid (ps = (List.range j).foldl (addA l t m i) ps0) ∧ YI w K t NA2 nk2 PA pk ns ps wx)
        case atStart => exact ⟨0, PA, pk, ps0, rfl, by omega, Lib.hid rfl, hY⟩
        case round =>
          clear hY hb0
          obtain ⟨j, PA, pk, ps, rfl, hj, hps, hY⟩ := hrel
          replace hj := Lib.hid hj
          have b5 := hY.2.2.1.cell 5
          simp only [List.getElem?_toArray, List.getElem?_cons_zero, List.getElem?_cons_succ] at b5
          have hjr : j ≤ r + 1 := by have := hj.out; omega
          have hjz : (0 : Int) ≤ j := by omega
          by_cases hjn : j ≤ r
          · have hjn' : (j : Int) ≤ r := by omega
            by_cases h7 : ps.length < 7
            · have h7' : (ps.length : Int) < 7 := by omega
              obtain ⟨y, hy⟩ : ∃ y, y = numA l (4 + 3 * i + j) := ⟨_, rfl⟩
              have hyb := numA_bd l (4 + 3 * i + j)
              rw [← hy] at hyb
              have hMy : Hid (∀ (W : World), Calls Try.prog 8 #[.int .i64 (l.getD (4 + 3 * i + j) 0), .int .i64 1073741824] W fun e w' => e = .returned (.int .i64 y) ∧ W = w') := Lib.hid fun W => by rw [hy]; exact hMo.out W _
              obtain ⟨Y, hY4⟩ := Int.eq_ofNat_of_zero_le (show 0 ≤ y % 4 by omega)
              have hYb : Y ≤ 3 := by omega
              have hrt : (rightA t m y).length = Y := by simp only [rightA, List.length_map, List.length_range]; omega
              have hpe : addA l t m i ps j = ps ++ [⟨16 + (i : Int), rightA t m y⟩] := by unfold addA; rw [if_pos h7, hy]; rfl
              replace hy := Lib.hid hy
              replace hpe := Lib.hid hpe
              replace hrt := Lib.hid hrt
              have hb0 := Lib.hid hY.2.2.2.2.2
              have hb1 : Below wr.heap.size wr (wr.alloc (.cells #[.int .i64 (16 + (i : Int)), .slice none 0 0] 59)) := bAlc (Below.refl _ _) _
              have q9 := Blk.new wr 59 #[.int .i64 (16 + (i : Int)), .slice none 0 0]
              have hY1 := hY.step hb1
              have hlt := hY.2.2.1.lt
              go_upto_region 13 with (fail)
              clear b5
              obtain ⟨V0, hV0⟩ : ∃ V0, V0 = wr := ⟨_, rfl⟩
              rw [← hV0] at hY hb1 q9 hY1 hb0 hlt ⊢
              clear hV0
              generalize V0.alloc (.cells #[.int .i64 (16 + (i : Int)), .slice none 0 0] 59) = W1 at *
              generalize hb9 : V0.heap.size = b9 at *
              replace hb9 := Lib.hid hb9
              go_upto_region 14 with (first
                | (go_at_call 23; refine (hAt.out _ _ (4 + 3 * i + j) hY1.2.2.2.2.2 (by omega) (by omega)).mono ?_; rintro e w' ⟨rfl, rfl⟩)
                | (go_at_call 8; refine (hMy.out _).mono ?_; rintro e w' ⟨rfl, rfl⟩))
              go_wp2_with fail
              go_loopg [11] Y (fun gk s11 wx => ∃ (s : Nat) (RA : Option Addr) (rk : Nat), s11 = .int .i64 s ∧ s + gk = Y ∧ Blk wx b9 59 #[.int .i64 (16 + (i : Int)), .slice RA s rk] ∧ Own1 wx (b9 + 1) 3 (.slice RA s rk) (ints ((rightA t m y).take s)) ∧ Below b9 V0 wx)
              case atStart => exact ⟨0, none, 0, rfl, by omega, q9, Own1.nil _ _ 3, hb1⟩
              case round =>
                clear hY1 q9 hb1
                obtain ⟨s, RA, rk, rfl, hs, q9, ho, hbx⟩ := hrel
                replace hs := Lib.hid hs
                have hsz : (0 : Int) ≤ s := by omega
                have hsY0 : s ≤ Y := by have := hs.out; omega
                by_cases hsY : s < Y
                · have hsY' : (s : Int) < Y := by omega
                  go_upto_region 17 with (fail)
                  go_cut [12] (fun s12 wx => s12 = .int .i64 (digA y s) ∧ wx = wr)
                  case first =>
                    rcases (by omega : s = 0 ∨ s = 1 ∨ s = 2) with rfl | rfl | rfl
                    all_goals
                      go_wp2_with fail
                      go_meet
                      exact ⟨by simp [digA], rfl⟩
                  case rest =>
                    obtain ⟨rfl, hwc⟩ := hcut
                    subst hwc
                    have hzb : 0 ≤ digA y s ∧ digA y s < 16 := by unfold digA; omega
                    have htk := rightA_take t m y s (by omega)
                    have hsy : symA t m (digA y s) = if digA y s % 5 < 3 then digA y s % (t : Int) else 16 + digA y s % (m : Int) := rfl
                    generalize digA y s = z at *
                    have hxl : ((rightA t m y).take s).length = s := by rw [List.length_take, hrt.out]; omega
                    have ht0 : ¬ (t : Int) = 0 := by have := htb.out; omega
                    have hm0 : ¬ (m : Int) = 0 := by omega
                    have htp : (0 : Int) ≤ t := by omega
                    have hmp : (0 : Int) ≤ m := by omega
                    have hYx := hY.step (show Below V0.heap.size V0 wc from by rw [hb9.out]; exact hbx)
                    have g1 := hYx.2.2.1.cell 1
                    have c1 := q9.cell 1
                    simp only [List.getElem?_toArray, List.getElem?_cons_zero, List.getElem?_cons_succ] at g1 c1
                    have hsb := hYx.2.2.1.lt
                    have hb9l : b9 ≤ wc.heap.size := by have := q9.lt; omega
                    by_cases hz5 : z % 5 < 3
                    · rw [if_pos hz5] at hsy
                      obtain ⟨u, hu⟩ : ∃ u : Int, u = z % (t : Int) := ⟨_, rfl⟩
                      have hzm : z.tmod (t : Int) = u := by rw [hu]; exact Int.tmod_eq_emod_of_nonneg hzb.1
                      have hu1 : 0 ≤ u := by rw [hu]; exact Int.emod_nonneg _ ht0
                      have hu2 : u < 3 := by have := Int.emod_lt_of_pos z (show (0 : Int) < (t : Int) by omega); have := htb.out; omega
                      rw [← hu] at hsy
                      replace hu := Lib.hid hu
                      have hd0 : ¬ t = 0 := by omega
                      obtain ⟨RA2, rk2, W2, hrun, ho2, hg2⟩ := run_push1 ((wc.alloc (.cells #[.int .i64 (u)] 3)).drew) (b9 + 1) RA rk ((rightA t m y).take s) (by rw [hxl]; exact (ho.alloc _).step (Below.refl _ _).drew) (u) wc.heap.size (Blk.new _ _ _).drew (by omega) (by simp; omega)
                      rw [hxl] at hrun ho2 hg2
                      have hlo : ∀ r, (Value.slice RA s rk).ownBlock = some r → b9 + 1 ≤ r := fun r e => (own_in ho r e).1
                      have q9b : Blk W2 b9 59 #[.int .i64 (16 + (i : Int)), .slice RA s rk] := ((q9.alloc _).drew).grown hg2 (fun e => by have := hlo _ e.symm; omega)
                      have c1b := q9b.cell 1
                      have f1b := q9b.frozen 1
                      simp only [List.getElem?_toArray, List.getElem?_cons_zero, List.getElem?_cons_succ] at c1b
                      have hb2 : Below b9 V0 W2 := hbx.trans (((((Below.refl b9 wc).alloc hb9l _).drew).trans ⟨hg2.os, hg2.tape, hg2.output, hg2.size, fun k hk => hg2.block k (by simp; omega) (fun e => by have := hlo _ e.symm; omega)⟩))
                      have ho3 : Own1 (W2.setCell ⟨b9, 1, none⟩ (.slice RA2 (s + 1) rk2)) (b9 + 1) 3 (.slice RA2 (s + 1) rk2) (ints ((rightA t m y).take (s + 1))) := by
                        rw [htk, hsy]
                        exact row_grown ho2 (grownBy_setC' W2 b9 1 _) (fun b cs e hq => by injection e with e; subst e; cases blk_type q9b hq)
                      replace htk := Lib.hid htk
                      replace hsy := Lib.hid hsy
                      replace hxl := Lib.hid hxl
                      have c1c : ((wc.alloc (.cells #[.int .i64 (u)] 3)).drew).cell? ⟨b9, 1, none⟩ = some (.slice RA s rk) := ((q9.alloc _).drew).cell 1
                      go_upto_region 19 with (fail)
                      have g1d : wc.drew.cell? ⟨w.heap.size + 1 + 1, 1, none⟩ = some (.slice (some ⟨w.heap.size + 1, 0, none⟩) t 2) := g1
                      have g1a : ((wc.alloc (.cells #[.int .i64 u] 3)).drew).cell? ⟨w.heap.size + 1 + 1, 1, none⟩ = some (.slice (some ⟨w.heap.size + 1, 0, none⟩) t 2) := ((hYx.2.2.1.alloc _).drew).cell 1
                      have hbx2 : Blk W2 (w.heap.size + 1 + 1) 26 _ := ((hYx.2.2.1.alloc _).drew).grown hg2 (fun e => by have := hlo _ e.symm; omega)
                      have g1b : W2.cell? ⟨w.heap.size + 1 + 1, 1, none⟩ = some (.slice (some ⟨w.heap.size + 1, 0, none⟩) t 2) := hbx2.cell 1
                      have g1c : (W2.setCell ⟨b9, 1, none⟩ (.slice RA2 (s + 1) rk2)).cell? ⟨w.heap.size + 1 + 1, 1, none⟩ = some (.slice (some ⟨w.heap.size + 1, 0, none⟩) t 2) := (hbx2.far (p := ⟨b9, 1, none⟩) (by simp; omega) _).cell 1
                      refine wp_region_held_drew (S := (fun w' => w'.cell? ⟨w.heap.size + 1 + 1, 1, none⟩ = some (.slice (some ⟨w.heap.size + 1, 0, none⟩) t 2))) (by kernel_rfl) g1d (fun hHeld => ?_)
                      refine wpAnyH_take (i := 0) (oi := ⟨some 89, _, _, _, _, _⟩) (v := ?vp1) rfl (by kernel_rfl) (by kernel_rfl) (by kernel_rfl) (fun _ _ _ h => h) (Or.inl ⟨by rfl, ?hyp1⟩) (by assumption) ?restp1
                      case hyp1 => (intro w hSw; (try dsimp only at hSw); go_simp <;> with_reducible rfl)
                      try simp only [Act.put, List.setIfInBounds_toArray, List.set_cons_zero, List.set_cons_succ]
                      refine wpAnyH_take (i := 2) (oi := ⟨some 91, _, _, _, _, _⟩) (v := ?vp2) rfl (by kernel_rfl) (by kernel_rfl) (by kernel_rfl) (fun _ _ _ h => h) (Or.inl ⟨by rfl, ?hyp2⟩) (by assumption) ?restp2
                      case hyp2 => (intro w hSw; (try dsimp only at hSw); go_simp <;> with_reducible rfl)
                      try simp only [Act.put, List.setIfInBounds_toArray, List.set_cons_zero, List.set_cons_succ]
                      refine wpAnyH_take (i := 3) (oi := ⟨some 92, _, _, _, _, _⟩) (v := ?vp3) rfl (by kernel_rfl) (by kernel_rfl) (by kernel_rfl) (fun _ _ _ h => h) (Or.inl ⟨by rfl, ?hyp3⟩) (by assumption) ?restp3
                      case hyp3 => (intro w hSw; (try dsimp only at hSw); go_simp <;> with_reducible rfl)
                      try simp only [Act.put, List.setIfInBounds_toArray, List.set_cons_zero, List.set_cons_succ]
                      refine wpAnyH_take (i := 4) (oi := ⟨some 93, _, _, _, _, _⟩) (v := ?vp4) rfl (by kernel_rfl) (by kernel_rfl) (by kernel_rfl) (fun _ _ _ h => h) (Or.inl ⟨by rfl, ?hyp4⟩) (by assumption) ?restp4
                      case hyp4 => (intro w hSw; (try dsimp only at hSw); go_simp <;> with_reducible rfl)
                      try simp only [Act.put, List.setIfInBounds_toArray, List.set_cons_zero, List.set_cons_succ]
                      refine wpAnyH_take (i := 5) (oi := ⟨some 94, _, _, _, _, _⟩) (v := ?vp5) rfl (by kernel_rfl) (by kernel_rfl) (by kernel_rfl) (fun _ _ _ h => h) (Or.inl ⟨by rfl, ?hyp5⟩) (by assumption) ?restp5
                      case hyp5 => (intro w hSw; (try dsimp only at hSw); go_simp <;> with_reducible rfl)
                      try simp only [Act.put, List.setIfInBounds_toArray, List.set_cons_zero, List.set_cons_succ]
                      refine wpAnyH_take (i := 6) (oi := ⟨some 95, _, _, _, _, _⟩) (v := ?vp6) rfl (by kernel_rfl) (by kernel_rfl) (by kernel_rfl) (fun _ _ _ h => h) (Or.inl ⟨by rfl, ?hyp6⟩) (by assumption) ?restp6
                      case hyp6 => (intro w hSw; (try dsimp only at hSw); go_simp <;> with_reducible rfl)
                      try simp only [Act.put, List.setIfInBounds_toArray, List.set_cons_zero, List.set_cons_succ]
                      refine wpAnyH_ready (rs := [1, 7]) (by kernel_rfl) (by simp) ?_
                      refine AllReadyH.cons (o := ⟨some 90, _, _, _, _, _⟩) rfl (fun K hK => ?_) ?_
                      · go_simp
                        refine hK.out _ _ ?_ (fun hHeld => ?_)
                        · first | exact g1d | exact g1a | exact g1b | exact g1c
                        clear hK K
                        try simp only [Act.put, List.setIfInBounds_toArray, List.set_cons_zero, List.set_cons_succ]
                        refine wpAnyH_ready (rs := [7]) (by kernel_rfl) (by simp) ?_
                        refine AllReadyH.cons (o := ⟨some 96, _, _, _, _, _⟩) rfl (fun K hK => ?_) ?_
                        · go_simp
                          refine hK.out _ _ ?_ (fun hHeld => ?_)
                          · first | exact g1d | exact g1a | exact g1b | exact g1c
                          clear hK K
                          try simp only [Act.put, List.setIfInBounds_toArray, List.set_cons_zero, List.set_cons_succ]
                          refine wpAnyH_ready (rs := [8]) (by kernel_rfl) (by simp) ?_
                          refine AllReadyH.cons (o := ⟨some 97, _, _, _, _, _⟩) rfl (fun K hK => ?_) ?_
                          · skip
                            refine step_of_wp _ (by rfl) ?_
                            refine wp_of_append _ _ _ (by rfl) _ _ (by rfl) (by rfl) _ _ hrun ?_
                            refine hK.out _ _ ?_ (fun hHeld => ?_)
                            · first | exact g1d | exact g1a | exact g1b | exact g1c
                            clear hK K
                            try simp only [Act.put, List.setIfInBounds_toArray, List.set_cons_zero, List.set_cons_succ]
                            refine wpAnyH_take (i := 9) (oi := ⟨some 98, _, _, _, _, _⟩) (v := ?vp7) rfl (by kernel_rfl) (by kernel_rfl) (by kernel_rfl) (fun _ _ _ h => h) (Or.inl ⟨by rfl, ?hyp7⟩) (by assumption) ?restp7
                            case hyp7 => (intro w hSw; (try dsimp only at hSw); go_simp <;> with_reducible rfl)
                            try simp only [Act.put, List.setIfInBounds_toArray, List.set_cons_zero, List.set_cons_succ]
                            refine wpAnyH_ready (rs := [10]) (by kernel_rfl) (by simp) ?_
                            refine AllReadyH.cons (o := ⟨none, _, _, _, _, _⟩) rfl (fun K hK => ?_) ?_
                            · go_simp
                              refine hK.out _ _ ?_ (fun hHeld => ?_)
                              · first | exact g1d | exact g1a | exact g1b | exact g1c
                              clear hK K
                              try simp only [Act.put, List.setIfInBounds_toArray, List.set_cons_zero, List.set_cons_succ]
                              refine wpAnyH_done (by kernel_rfl) ?_ _
                              go_wp2_with fail
                              go_roundg (Y - (s + 1))
                              case measure => have := hs.out; omega
                              case rel => exact ⟨s + 1, RA2, rk2, by go_num, by have := hs.out; omega, q9b.put 1 _, ho3, hb2.setCell (Nat.le_refl _) _⟩
                            exact AllReadyH.nil
                          exact AllReadyH.nil
                        exact AllReadyH.nil
                      refine AllReadyH.cons (o := ⟨some 96, _, _, _, _, _⟩) rfl (fun K hK => ?_) ?_
                      · go_simp
                        refine hK.out _ _ ?_ (fun hHeld => ?_)
                        · first | exact g1d | exact g1a | exact g1b | exact g1c
                        clear hK K
                        try simp only [Act.put, List.setIfInBounds_toArray, List.set_cons_zero, List.set_cons_succ]
                        refine wpAnyH_ready (rs := [1]) (by kernel_rfl) (by simp) ?_
                        refine AllReadyH.cons (o := ⟨some 90, _, _, _, _, _⟩) rfl (fun K hK => ?_) ?_
                        · go_simp
                          refine hK.out _ _ ?_ (fun hHeld => ?_)
                          · first | exact g1d | exact g1a | exact g1b | exact g1c
                          clear hK K
                          try simp only [Act.put, List.setIfInBounds_toArray, List.set_cons_zero, List.set_cons_succ]
                          refine wpAnyH_ready (rs := [8]) (by kernel_rfl) (by simp) ?_
                          refine AllReadyH.cons (o := ⟨some 97, _, _, _, _, _⟩) rfl (fun K hK => ?_) ?_
                          · skip
                            refine step_of_wp _ (by rfl) ?_
                            refine wp_of_append _ _ _ (by rfl) _ _ (by rfl) (by rfl) _ _ hrun ?_
                            refine hK.out _ _ ?_ (fun hHeld => ?_)
                            · first | exact g1d | exact g1a | exact g1b | exact g1c
                            clear hK K
                            try simp only [Act.put, List.setIfInBounds_toArray, List.set_cons_zero, List.set_cons_succ]
                            refine wpAnyH_take (i := 9) (oi := ⟨some 98, _, _, _, _, _⟩) (v := ?vp8) rfl (by kernel_rfl) (by kernel_rfl) (by kernel_rfl) (fun _ _ _ h => h) (Or.inl ⟨by rfl, ?hyp8⟩) (by assumption) ?restp8
                            case hyp8 => (intro w hSw; (try dsimp only at hSw); go_simp <;> with_reducible rfl)
                            try simp only [Act.put, List.setIfInBounds_toArray, List.set_cons_zero, List.set_cons_succ]
                            refine wpAnyH_ready (rs := [10]) (by kernel_rfl) (by simp) ?_
                            refine AllReadyH.cons (o := ⟨none, _, _, _, _, _⟩) rfl (fun K hK => ?_) ?_
                            · go_simp
                              refine hK.out _ _ ?_ (fun hHeld => ?_)
                              · first | exact g1d | exact g1a | exact g1b | exact g1c
                              clear hK K
                              try simp only [Act.put, List.setIfInBounds_toArray, List.set_cons_zero, List.set_cons_succ]
                              refine wpAnyH_done (by kernel_rfl) ?_ _
                              go_wp2_with fail
                              go_roundg (Y - (s + 1))
                              case measure => have := hs.out; omega
                              case rel => exact ⟨s + 1, RA2, rk2, by go_num, by have := hs.out; omega, q9b.put 1 _, ho3, hb2.setCell (Nat.le_refl _) _⟩
                            exact AllReadyH.nil
                          exact AllReadyH.nil
                        exact AllReadyH.nil
                      exact AllReadyH.nil
                    · rw [if_neg hz5] at hsy
                      obtain ⟨u, hu⟩ : ∃ u : Int, u = z % (m : Int) := ⟨_, rfl⟩
                      have hzm : z.tmod (m : Int) = u := by rw [hu]; exact Int.tmod_eq_emod_of_nonneg hzb.1
                      have hu1 : 0 ≤ u := by rw [hu]; exact Int.emod_nonneg _ hm0
                      have hu2 : u < 3 := by have := Int.emod_lt_of_pos z (show (0 : Int) < (m : Int) by omega); have := htb.out; omega
                      rw [← hu] at hsy
                      replace hu := Lib.hid hu
                      have hd0 : ¬ m = 0 := by omega
                      have zwu : IntKind.i64.wrap (16 + u) = 16 + u := IntWalk.i64_in _ (by omega)
                      obtain ⟨RA2, rk2, W2, hrun, ho2, hg2⟩ := run_push1 ((wc.alloc (.cells #[.int .i64 (16 + u)] 3)).drew) (b9 + 1) RA rk ((rightA t m y).take s) (by rw [hxl]; exact (ho.alloc _).step (Below.refl _ _).drew) (16 + u) wc.heap.size (Blk.new _ _ _).drew (by omega) (by simp; omega)
                      rw [hxl] at hrun ho2 hg2
                      have hlo : ∀ r, (Value.slice RA s rk).ownBlock = some r → b9 + 1 ≤ r := fun r e => (own_in ho r e).1
                      have q9b : Blk W2 b9 59 #[.int .i64 (16 + (i : Int)), .slice RA s rk] := ((q9.alloc _).drew).grown hg2 (fun e => by have := hlo _ e.symm; omega)
                      have c1b := q9b.cell 1
                      have f1b := q9b.frozen 1
                      simp only [List.getElem?_toArray, List.getElem?_cons_zero, List.getElem?_cons_succ] at c1b
                      have hb2 : Below b9 V0 W2 := hbx.trans (((((Below.refl b9 wc).alloc hb9l _).drew).trans ⟨hg2.os, hg2.tape, hg2.output, hg2.size, fun k hk => hg2.block k (by simp; omega) (fun e => by have := hlo _ e.symm; omega)⟩))
                      have ho3 : Own1 (W2.setCell ⟨b9, 1, none⟩ (.slice RA2 (s + 1) rk2)) (b9 + 1) 3 (.slice RA2 (s + 1) rk2) (ints ((rightA t m y).take (s + 1))) := by
                        rw [htk, hsy]
                        exact row_grown ho2 (grownBy_setC' W2 b9 1 _) (fun b cs e hq => by injection e with e; subst e; cases blk_type q9b hq)
                      replace htk := Lib.hid htk
                      replace hsy := Lib.hid hsy
                      replace hxl := Lib.hid hxl
                      have c1c : ((wc.alloc (.cells #[.int .i64 (16 + u)] 3)).drew).cell? ⟨b9, 1, none⟩ = some (.slice RA s rk) := ((q9.alloc _).drew).cell 1
                      go_upto_region 20 with (fail)
                      refine wp_region_held_drew (S := (fun _ => True)) (by kernel_rfl) trivial (fun hHeld => ?_)
                      refine wpAnyH_take (i := 0) (oi := ⟨some 99, _, _, _, _, _⟩) (v := ?vq1) rfl (by kernel_rfl) (by kernel_rfl) (by kernel_rfl) (fun _ _ _ h => h) (Or.inl ⟨by rfl, ?hyq1⟩) (by assumption) ?restq1
                      case hyq1 => (intro w hSw; (try dsimp only at hSw); go_simp <;> with_reducible rfl)
                      try simp only [Act.put, List.setIfInBounds_toArray, List.set_cons_zero, List.set_cons_succ]
                      refine wpAnyH_take (i := 2) (oi := ⟨some 101, _, _, _, _, _⟩) (v := ?vq2) rfl (by kernel_rfl) (by kernel_rfl) (by kernel_rfl) (fun _ _ _ h => h) (Or.inl ⟨by rfl, ?hyq2⟩) (by assumption) ?restq2
                      case hyq2 => (intro w hSw; (try dsimp only at hSw); go_simp <;> with_reducible rfl)
                      try simp only [Act.put, List.setIfInBounds_toArray, List.set_cons_zero, List.set_cons_succ]
                      refine wpAnyH_take (i := 3) (oi := ⟨some 102, _, _, _, _, _⟩) (v := ?vq3) rfl (by kernel_rfl) (by kernel_rfl) (by kernel_rfl) (fun _ _ _ h => h) (Or.inl ⟨by rfl, ?hyq3⟩) (by assumption) ?restq3
                      case hyq3 => (intro w hSw; (try dsimp only at hSw); go_simp <;> with_reducible rfl)
                      try simp only [Act.put, List.setIfInBounds_toArray, List.set_cons_zero, List.set_cons_succ]
                      refine wpAnyH_take (i := 4) (oi := ⟨some 103, _, _, _, _, _⟩) (v := ?vq4) rfl (by kernel_rfl) (by kernel_rfl) (by kernel_rfl) (fun _ _ _ h => h) (Or.inl ⟨by rfl, ?hyq4⟩) (by assumption) ?restq4
                      case hyq4 => (intro w hSw; (try dsimp only at hSw); go_simp <;> with_reducible rfl)
                      try simp only [Act.put, List.setIfInBounds_toArray, List.set_cons_zero, List.set_cons_succ]
                      refine wpAnyH_take (i := 5) (oi := ⟨some 104, _, _, _, _, _⟩) (v := ?vq5) rfl (by kernel_rfl) (by kernel_rfl) (by kernel_rfl) (fun _ _ _ h => h) (Or.inl ⟨by rfl, ?hyq5⟩) (by assumption) ?restq5
                      case hyq5 => (intro w hSw; (try dsimp only at hSw); go_simp <;> with_reducible rfl)
                      try simp only [Act.put, List.setIfInBounds_toArray, List.set_cons_zero, List.set_cons_succ]
                      refine wpAnyH_ready (rs := [1, 6]) (by kernel_rfl) (by simp) ?_
                      refine AllReadyH.cons (o := ⟨some 100, _, _, _, _, _⟩) rfl (fun K hK => ?_) ?_
                      · go_simp
                        refine hK.out _ _ ?_ (fun hHeld => ?_)
                        · trivial
                        clear hK K
                        try simp only [Act.put, List.setIfInBounds_toArray, List.set_cons_zero, List.set_cons_succ]
                        refine wpAnyH_ready (rs := [6]) (by kernel_rfl) (by simp) ?_
                        refine AllReadyH.cons (o := ⟨some 105, _, _, _, _, _⟩) rfl (fun K hK => ?_) ?_
                        · go_simp
                          refine hK.out _ _ ?_ (fun hHeld => ?_)
                          · trivial
                          clear hK K
                          try simp only [Act.put, List.setIfInBounds_toArray, List.set_cons_zero, List.set_cons_succ]
                          refine wpAnyH_ready (rs := [7]) (by kernel_rfl) (by simp) ?_
                          refine AllReadyH.cons (o := ⟨some 106, _, _, _, _, _⟩) rfl (fun K hK => ?_) ?_
                          · skip
                            refine step_of_wp _ (by rfl) ?_
                            refine wp_of_append _ _ _ (by rfl) _ _ (by rfl) (by rfl) _ _ hrun ?_
                            refine hK.out _ _ ?_ (fun hHeld => ?_)
                            · trivial
                            clear hK K
                            try simp only [Act.put, List.setIfInBounds_toArray, List.set_cons_zero, List.set_cons_succ]
                            refine wpAnyH_take (i := 8) (oi := ⟨some 107, _, _, _, _, _⟩) (v := ?vq6) rfl (by kernel_rfl) (by kernel_rfl) (by kernel_rfl) (fun _ _ _ h => h) (Or.inl ⟨by rfl, ?hyq6⟩) (by assumption) ?restq6
                            case hyq6 => (intro w hSw; (try dsimp only at hSw); go_simp <;> with_reducible rfl)
                            try simp only [Act.put, List.setIfInBounds_toArray, List.set_cons_zero, List.set_cons_succ]
                            refine wpAnyH_ready (rs := [9]) (by kernel_rfl) (by simp) ?_
                            refine AllReadyH.cons (o := ⟨none, _, _, _, _, _⟩) rfl (fun K hK => ?_) ?_
                            · go_simp
                              refine hK.out _ _ ?_ (fun hHeld => ?_)
                              · trivial
                              clear hK K
                              try simp only [Act.put, List.setIfInBounds_toArray, List.set_cons_zero, List.set_cons_succ]
                              refine wpAnyH_done (by kernel_rfl) ?_ _
                              go_wp2_with fail
                              go_roundg (Y - (s + 1))
                              case measure => have := hs.out; omega
                              case rel => exact ⟨s + 1, RA2, rk2, by go_num, by have := hs.out; omega, q9b.put 1 _, ho3, hb2.setCell (Nat.le_refl _) _⟩
                            exact AllReadyH.nil
                          exact AllReadyH.nil
                        exact AllReadyH.nil
                      refine AllReadyH.cons (o := ⟨some 105, _, _, _, _, _⟩) rfl (fun K hK => ?_) ?_
                      · go_simp
                        refine hK.out _ _ ?_ (fun hHeld => ?_)
                        · trivial
                        clear hK K
                        try simp only [Act.put, List.setIfInBounds_toArray, List.set_cons_zero, List.set_cons_succ]
                        refine wpAnyH_ready (rs := [1]) (by kernel_rfl) (by simp) ?_
                        refine AllReadyH.cons (o := ⟨some 100, _, _, _, _, _⟩) rfl (fun K hK => ?_) ?_
                        · go_simp
                          refine hK.out _ _ ?_ (fun hHeld => ?_)
                          · trivial
                          clear hK K
                          try simp only [Act.put, List.setIfInBounds_toArray, List.set_cons_zero, List.set_cons_succ]
                          refine wpAnyH_ready (rs := [7]) (by kernel_rfl) (by simp) ?_
                          refine AllReadyH.cons (o := ⟨some 106, _, _, _, _, _⟩) rfl (fun K hK => ?_) ?_
                          · skip
                            refine step_of_wp _ (by rfl) ?_
                            refine wp_of_append _ _ _ (by rfl) _ _ (by rfl) (by rfl) _ _ hrun ?_
                            refine hK.out _ _ ?_ (fun hHeld => ?_)
                            · trivial
                            clear hK K
                            try simp only [Act.put, List.setIfInBounds_toArray, List.set_cons_zero, List.set_cons_succ]
                            refine wpAnyH_take (i := 8) (oi := ⟨some 107, _, _, _, _, _⟩) (v := ?vq7) rfl (by kernel_rfl) (by kernel_rfl) (by kernel_rfl) (fun _ _ _ h => h) (Or.inl ⟨by rfl, ?hyq7⟩) (by assumption) ?restq7
                            case hyq7 => (intro w hSw; (try dsimp only at hSw); go_simp <;> with_reducible rfl)
                            try simp only [Act.put, List.setIfInBounds_toArray, List.set_cons_zero, List.set_cons_succ]
                            refine wpAnyH_ready (rs := [9]) (by kernel_rfl) (by simp) ?_
                            refine AllReadyH.cons (o := ⟨none, _, _, _, _, _⟩) rfl (fun K hK => ?_) ?_
                            · go_simp
                              refine hK.out _ _ ?_ (fun hHeld => ?_)
                              · trivial
                              clear hK K
                              try simp only [Act.put, List.setIfInBounds_toArray, List.set_cons_zero, List.set_cons_succ]
                              refine wpAnyH_done (by kernel_rfl) ?_ _
                              go_wp2_with fail
                              go_roundg (Y - (s + 1))
                              case measure => have := hs.out; omega
                              case rel => exact ⟨s + 1, RA2, rk2, by go_num, by have := hs.out; omega, q9b.put 1 _, ho3, hb2.setCell (Nat.le_refl _) _⟩
                            exact AllReadyH.nil
                          exact AllReadyH.nil
                        exact AllReadyH.nil
                      exact AllReadyH.nil
                · have hse : s = Y := by omega
                  subst hse
                  have hfull : (rightA t m y).take s = rightA t m y := List.take_of_length_le (by rw [hrt.out]; exact Nat.le_refl _)
                  rw [hfull] at ho
                  obtain ⟨RA', rk', e1, hrtA⟩ := RtAt.of ho
                  rw [hrt.out] at e1
                  cases e1
                  have hYx := hY.step (show Below V0.heap.size V0 wr from by rw [hb9.out]; exact hbx)
                  have g5 := hYx.2.2.1.cell 5
                  have c0 := q9.cell 0
                  have c1 := q9.cell 1
                  simp only [List.getElem?_toArray, List.getElem?_cons_zero, List.getElem?_cons_succ] at g5 c0 c1
                  have hb9l : w.heap.size + 3 ≤ b9 := by have := hb9.out; have := hY.2.2.1.lt; omega
                  have hq9l := q9.lt
                  have hbA : Below wr.heap.size wr (wr.alloc (.cells #[.int .i64 (16 + (i : Int)), .slice RA s rk] 59)) := bAlc (Below.refl _ _) _
                  have hqA : Blk (wr.alloc (.cells #[.int .i64 (16 + (i : Int)), .slice RA s rk] 59)) wr.heap.size 59 #[.int .i64 (Pr.mk (16 + (i : Int)) (rightA t m y)).left, .slice RA (Pr.mk (16 + (i : Int)) (rightA t m y)).right.length rk] := by
                    show Blk _ _ 59 #[.int .i64 (16 + (i : Int)), .slice RA (rightA t m y).length rk]
                    rw [hrt.out]; exact Blk.new _ _ _
                  have hPA := (hYx.step hbA).2.2.2.2.1
                  have hlo : ∀ rr, (Value.slice PA ps.length pk).ownBlock = some rr → w.heap.size + 3 ≤ rr := fun rr e => by obtain ⟨rs, hpr⟩ := hPA; exact (own_in hpr.2.1 rr e).1
                  have hpl : (ps ++ [Pr.mk (16 + (i : Int)) (rightA t m y)]).length = ps.length + 1 := by simp
                  replace hpl := Lib.hid hpl
                  replace hfull := Lib.hid hfull
                  go_wp2_with (at_builtin; refine wpList_plain rfl fun K' hK' => wp_pushP _ _ _ (by rfl) (w.heap.size + 3) _ ps _ (by rfl) hPA.choose_spec _ ⟨16 + (i : Int), rightA t m y⟩ RA rk (by rfl) hqA ((hrtA.mono (by omega)).step hbA) (by omega) (by simp; omega) ?_; intro v4 w4 hps4 hg4; refine hK' _ _ ?_; obtain ⟨PA4, pk4, rfl, _, _, _⟩ := hps4.reads; rw [hpl.out]; rw [hpl.out] at hps4; obtain ⟨g5b, f5b⟩ := (hYx.step hbA).box hg4 hlo 5; rw [((hYx.step hbA).2.2.1).cell 5] at g5b; simp only [List.getElem?_toArray, List.getElem?_cons_zero, List.getElem?_cons_succ] at g5b)
                  go_roundg (r + 1 - (j + 1))
                  case measure => have := hj.out; omega
                  case rel =>
                    have h9 := (hYx.step hbA).prods hg4 (PA2 := PA4) (pk2 := pk4) (qs := ps ++ [Pr.mk (16 + (i : Int)) (rightA t m y)]) (by rw [hpl.out]; exact hps4)
                    rw [hpl.out] at h9
                    exact ⟨j + 1, PA4, pk4, ps ++ [Pr.mk (16 + (i : Int)) (rightA t m y)], by go_num, by have := hj.out; omega, Lib.hid (by rw [List.range_succ, List.foldl_append, ← hps.out]; exact hpe.out.symm), h9⟩
            · have h7' : ¬ (ps.length : Int) < 7 := by omega
              have hrow : ps = prodsA l t m (i + 1) := by
                have e : prodsA l t m (i + 1) = rowA l t m i (prodsA l t m i) := by simp [prodsA, List.range_succ]
                rw [e, ← hps0.out]
                unfold rowA
                rw [hJ.out, hps.out]
                exact (foldA_part l t m i ps0 j (r + 1) hjr (by rw [← hps.out]; omega)).symm
              rw [hrow] at hY
              replace hrow := Lib.hid hrow
              go_wp2_with fail
              go_roundg (m - (i + 1))
              case measure => have := hi.out; omega
              case rel => exact ⟨i + 1, NA2, nk2, PA, pk, by go_num, by have := hi.out; omega, by rw [← hns.out]; exact hY⟩
          · have hjn' : ¬ (j : Int) ≤ r := by omega
            have hje : j = r + 1 := by omega
            have hrow : ps = prodsA l t m (i + 1) := by
              have e : prodsA l t m (i + 1) = rowA l t m i (prodsA l t m i) := by simp [prodsA, List.range_succ]
              rw [e, ← hps0.out]
              unfold rowA
              rw [hJ.out, hps.out, hje]
            rw [hrow] at hY
            replace hrow := Lib.hid hrow
            replace hje := Lib.hid hje
            go_wp2_with fail
            go_roundg (m - (i + 1))
            case measure => have := hi.out; omega
            case rel => exact ⟨i + 1, NA2, nk2, PA, pk, by go_num, by have := hi.out; omega, by rw [← hns.out]; exact hY⟩
    · have hie : i = m := by have := hi.out; omega
      subst hie
      obtain ⟨hrx, htx, hbx, hnx, hpx, hbb⟩ := hY
      have b0 := hbx.cell 0
      have b1 := hbx.cell 1
      have b2 := hbx.cell 2
      have b3 := hbx.cell 3
      have b4 := hbx.cell 4
      have b5 := hbx.cell 5
      have a0 := hrx.cell 0
      have a1 := hrx.cell 1
      have a2 := hrx.cell 2
      have a3 := hrx.cell 3
      have a4 := hrx.cell 4
      have a5 := hrx.cell 5
      have f0 := hrx.frozen 0
      have f1 := hrx.frozen 1
      have f2 := hrx.frozen 2
      have f3 := hrx.frozen 3
      have f4 := hrx.frozen 4
      have f5 := hrx.frozen 5
      obtain ⟨ns, hns⟩ : ∃ ns, ns = (List.range i).map nameA := ⟨_, rfl⟩
      obtain ⟨ps, hps⟩ : ∃ ps, ps = prodsA l t i i := ⟨_, rfl⟩
      rw [← hns] at hnx hbx b3
      rw [← hps] at hpx hbx b5
      rw [← hns, ← hps] at hQ
      simp only [List.getElem?_toArray, List.getElem?_cons_zero, List.getElem?_cons_succ] at b0 b1 b2 b3 b4 b5 a0 a1 a2 a3 a4 a5
      replace hns := Lib.hid hns
      replace hps := Lib.hid hps
      go_wp2_with fail
      have hput := put6 hrx (.int .i64 K) (.slice (some ⟨w.heap.size + 1, 0, none⟩) t 2) (.string { data := #[122] }) (.slice NA ns.length nk) (.int .i64 16) (.slice PA ps.length pk)
      have hb6 := bSet6 hbb (g := w.heap.size) (Nat.le_refl _) (.int .i64 K) (.slice (some ⟨w.heap.size + 1, 0, none⟩) t 2) (.string { data := #[122] }) (.slice NA ns.length nk) (.int .i64 16) (.slice PA ps.length pk)
      have hst := far6 hrx (.int .i64 K) (.slice (some ⟨w.heap.size + 1, 0, none⟩) t 2) (.string { data := #[122] }) (.slice NA ns.length nk) (.int .i64 16) (.slice PA ps.length pk)
      have hty : ∀ (e : TypeId), e ≠ 26 → ∀ (b : Nat) (cs : Array Value), some w.heap.size = some b → ¬ Blk wr b e cs := fun e he b cs e1 hq => by injection e1 with e1; subst e1; exact he (blk_type hq hrx)
      have ht2 := htx.grown hst (by simp)
      have hn2 := row_grown hnx hst (hty 9 (by decide))
      have hp2 := hpx.grown hst (hty 3 (by decide)) (hty 59 (by decide))
      generalize (((((wr.setCell ⟨w.heap.size, 0, none⟩ (.int .i64 K)).setCell ⟨w.heap.size, 1, none⟩ (.slice (some ⟨w.heap.size + 1, 0, none⟩) t 2)).setCell ⟨w.heap.size, 2, none⟩ (.string { data := #[122] })).setCell ⟨w.heap.size, 3, none⟩ (.slice NA ns.length nk)).setCell ⟨w.heap.size, 4, none⟩ (.int .i64 16)).setCell ⟨w.heap.size, 5, none⟩ (.slice PA ps.length pk) = W4 at *
      obtain ⟨_, _, en, rn, e3, e4⟩ := own_strs (show Own1 W4 (w.heap.size + 3) 9 _ (strs ns) from hn2)
      obtain ⟨_, _, ep, rp, e5, e6⟩ := hp2.reads
      cases en; cases ep
      have htl : (toksA t).length = t := toksA_len t htb.out
      have hG : GrAt W4 W4.heap.size ⟨K, toksA t, ⟨#[122]⟩, ns, 16, ps⟩ ⟨some ⟨w.heap.size + 1, 0, none⟩, 2, NA, nk, PA, pk⟩ := by
        refine ⟨?_, by show (toksA t).length ≤ 2; rw [htl]; have := htb.out; omega, by simp [maxLen], rn, e3, e4, rp, e5, e6, (show (⟨#[122]⟩ : ByteArray).size ≤ maxLen by decide), ?_, ?_⟩
        · rcases htb.out with e | e
          · rw [e]; exact ⟨rfl, .inr ⟨_, 0, rfl, ht2.lt, fun j v hj => by
              have hjl := (List.getElem?_eq_some_iff.1 hj).1
              have : j = 0 := by simp [toksA, strs] at hjl; omega
              subst this
              cases hj
              exact ht2.cell 0⟩⟩
          · rw [e]; exact ⟨rfl, .inr ⟨_, 0, rfl, ht2.lt, fun j v hj => by
              have hjl := (List.getElem?_eq_some_iff.1 hj).1
              rcases (by simp [toksA, strs] at hjl; omega : j = 0 ∨ j = 1) with rfl | rfl
              · cases hj; exact ht2.cell 0
              · cases hj; exact ht2.cell 1⟩⟩
        · rcases htb.out with e | e <;> rw [e]
          · exact (show ∀ s ∈ toksA 1, s.size ≤ maxLen by decide)
          · exact (show ∀ s ∈ toksA 2, s.size ≤ maxLen by decide)
        · intro s hs
          rw [hns.out] at hs
          obtain ⟨q, _, rfl⟩ := List.mem_map.1 hs
          show (1 : Nat) ≤ maxLen
          simp [maxLen]
      have hR : RetG w (anyG l) (.returned (.agg #[.int .i64 K, .slice (some ⟨w.heap.size + 1, 0, none⟩) t 2, .string { data := #[122] }, .slice NA ns.length nk, .int .i64 16, .slice PA ps.length pk])) W4 := by
        rw [hQ.out]
        refine ⟨⟨some ⟨w.heap.size + 1, 0, none⟩, 2, NA, nk, PA, pk⟩, ?_, hG, hb6⟩
        unfold gval gcells
        rw [htl]
      exact bodyPost_ret (results_cell_row rfl _ _ _ 26 _ (0, 0) _ rfl hput under26' rfl size26') rfl hR
end Go.Proofs.Ytnnkfgekiaaehaa

/- Small grammars: few looks; the laws of FOLLOW on sets. -/
namespace Go.Proofs.Ytnnkfgekiaaehaa
open Go.ChangeShapes Go.WideShapes Go.ChangeAt Go.RowKit
set_option linter.unusedVariables false

/-- an argument that is a list of numbers -/
def IsInts (w : World) (a : Option Addr) (len cap : Nat) (zs : List Int) : Prop :=
  (a = none ∧ len = 0 ∧ cap = 0 ∧ zs = []) ∨
  ∃ x, a = some x ∧ len ≤ cap ∧ cap ≤ maxLen ∧ zs.length = cap ∧ (∀ i, i < zs.length → w.cell? (x.add i) = some (.int .i64 (zs.getD i 0))) ∧ (∀ n ∈ zs, (Lit.int .i64 n).wf = true)
theorem ints_reads {w : World} {a : Option Addr} {len cap : Nat} {zs : List Int} (h : IsInts w a len cap zs) :
    Rd1 w w.heap.size a len (ints (zs.take len)) ∧ (∀ n ∈ zs.take len, (Lit.int .i64 n).wf = true) ∧ len ≤ maxLen := by
  rcases h with ⟨rfl, rfl, rfl, rfl⟩ | ⟨⟨b, off, spot⟩, rfl, h1, h2, h3, h4, h5⟩
  · exact ⟨Rd1.nil _ _ _, by simp, by simp [maxLen]⟩
  · refine ⟨?_, fun n hn => h5 n (List.mem_of_mem_take hn), by omega⟩
    by_cases h0 : len = 0
    · subst h0; exact Rd1.nil _ _ _
    · have hc0 := h4 0 (by omega)
      have hs : spot = none := by simpa [Addr.add] using World.cell?_spot hc0
      subst hs
      have hll : (zs.take len).length = len := by rw [List.length_take]; omega
      refine ⟨by simp [ints]; omega, .inr ⟨b, off, rfl, ?_, fun i v hv => ?_⟩⟩
      · exact block_lt_of_cell (a := ⟨b, off, none⟩) (by simpa [Addr.add] using hc0)
      · have hi : i < len := by have := (List.getElem?_eq_some_iff.1 hv).1; simp [ints] at this; omega
        have hadd : (⟨b, off, none⟩ : Addr).add i = ⟨b, off + i, none⟩ := by unfold Addr.add; split <;> simp_all
        have hc := h4 i (by omega)
        rw [hadd] at hc
        have hiz : i < zs.length := by omega
        simp [ints, hi, hiz, List.getElem?_take] at hv
        rw [hc, ← hv]
        simp [List.getD_eq_getElem?_getD, hiz]

theorem psok_of {g : Gr} {k : Nat} (h : GOk g k) : PsOk g.prods g.toks.length := fun p hp s hs h16 => by
  rcases (h.pr p hp).2.2 s hs with h1 | h1
  · exact h1
  · omega
theorem fo_fit {g : Gr} (hok : gchk g = 0) {s : Int} {y : Lk} (h : FO g.prods g.k.toNat g.start s y) : y.right g.toks.length ∧ y.l.length ≤ g.k.toNat := by
  have hk := gok_of hok
  exact fo_right hk.k1 hk.k4 (by have := hk.tk; omega) (psok_of hk) h
/-- the looks of at most two terminals of two -/
def univ2 : List Lk := [[], [0], [1], [0, 0], [0, 1], [1, 0], [1, 1]].map Lk.of
theorem univ2_mem {x : Lk} (h : x.right 2) (hl : x.l.length ≤ 2) : x ∈ univ2 := by
  obtain ⟨_, _, ho, hv⟩ := right_l h
  rw [← ho]
  refine List.mem_map_of_mem ?_
  match hx : x.l, hl with
  | [], _ => simp
  | [a], _ =>
    have := hv a (by rw [hx]; simp)
    rcases (by omega : a = 0 ∨ a = 1) with rfl | rfl <;> simp
  | [a, b], _ =>
    have h1 := hv a (by rw [hx]; simp)
    have h2 := hv b (by rw [hx]; simp)
    rcases (by omega : a = 0 ∨ a = 1) with rfl | rfl <;> rcases (by omega : b = 0 ∨ b = 1) with rfl | rfl <;> simp
  | a :: b :: c :: t, h => simp at h
/-- a grammar made of numbers, or one with less -/
structure Slight (g : Gr) : Prop where
  ok : gchk g = 0
  tk : g.toks.length ≤ 2
  k2 : g.k ≤ 2
theorem Slight.fit {g : Gr} (h : Slight g) {s : Int} {y : Lk} (hy : FO g.prods g.k.toNat g.start s y) : y ∈ univ2 := by
  have hf := fo_fit h.ok hy
  have hk := gok_of h.ok
  exact univ2_mem (right_mono hf.1 (by have := h.tk; omega) (by omega)) (by have := h.k2; omega)
theorem Slight.few {g : Gr} (h : Slight g) (s : Int) : Few g s := fun L hn hL => by
  have := nodup_len hn fun y hy => h.fit (hL y hy)
  have e : univ2.length = 7 := rfl
  omega
theorem slight_any (l : List Int) : Slight (anyG l) := by
  refine ⟨anyG_ok l, ?_, ?_⟩
  · have := toksA_len (tA l) (tA_bd l)
    have h2 := tA_bd l
    show (toksA (tA l)).length ≤ 2
    omega
  · show 1 + numA l 0 % 2 ≤ 2
    omega
/-- a grammar with another lookahead -/
def withK (g : Gr) (k : Int) : Gr := { g with k := k }
theorem gchk_k {g : Gr} (h : gchk g = 0) {k : Int} (h1 : 1 ≤ k) (h4 : k ≤ 4) : gchk (withK g k) = 0 := by
  obtain ⟨_, r⟩ := (gchk_iff g).1 h
  exact (gchk_iff (withK g k)).2 ⟨⟨h1, h4⟩, r⟩
theorem Slight.withK {g : Gr} (h : Slight g) {k : Nat} (h1 : 1 ≤ k) (h2 : (k : Int) ≤ g.k) : Slight (withK g k) :=
  ⟨gchk_k h.ok (by omega) (by have := h.k2; omega), h.tk, by show (k : Int) ≤ 2; have := h.k2; omega⟩
/-- FOLLOW for a lesser lookahead is the looks cut -/
theorem fset_cut {g : Gr} (h : Slight g) {k : Nat} (h1 : 1 ≤ k) (h2 : (k : Int) ≤ g.k) {s : Int} {L M : List Lk} (hL : FSet g s L) (hM : FSet (withK g k) s M) : M = lcut k L := by
  have hk := gok_of h.ok
  have hr : ∀ x ∈ L.map (fun x => lplus k x (Lk.of [])), x.right 8 := fun x hx => by
    obtain ⟨z, hz, rfl⟩ := List.mem_map.1 hx
    have hf := fo_fit h.ok ((hL.2 z).1 hz)
    exact lplus_right (by have := hk.k4; omega) (right_mono hf.1 (by have := hk.tk; omega) (by omega)) (nil_right 8 (by omega))
  refine asc_uniq hM.1 (lset_asc hr) fun y => ?_
  unfold lcut
  rw [lset_mem hr, hM.2 y, List.mem_map]
  have e : (withK g k).k.toNat = k := by show ((k : Int)).toNat = k; omega
  rw [e]
  show FO g.prods k g.start s y ↔ _
  rw [fo_less (k := g.k.toNat) h1 (by omega) hk.k4 y]
  exact ⟨fun ⟨z, hz, e⟩ => ⟨z, (hL.2 z).2 hz, e⟩, fun ⟨z, hz, e⟩ => ⟨z, (hL.2 z).1 hz, e⟩⟩
theorem GrAt.withK {w : World} {B : Nat} {g : Gr} {a : GA} (h : GrAt w B g a) (k : Int) : GrAt w B (withK g k) a := ⟨h.toks, h.tc, h.tm, h.names, h.nc, h.nm, h.prods, h.pc, h.pm, h.sep, h.ts, h.ns⟩
end Go.Proofs.Ytnnkfgekiaaehaa
