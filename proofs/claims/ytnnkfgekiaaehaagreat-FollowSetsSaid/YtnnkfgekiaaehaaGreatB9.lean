/- Walks and plain laws, part 9 of 11: The statements' own helpers: look, example, awake; The statements' own helper awake: the chapter's example holds; Productions of the call's own; The kit's OwnGrammar; The kit's Any; Small grammars: few looks; the laws of FOLLOW on sets; follow.Behind; follow.Behind: its errors, and what it hands back for a given grammar. Conditions: none beyond those that each theorem states. -/
import Derived.Test.YtnnkfgekiaaehaaGreatB8
import Derived.Deep.RegionHeld3
import Derived.Deep.LoopGhost
import Derived.Laws.IdiomStrings
/- The statements' own helpers: look, example, awake. -/
namespace Go.Proofs.YtnnkfgekiaaehaaGreat
open Go.ChangeShapes Go.WideShapes Go.ChangeAt Go.RowKit
set_option linter.unusedVariables false

/-- the cells of a look under way -/
def lkc (n : Nat) (l : List Int) (i : Nat) : Array Value := #[.int .i64 n, .int .i64 (if 0 < i then l.getD 0 0 else 0), .int .i64 (if 1 < i then l.getD 1 0 else 0), .int .i64 0, .int .i64 0]
theorem lkc_end (l : List Int) (h : l.length ≤ 2) : lkc l.length l l.length = (Lk.of l).cells := by
  match l, h with
  | [], _ => rfl
  | [a], _ => rfl
  | [a, b], _ => rfl
  | a :: b :: c :: l, h => simp at h
set_option maxHeartbeats 2000000 in
theorem look_any (A : Option Addr) (n c : Nat) (l : List Int) (w : World) (h : Rd1 w w.heap.size A n (ints l)) (hn : n ≤ 2) :
    Calls Tryz.prog 32 #[.slice A n c] w fun e w' => e = .returned (Lk.of l).v ∧ Below w.heap.size w w' := by
  have hl : l.length = n := by have := h.1; simpa [ints] using this
  have hln := Lib.hid hl
  have h' := Lib.hid h
  clear hl h
  go_enter Tryz.func32, Tryz.ntmps32
  go_wp2_with fail
  have qa : Blk ((w.alloc (.cells #[.int .i64 0, .int .i64 0, .int .i64 0, .int .i64 0, .int .i64 0] 41)).alloc (.cells #[.int .i64 n, .int .i64 0, .int .i64 0, .int .i64 0, .int .i64 0] 41)) w.heap.size 41 #[.int .i64 0, .int .i64 0, .int .i64 0, .int .i64 0, .int .i64 0] := (Blk.new _ _ _).alloc _
  have qb : Blk ((w.alloc (.cells #[.int .i64 0, .int .i64 0, .int .i64 0, .int .i64 0, .int .i64 0] 41)).alloc (.cells #[.int .i64 n, .int .i64 0, .int .i64 0, .int .i64 0, .int .i64 0] 41)) (w.heap.size + 1) 41 (lkc n l 0) := Blk.newAt _ _ _ _ (by simp)
  have hb0 : Below w.heap.size w ((w.alloc (.cells #[.int .i64 0, .int .i64 0, .int .i64 0, .int .i64 0, .int .i64 0] 41)).alloc (.cells #[.int .i64 n, .int .i64 0, .int .i64 0, .int .i64 0, .int .i64 0] 41)) := bAlc (bAlc (Below.refl _ _) _) _
  go_loopg [4] n (fun gk s4 wr => ∃ i : Nat, s4 = .int .i64 i ∧ i + gk = n ∧ Blk wr (w.heap.size + 1) 41 (lkc n l i) ∧ Blk wr w.heap.size 41 #[.int .i64 0, .int .i64 0, .int .i64 0, .int .i64 0, .int .i64 0] ∧ Below w.heap.size w wr)
  case atStart => exact ⟨0, rfl, by omega, qb, qa, hb0⟩
  case round =>
    clear qa qb hb0
    obtain ⟨i, rfl, hi, qb, qa, hb⟩ := hrel
    replace hi := Lib.hid hi
    by_cases hin : i < n
    · have hil : i < l.length := by have := hln.out; omega
      have hsi : (ints l)[i]? = some (.int .i64 (l.getD i 0)) := by simp [ints, hil]
      obtain ⟨b, off, rfl, hbt, x0⟩ := (h'.out.below hb).get hsi
      replace hsi := Lib.hid hsi
      obtain ⟨xv, hxv⟩ : ∃ xv, xv = l.getD i 0 := ⟨_, rfl⟩
      rw [← hxv] at x0
      replace hxv := Lib.hid hxv
      have hz1 : (0 : Int) ≤ i := by omega
      have hz2 : (i : Int) < n := by omega
      rcases (by omega : i = 0 ∨ i = 1) with rfl | rfl
      · rw [Nat.add_zero] at x0
        have r1 := qb.cell 1
        have f1 := qb.frozen 1
        simp only [lkc, List.getElem?_toArray, List.getElem?_cons_zero, List.getElem?_cons_succ] at r1
        go_wp2_with fail
        go_roundg (n - (0 + 1))
        case measure => have := hi.out; omega
        case rel => exact ⟨1, by go_num, by have := hi.out; omega, by have h1 := qb.put 1 (.int .i64 xv); rw [hxv.out] at h1 ⊢; exact h1, qa.far (by simp) _, bSet hb _ _ (by simp)⟩
      · have r1 := qb.cell 2
        have f1 := qb.frozen 2
        simp only [lkc, List.getElem?_toArray, List.getElem?_cons_zero, List.getElem?_cons_succ] at r1
        go_wp2_with fail
        go_roundg (n - (1 + 1))
        case measure => have := hi.out; omega
        case rel => exact ⟨2, by go_num, by have := hi.out; omega, by have h1 := qb.put 2 (.int .i64 xv); rw [hxv.out] at h1 ⊢; exact h1, qa.far (by simp) _, bSet hb _ _ (by simp)⟩
    · have hie : i = n := by have := hi.out; omega
      subst hie
      have he := lkc_end l (by have := hln.out; omega)
      rw [hln.out] at he
      rw [he] at qb
      replace he := Lib.hid he
      have b0 := qb.cell 0
      have b1 := qb.cell 1
      have b2 := qb.cell 2
      have b3 := qb.cell 3
      have b4 := qb.cell 4
      have a0 := qa.cell 0
      have a1 := qa.cell 1
      have a2 := qa.cell 2
      have a3 := qa.cell 3
      have a4 := qa.cell 4
      have f0 := qa.frozen 0
      have f1 := qa.frozen 1
      have f2 := qa.frozen 2
      have f3 := qa.frozen 3
      have f4 := qa.frozen 4
      simp only [Lk.cells, List.getElem?_toArray, List.getElem?_cons_zero, List.getElem?_cons_succ] at b0 b1 b2 b3 b4 a0 a1 a2 a3 a4
      go_wp2_with fail
      have hq := put5 (y := Lk.of []) qa (Lk.of l)
      exact bodyPost_ret (results_look rfl _ _ _ (Lk.of l) rfl hq) rfl ⟨rfl, bSet5 hb (Nat.le_refl _) _ _ _ _ _⟩

theorem rd_row {w : World} {g : Nat} {e : TypeId} {cs : Array Value} (hb : Blk w g e cs) : Rd1 w w.heap.size (some ⟨g, 0, none⟩) cs.size cs.toList :=
  ⟨by simp, .inr ⟨g, 0, rfl, hb.lt, fun i v hv => by rw [hb.cell]; simpa using hv⟩⟩
theorem under26 : Tryz.prog.underlying 25 = some (.struct (Tryz.prog.fieldsOf 25)) := by kernel_rfl
theorem size26 : (Tryz.prog.info? 25).map (·.size) = some 6 := by kernel_rfl
def RetE (w : World) (e : Ending) (w' : World) : Prop := ∃ a, e = .returned (gval exG a) ∧ GrAt w' w'.heap.size exG a ∧ Below w.heap.size w w'
set_option maxHeartbeats 2000000 in
theorem example_any (w : World) : Calls Tryz.prog 31 #[] w (RetE w) := by
  have hP := Lib.hid (fun (a : GA) (w' : World) (h1 : GrAt w' w'.heap.size exG a) (h2 : Below w.heap.size w w') => (show RetE w (.returned (gval exG a)) w' from ⟨a, rfl, h1, h2⟩))
  go_enter Tryz.func31, Tryz.ntmps31
  go_wp2_with fail
  generalize hW0 : w.alloc (.cells #[.int .i64 2, .slice (some ⟨w.heap.size + 1, 0, none⟩) 3 3, .string { data := #[99] }, .slice (some ⟨w.heap.size + 1 + 1, 0, none⟩) 2 2, .int .i64 16, .slice (some ⟨w.heap.size + 1 + 1 + 1 + 1 + 1 + 1, 0, none⟩) 4 4] 25) = W0
  obtain ⟨W1, hW1⟩ : ∃ W1, W1 = W0.alloc (.cells #[.string { data := #[97] }, .string { data := #[98] }, .string { data := #[100] }] 9) := ⟨_, rfl⟩
  have z0 : W0.heap.size = w.heap.size + 1 := by rw [← hW0]; simp
  have q0 : Blk W0 w.heap.size 25 #[.int .i64 2, .slice (some ⟨w.heap.size + 1, 0, none⟩) 3 3, .string { data := #[99] }, .slice (some ⟨w.heap.size + 1 + 1, 0, none⟩) 2 2, .int .i64 16, .slice (some ⟨w.heap.size + 1 + 1 + 1 + 1 + 1 + 1, 0, none⟩) 4 4] := by rw [← hW0]; exact Blk.new w 25 _
  have b0 : Below w.heap.size w W0 := by rw [← hW0]; exact bAlc (Below.refl _ _) _
  rw [← hW1]
  have z1 : W1.heap.size = w.heap.size + 2 := by rw [hW1]; simp [z0]
  have q1 : Blk W1 (w.heap.size + 1) 9 #[.string { data := #[97] }, .string { data := #[98] }, .string { data := #[100] }] := by rw [hW1]; exact Blk.newAt _ _ _ _ z0.symm
  have b1 : Below W0.heap.size W0 W1 := by rw [hW1]; exact bAlc (Below.refl _ _) _
  obtain ⟨W2, hW2⟩ : ∃ W2, W2 = W1.alloc (.cells #[.string { data := #[83] }, .string { data := #[66] }] 9) := ⟨_, rfl⟩
  rw [← hW2]
  have z2 : W2.heap.size = w.heap.size + 3 := by rw [hW2]; simp [z1]
  have q2 : Blk W2 (w.heap.size + 2) 9 #[.string { data := #[83] }, .string { data := #[66] }] := by rw [hW2]; exact Blk.newAt _ _ _ _ z1.symm
  have b2 : Below W1.heap.size W1 W2 := by rw [hW2]; exact bAlc (Below.refl _ _) _
  obtain ⟨W3, hW3⟩ : ∃ W3, W3 = W2.alloc (.cells #[.int .i64 0, .int .i64 16, .int .i64 1] 3) := ⟨_, rfl⟩
  rw [← hW3]
  have z3 : W3.heap.size = w.heap.size + 4 := by rw [hW3]; simp [z2]
  have q3 : Blk W3 (w.heap.size + 3) 3 #[.int .i64 0, .int .i64 16, .int .i64 1] := by rw [hW3]; exact Blk.newAt _ _ _ _ z2.symm
  have b3 : Below W2.heap.size W2 W3 := by rw [hW3]; exact bAlc (Below.refl _ _) _
  obtain ⟨W4, hW4⟩ : ∃ W4, W4 = W3.alloc (.cells #[.int .i64 17] 3) := ⟨_, rfl⟩
  rw [← hW4]
  have z4 : W4.heap.size = w.heap.size + 5 := by rw [hW4]; simp [z3]
  have q4 : Blk W4 (w.heap.size + 4) 3 #[.int .i64 17] := by rw [hW4]; exact Blk.newAt _ _ _ _ z3.symm
  have b4 : Below W3.heap.size W3 W4 := by rw [hW4]; exact bAlc (Below.refl _ _) _
  obtain ⟨W5, hW5⟩ : ∃ W5, W5 = W4.alloc (.cells #[.int .i64 2] 3) := ⟨_, rfl⟩
  rw [← hW5]
  have z5 : W5.heap.size = w.heap.size + 6 := by rw [hW5]; simp [z4]
  have q5 : Blk W5 (w.heap.size + 5) 3 #[.int .i64 2] := by rw [hW5]; exact Blk.newAt _ _ _ _ z4.symm
  have b5 : Below W4.heap.size W4 W5 := by rw [hW5]; exact bAlc (Below.refl _ _) _
  generalize hW6 : W5.alloc (.cells #[.int .i64 16, .slice (some ⟨w.heap.size + 1 + 1 + 1, 0, none⟩) 3 3, .int .i64 16, .slice (some ⟨w.heap.size + 1 + 1 + 1 + 1, 0, none⟩) 1 1, .int .i64 17, .slice (some ⟨w.heap.size + 1 + 1 + 1 + 1 + 1, 0, none⟩) 1 1, .int .i64 17, .slice none 0 0] 47) = W6
  have z6 : W6.heap.size = w.heap.size + 7 := by rw [← hW6]; simp [z5]
  have q6 : Blk W6 (w.heap.size + 6) 47 #[.int .i64 16, .slice (some ⟨w.heap.size + 1 + 1 + 1, 0, none⟩) 3 3, .int .i64 16, .slice (some ⟨w.heap.size + 1 + 1 + 1 + 1, 0, none⟩) 1 1, .int .i64 17, .slice (some ⟨w.heap.size + 1 + 1 + 1 + 1 + 1, 0, none⟩) 1 1, .int .i64 17, .slice none 0 0] := by rw [← hW6]; exact Blk.newAt _ _ _ _ z5.symm
  have b6 : Below W5.heap.size W5 W6 := by rw [← hW6]; exact bAlc (Below.refl _ _) _
  have p5 := q5.step b6
  have p4 := (q4.step b5).step b6
  have p3 := ((q3.step b4).step b5).step b6
  have p2 := (((q2.step b3).step b4).step b5).step b6
  have p1 := ((((q1.step b2).step b3).step b4).step b5).step b6
  have p0 := (((((q0.step b1).step b2).step b3).step b4).step b5).step b6
  have hb : Below w.heap.size w W6 := bStep (bStep (bStep (bStep (bStep (bStep b0 b1) b2) b3) b4) b5) b6
  have hg : GrAt W6 W6.heap.size exG ⟨some ⟨w.heap.size + 1, 0, none⟩, 3, some ⟨w.heap.size + 2, 0, none⟩, 2, some ⟨w.heap.size + 6, 0, none⟩, 4⟩ := by
    refine ⟨rd_row p1, Nat.le_refl _, by simp [maxLen], rd_row p2, Nat.le_refl _, by simp [maxLen], ⟨rfl, .inr ⟨w.heap.size + 6, 0, rfl, by omega, ?_⟩⟩, Nat.le_refl _, by simp [maxLen], by decide, by decide, by decide⟩
    intro i p hp
    have hlt := (List.getElem?_eq_some_iff.1 hp).1
    have hl4 : exG.prods.length = 4 := rfl
    rcases (by omega : i = 0 ∨ i = 1 ∨ i = 2 ∨ i = 3) with rfl | rfl | rfl | rfl
    · cases hp; exact ⟨q6.cell 0, _, _, q6.cell 1, rd_row p3, Nat.le_refl _, by simp [maxLen]⟩
    · cases hp; exact ⟨q6.cell 2, _, _, q6.cell 3, rd_row p4, Nat.le_refl _, by simp [maxLen]⟩
    · cases hp; exact ⟨q6.cell 4, _, _, q6.cell 5, rd_row p5, Nat.le_refl _, by simp [maxLen]⟩
    · cases hp; exact ⟨q6.cell 6, _, _, q6.cell 7, Rd1.nil _ _ _, Nat.le_refl _, by simp [maxLen]⟩
  exact bodyPost_ret (results_cell_row rfl _ _ _ 25 _ (0, 0) _ rfl p0 under26 rfl size26) rfl (hP.out _ _ hg hb)
end Go.Proofs.YtnnkfgekiaaehaaGreat

/- The statements' own helper awake: the chapter's example holds. -/
namespace Go.Proofs.YtnnkfgekiaaehaaGreat
open Go.ChangeShapes Go.WideShapes Go.ChangeAt Go.RowKit
set_option linter.unusedVariables false

theorem rdL_row {W : World} {g : Nat} {l : List Lk} (h : Blk W g 41 (cellsL l).toArray) : RdL W W.heap.size (some ⟨g, 0, none⟩) l.length l :=
  ⟨rfl, .inr ⟨g, 0, rfl, h.lt, fun i x hx j hj => by rw [Nat.zero_add, h.cell, ← cellsL_get l i x hx j hj]; simp⟩⟩
theorem look_row (W : World) (g : Nat) (l : List Int) (h : Blk W g 3 (ints l).toArray) (hl : l.length ≤ 2) : Calls Tryz.prog 32 #[.slice (some ⟨g, 0, none⟩) l.length l.length] W fun e w' => e = .returned (Lk.of l).v ∧ Below W.heap.size W w' := by
  have hr := rd_row h
  have e : (ints l).toArray.size = l.length := by simp [ints]
  rw [e] at hr
  exact look_any _ _ _ l W hr hl

set_option maxHeartbeats 4000000 in
theorem awake_any (w : World) : Calls Tryz.prog 7 #[] w fun e w' => e = .returned (.bool true) ∧ Below w.heap.size w w' := by
  have hE := Lib.hid (fun W => example_any W)
  have hO := Lib.hid (fun (a : GA) (W : World) (h : GrAt W W.heap.size exG a) => of_any exG a 16 W h exG_ok (by decide +kernel) (exG_16.few (by simp)))
  have hL1 := Lib.hid (fun (W : World) (g : Nat) (h : Blk W g 3 #[.int .i64 1]) => (look_row W g [1] h (by simp) : Calls Tryz.prog 32 #[.slice (some ⟨g, 0, none⟩) 1 1] W fun e w' => e = .returned (.agg #[.int .i64 1, .int .i64 1, .int .i64 0, .int .i64 0, .int .i64 0]) ∧ Below W.heap.size W w'))
  have hL2 := Lib.hid (fun (W : World) (g : Nat) (h : Blk W g 3 #[.int .i64 1, .int .i64 1]) => (look_row W g [1, 1] h (by simp) : Calls Tryz.prog 32 #[.slice (some ⟨g, 0, none⟩) 2 2] W fun e w' => e = .returned (.agg #[.int .i64 2, .int .i64 1, .int .i64 1, .int .i64 0, .int .i64 0]) ∧ Below W.heap.size W w'))
  have hS := Lib.hid (fun (A : Option Addr) (c g : Nat) (W : World) (h1 : RdL W W.heap.size A 3 [Lk.of [], Lk.of [1], Lk.of [1, 1]]) (h2 : Blk W g 41 (cellsL [Lk.of [], Lk.of [1], Lk.of [1, 1]]).toArray) =>
    samelooks_any A (some ⟨g, 0, none⟩) 3 3 c 3 [Lk.of [], Lk.of [1], Lk.of [1, 1]] [Lk.of [], Lk.of [1], Lk.of [1, 1]] W h1 (rdL_row h2) (by intro y hy; simp at hy; rcases hy with rfl | rfl | rfl <;> exact right_wf (m := 8) (of_right (by omega) (by simp) (by simp))) (by intro y hy; simp at hy; rcases hy with rfl | rfl | rfl <;> exact right_wf (m := 8) (of_right (by omega) (by simp) (by simp))) (by simp [maxLen]) (by simp [maxLen]))
  rw [show decide ([Lk.of [], Lk.of [1], Lk.of [1, 1]] = [Lk.of [], Lk.of [1], Lk.of [1, 1]]) = true from by decide] at hS
  go_enter Tryz.func7, Tryz.ntmps7
  go_upto_region 2 with (first
    | (go_at_call 31; refine (hE.out _).mono ?_; rintro e w1 ⟨a, rfl, hg1, hb1⟩)
    | (go_at_call 21; refine (hO.out a _ hg1).mono ?_; rintro e w2 ⟨L, v, rfl, hL, ho, hb2⟩))
  have hLe := hL.uniq exG_16
  subst hLe
  obtain ⟨A, c, rfl, hrd, _, _, _⟩ := ho.reads
  have hb12 := hb1.trans (hb2.mono hb1.size)
  have hrd' := Lib.hid hrd
  clear hrd ho hg1 hL
  go_wp2_with (first
    | (go_at_call 32; refine (hL1.out _ _ (Blk.new _ _ _)).mono ?_; clear hL1; rintro e w3 ⟨rfl, hb3⟩)
    | (go_at_call 32; refine (hL2.out _ _ (Blk.new _ _ _)).mono ?_; clear hL2; rintro e w4 ⟨rfl, hb4⟩)
    | (go_at_call 10; refine (hS.out A c _ _ ((hrd'.out.below (by repeat (first | assumption | exact Below.refl _ _ | (refine bStep ?_ (by assumption)) | (with_reducible refine bAlc ?_ _)))).mono (Below.size (w := w2) (B := w2.heap.size) (by repeat (first | assumption | exact Below.refl _ _ | (refine bStep ?_ (by assumption)) | (with_reducible refine bAlc ?_ _))))) (Blk.new _ _ _)).mono ?_; rintro e w5 ⟨rfl, hb5⟩))
  go_ret
  refine ⟨rfl, hb12.trans (Below.mono (B := w2.heap.size) ?_ hb12.size)⟩
  repeat (first | assumption | exact Below.refl _ _ | (refine bStep ?_ (by assumption)) | (with_reducible refine bAlc ?_ _))
end Go.Proofs.YtnnkfgekiaaehaaGreat

/- Productions of the call's own. -/
namespace Go.Proofs.YtnnkfgekiaaehaaGreat
open Go.ChangeShapes Go.WideShapes Go.ChangeAt Go.RowKit
set_option linter.unusedVariables false

/-- the slice at RA, with the capacity c, reads as l, in a block of numbers not below base -/
def RtAt (W : World) (base : Nat) (RA : Option Addr) (c : Nat) (l : List Int) : Prop :=
  l.length ≤ c ∧ c ≤ maxLen ∧ (l = [] ∨ ∃ b off cs, RA = some ⟨b, off, none⟩ ∧ base ≤ b ∧ Blk W b 3 cs ∧ ∀ (i : Nat) (v : Value), (ints l)[i]? = some v → cs[off + i]? = some v)
theorem RtAt.of {W : World} {base : Nat} {v : Value} {l : List Int} (h : Own1 W base 3 v (ints l)) : ∃ RA c, v = .slice RA l.length c ∧ RtAt W base RA c l := by
  have hl : (ints l).length = l.length := by simp [ints]
  rcases h.2 with ⟨rfl, h0⟩ | ⟨g, cap, cur, rfl, hb, hg, hnc, hcm, hcs, ht⟩
  · have : l = [] := List.eq_nil_of_length_eq_zero (by omega)
    subst this
    exact ⟨none, 0, rfl, Nat.le_refl _, by simp [maxLen], .inl rfl⟩
  · rw [hl] at hnc ⊢
    refine ⟨some ⟨g, 0, none⟩, cap, rfl, hnc, hcm, .inr ⟨g, 0, cur, rfl, hb, hg, fun i x hx => ?_⟩⟩
    have hlt := (List.getElem?_eq_some_iff.1 hx).1
    rw [← ht, List.getElem?_take, if_pos (by omega)] at hx
    rw [Nat.zero_add]
    simpa using hx
theorem RtAt.step {W W' : World} {base : Nat} {RA : Option Addr} {c : Nat} {l : List Int} (h : RtAt W base RA c l) (hb : Below W.heap.size W W') : RtAt W' base RA c l := by
  obtain ⟨h1, h2, h3⟩ := h
  refine ⟨h1, h2, h3.imp id ?_⟩
  rintro ⟨b, off, cs, e, e1, e2, e3⟩
  exact ⟨b, off, cs, e, e1, e2.step hb, e3⟩
theorem RtAt.grown {W W' : World} {base : Nat} {RA : Option Addr} {c : Nat} {l : List Int} {row : Option Nat} (h : RtAt W base RA c l) (hg : W.grownBy W' row) (hne : ∀ g cs, row = some g → ¬ Blk W g 3 cs) : RtAt W' base RA c l := by
  obtain ⟨h1, h2, h3⟩ := h
  refine ⟨h1, h2, h3.imp id ?_⟩
  rintro ⟨b, off, cs, e, e1, e2, e3⟩
  exact ⟨b, off, cs, e, e1, e2.grown hg (fun e' => hne b cs e'.symm e2), e3⟩
theorem RtAt.reads {W : World} {base : Nat} {RA : Option Addr} {c : Nat} {l : List Int} (h : RtAt W base RA c l) : Rd1 W W.heap.size RA l.length (ints l) := by
  refine ⟨by simp [ints], ?_⟩
  rcases h.2.2 with rfl | ⟨b, off, cs, rfl, e1, e2, e3⟩
  · exact .inl rfl
  · exact .inr ⟨b, off, rfl, e2.lt, fun i v hv => by rw [e2.cell]; exact e3 i v hv⟩

/-- the cells of productions -/
def cellsP : List Pr → List (Option Addr × Nat) → List Value
  | p :: ps, r :: rs => .int .i64 p.left :: .slice r.1 p.right.length r.2 :: cellsP ps rs
  | _, _ => []
theorem cellsP_len : ∀ (ps : List Pr) (rs : List (Option Addr × Nat)), ps.length = rs.length → (cellsP ps rs).length = ps.length * 2
  | [], [], _ => rfl
  | [], _ :: _, h => by simp at h
  | _ :: _, [], h => by simp at h
  | p :: ps, r :: rs, h => by
    have := cellsP_len ps rs (by simpa using h)
    simp only [cellsP, List.length_cons, this]; omega
theorem cellsP_get : ∀ (ps : List Pr) (rs : List (Option Addr × Nat)) (i : Nat) (p : Pr) (r : Option Addr × Nat), ps[i]? = some p → rs[i]? = some r → (cellsP ps rs)[i * 2]? = some (.int .i64 p.left) ∧ (cellsP ps rs)[i * 2 + 1]? = some (.slice r.1 p.right.length r.2)
  | [], _, i, p, r, h, _ => by simp at h
  | _ :: _, [], i, p, r, _, h => by simp at h
  | p0 :: ps, r0 :: rs, 0, p, r, h, h' => by simp at h h'; subst h; subst h'; exact ⟨rfl, rfl⟩
  | p0 :: ps, r0 :: rs, i + 1, p, r, h, h' => by
    have := cellsP_get ps rs i p r (by simpa using h) (by simpa using h')
    rw [show (i + 1) * 2 = i * 2 + 1 + 1 by omega]
    exact this
theorem cellsP_app : ∀ (ps : List Pr) (rs : List (Option Addr × Nat)) (p : Pr) (r : Option Addr × Nat), ps.length = rs.length → cellsP (ps ++ [p]) (rs ++ [r]) = cellsP ps rs ++ [.int .i64 p.left, .slice r.1 p.right.length r.2]
  | [], [], p, r, _ => rfl
  | [], _ :: _, _, _, h => by simp at h
  | _ :: _, [], _, _, h => by simp at h
  | p0 :: ps, r0 :: rs, p, r, h => by
    have := cellsP_app ps rs p r (by simpa using h)
    simp only [List.cons_append, cellsP, this]
/-- v is a slice of the call's own of the productions ps, with right sides of its own -/
def PsR (W : World) (base : Nat) (v : Value) (ps : List Pr) (rs : List (Option Addr × Nat)) : Prop :=
  ps.length = rs.length ∧ W.ownsRow base 47 2 v ps.length (cellsP ps rs) ∧ ∀ (i : Nat) (p : Pr) (r : Option Addr × Nat), ps[i]? = some p → rs[i]? = some r → RtAt W base r.1 r.2 p.right
def PsO (W : World) (base : Nat) (v : Value) (ps : List Pr) : Prop := ∃ rs, PsR W base v ps rs
theorem PsO.nil (W : World) (base : Nat) : PsO W base (.slice none 0 0) [] := ⟨[], rfl, World.ownsRow_nil W base 47 2, by simp⟩
theorem row_step {W W' : World} {base : Nat} {e : TypeId} {size : Nat} {v : Value} {n : Nat} {xs : List Value} (h : W.ownsRow base e size v n xs) (hb : Below W.heap.size W W') : W'.ownsRow base e size v n xs := by
  refine ⟨h.1, ?_⟩
  rcases h.2 with hn | ⟨g, cap, cur, rfl, hg0, hg, rest⟩
  · exact .inl hn
  · exact .inr ⟨g, cap, cur, rfl, hg0, (hb.block g (Array.getElem?_eq_some_iff.1 hg).1).trans hg, rest⟩
theorem row_grown {W W' : World} {base : Nat} {e : TypeId} {size : Nat} {v : Value} {n : Nat} {xs : List Value} {row : Option Nat} (h : W.ownsRow base e size v n xs) (hg : W.grownBy W' row) (hne : ∀ g cs, row = some g → ¬ Blk W g e cs) : W'.ownsRow base e size v n xs := by
  refine ⟨h.1, ?_⟩
  rcases h.2 with hn | ⟨g, cap, cur, rfl, hg0, hg', rest⟩
  · exact .inl hn
  · exact .inr ⟨g, cap, cur, rfl, hg0, (hg.block g (Array.getElem?_eq_some_iff.1 hg').1 (fun e' => hne g cur e'.symm hg')).trans hg', rest⟩
theorem PsO.step {W W' : World} {base : Nat} {v : Value} {ps : List Pr} (h : PsO W base v ps) (hb : Below W.heap.size W W') : PsO W' base v ps := by
  obtain ⟨rs, h1, h2, h3⟩ := h
  exact ⟨rs, h1, row_step h2 hb, fun i p r a b => (h3 i p r a b).step hb⟩
theorem PsO.grown {W W' : World} {base : Nat} {v : Value} {ps : List Pr} {row : Option Nat} (h : PsO W base v ps) (hg : W.grownBy W' row) (h3' : ∀ g cs, row = some g → ¬ Blk W g 3 cs) (h59 : ∀ g cs, row = some g → ¬ Blk W g 47 cs) : PsO W' base v ps := by
  obtain ⟨rs, h1, h2, h3⟩ := h
  exact ⟨rs, h1, row_grown h2 hg h59, fun i p r a b => (h3 i p r a b).grown hg h3'⟩
theorem PsO.mono {W : World} {base b' : Nat} {v : Value} {ps : List Pr} (h : PsO W base v ps) (hb : b' ≤ base) : PsO W b' v ps := by
  obtain ⟨rs, h1, h2, h3⟩ := h
  refine ⟨rs, h1, ⟨h2.1, ?_⟩, fun i p r a b => ?_⟩
  · rcases h2.2 with hn | ⟨g, cap, cur, rfl, hg0, rest⟩
    · exact .inl hn
    · exact .inr ⟨g, cap, cur, rfl, by omega, rest⟩
  · obtain ⟨c1, c2, c3⟩ := h3 i p r a b
    refine ⟨c1, c2, c3.imp id ?_⟩
    rintro ⟨b, off, cs, e, e1, e2, e3⟩
    exact ⟨b, off, cs, e, by omega, e2, e3⟩
theorem own_blk {W : World} {base : Nat} {e : TypeId} {size : Nat} {v : Value} {n : Nat} {xs : List Value} (h : W.ownsRow base e size v n xs) {g : Nat} (hg : v.ownBlock = some g) : ∃ cs, Blk W g e cs := by
  rcases h.2 with ⟨rfl, _⟩ | ⟨g', cap, cur, rfl, _, hb, _⟩
  · simp [Value.ownBlock] at hg
  · simp [Value.ownBlock] at hg; subst hg; exact ⟨cur, hb⟩
theorem blk_type {W : World} {g : Nat} {t t' : TypeId} {cs cs' : Array Value} (h : Blk W g t cs) (h' : Blk W g t' cs') : t = t' := by
  unfold Blk at h h'; rw [h] at h'; injection h' with h'; injection h'
theorem PsO.pushed {W W' : World} {base : Nat} {v v' : Value} {ps : List Pr} {rs : List (Option Addr × Nat)} {p : Pr} {RA : Option Addr} {c : Nat} (h : PsR W base v ps rs) (hr : RtAt W base RA c p.right)
    (h1 : W'.ownsRow base 47 2 v' (ps.length + 1) (cellsP ps rs ++ [.int .i64 p.left, .slice RA p.right.length c])) (h2 : W.grownBy W' v.ownBlock) : PsO W' base v' (ps ++ [p]) := by
  obtain ⟨g1, g2, g3⟩ := h
  have hne : ∀ g cs, v.ownBlock = some g → ¬ Blk W g 3 cs := fun g cs e hb => by
    obtain ⟨cs', hb'⟩ := own_blk g2 e
    have := blk_type hb hb'
    cases this
  refine ⟨rs ++ [(RA, c)], by simp [g1], ?_, ?_⟩
  · rw [cellsP_app ps rs p (RA, c) g1, List.length_append]; exact h1
  · intro i q r hq hr'
    by_cases hi : i < ps.length
    · rw [List.getElem?_append_left hi] at hq
      rw [List.getElem?_append_left (by omega)] at hr'
      exact (g3 i q r hq hr').grown h2 hne
    · have hie : i = ps.length := by have := (List.getElem?_eq_some_iff.1 hq).1; simp at this; omega
      subst hie
      simp at hq
      rw [g1] at hr'
      simp at hr'
      subst hq; subst hr'
      exact hr.grown h2 hne
theorem PsO.reads {W : World} {base : Nat} {v : Value} {ps : List Pr} (h : PsO W base v ps) : ∃ A c, v = .slice A ps.length c ∧ RdP W W.heap.size A ps.length ps ∧ ps.length ≤ c ∧ c ≤ maxLen := by
  obtain ⟨rs, h1, h2, h3⟩ := h
  rcases h2.2 with ⟨rfl, h0⟩ | ⟨g, cap, cur, rfl, hb, hg, hnc, hcm, hcs, ht⟩
  · exact ⟨none, 0, by rw [h0], ⟨rfl, .inl h0⟩, by omega, by simp [maxLen]⟩
  · refine ⟨some ⟨g, 0, none⟩, cap, rfl, ⟨rfl, .inr ⟨g, 0, rfl, (Array.getElem?_eq_some_iff.1 hg).1, fun i p hp => ?_⟩⟩, hnc, hcm⟩
    have hi := (List.getElem?_eq_some_iff.1 hp).1
    have hri : rs[i]? = some rs[i] := List.getElem?_eq_getElem (by omega)
    obtain ⟨d1, d2⟩ := cellsP_get ps rs i p _ hp hri
    rw [← ht, List.getElem?_take, if_pos (by omega)] at d1 d2
    have hr := h3 i p _ hp hri
    refine ⟨?_, _, _, ?_, hr.reads, hr.1, hr.2.1⟩
    · rw [cell_of_row W g _ cur 47 (0, 0) hg, Nat.zero_add]; simpa using d1
    · rw [cell_of_row W g _ cur 47 (0, 0) hg, Nat.zero_add]; simpa using d2
theorem info59 : (Tryz.prog.info? 47).map (fun i => (i.zero, i.size, i.bytes)) = some (some (.agg #[.int .i64 0, .slice none 0 0]), 2, 32) := by kernel_rfl
theorem under24 : Tryz.prog.underlying 23 = some (.slice 47) := by kernel_rfl
end Go.Proofs.YtnnkfgekiaaehaaGreat

/- The kit's OwnGrammar. -/
namespace Go.Proofs.YtnnkfgekiaaehaaGreat
open Go.ChangeShapes Go.WideShapes Go.ChangeAt Go.RowKit
set_option linter.unusedVariables false

section
variable (w : World) {ops : Array Oper} {rest : List Oper} {o : Oper} {a : Act} {K : Act → World → Prop} {Q : Exit → Act → World → Prop}
/-- 'append(s, p)', one production, in a block known whole -/
theorem wp_pushP (s x : Operand) (ho : o.op = .call { callee := .builtin .append, args := #[s, x], argTypes := #[23, 23] })
    (base : Nat) (v : Value) (ps : List Pr) (rs : List (Option Addr × Nat)) (hs : a.eval s = v) (hown : PsR w base v ps rs) (g : Nat) (p : Pr) (RA : Option Addr) (c : Nat) (hx : a.eval x = .slice (some ⟨g, 0, none⟩) 1 1) (hb : Blk w g 47 #[.int .i64 p.left, .slice RA p.right.length c])
    (hr : RtAt w base RA c p.right) (hn : ps.length < 1000000) (hbase : base ≤ w.heap.size)
    (h : ∀ v' w', PsO w' base v' (ps ++ [p]) → w.grownBy w' v.ownBlock → K (a.put o.dst v') w') : Oper.wp Tryz.prog o a w K Q := by
  obtain ⟨i0, hi0, hz0, hz1, hz2⟩ := info_parts info59
  have hnews : ∀ j u, [Value.int .i64 p.left, .slice RA p.right.length c][j]? = some u → w.cell? ((⟨g, 0, none⟩ : Addr).add j) = some u := by
    intro j u hu
    have : (⟨g, 0, none⟩ : Addr).add j = ⟨g, j, none⟩ := by unfold Addr.add; split <;> simp_all
    rw [this, hb.cell]
    simpa using hu
  obtain ⟨v', w', hrun, h2, h3, h4, h5⟩ := run_append_own_at (P := Tryz.prog) w base 23 o.type 47 i0 _ 2 32 under24 hi0 hz0 hz1 hz2 rfl (by omega) v ps.length _ hown.2.1 ⟨g, 0, none⟩ 1 1 [.int .i64 p.left, .slice RA p.right.length c] rfl hnews (by simp [Value.oneCell']) (by unfold maxLen; omega) (by omega) hbase
  unfold Oper.wp execOp
  simp only [ho, resolve, invoke, builtin, Sem.run_bind, Sem.run_pure, Result.andThen_ok, List.map_toArray, List.map_cons, List.map_nil, hs, hx, hrun]
  exact h v' w' (PsO.pushed hown hr h2 h3) h3
end
theorem own_strs {w : World} {base : Nat} {v : Value} {l : List ByteArray} (h : Own1 w base 9 v (strs l)) : ∃ A c, v = .slice A l.length c ∧ Rd1 w w.heap.size A l.length (strs l) ∧ l.length ≤ c ∧ c ≤ maxLen := by
  obtain ⟨A, c, e, h1, h2, h3, _⟩ := h.reads
  have hl : (strs l).length = l.length := by simp [strs]
  rw [hl] at e h1 h2
  exact ⟨A, c, e, h1, h2, h3⟩
theorem grownBy_setC' (w : World) (b i : Nat) (v : Value) : w.grownBy (w.setCell ⟨b, i, none⟩ v) (some b) :=
  ⟨rfl, rfl, rfl, by simp, fun k hk hne => Below.heap_setCell w ⟨b, i, none⟩ v k (fun e => hne (by rw [e]))⟩
/-- the grammar's box under way -/
def ogc (g : Gr) (tv nv pv : Value) : Array Value := #[.int .i64 g.k, tv, .string g.sep, nv, .int .i64 g.start, pv]
def OG (w : World) (g : Gr) (a : GA) (tv nv pv : Value) (W : World) : Prop :=
  GrAt W w.heap.size g a ∧ Blk W w.heap.size 25 (ogc g tv nv pv) ∧ Blk W (w.heap.size + 1) 25 #[.int .i64 0, .slice none 0 0, .string ByteArray.empty, .slice none 0 0, .int .i64 0, .slice none 0 0] ∧ Own1 W (w.heap.size + 2) 9 tv (strs g.toks) ∧ Own1 W (w.heap.size + 2) 9 nv (strs g.names) ∧ Below w.heap.size w W
theorem OG.step {w : World} {g : Gr} {a : GA} {tv nv pv : Value} {W W' : World} (h : OG w g a tv nv pv W) (hb : Below W.heap.size W W') : OG w g a tv nv pv W' := by
  obtain ⟨h1, h2, h3, h4, h5, h6⟩ := h
  exact ⟨h1.below (hb.mono h6.size), h2.step hb, h3.step hb, h4.step hb, h5.step hb, bStep h6 hb⟩
theorem OG.grown {w : World} {g : Gr} {a : GA} {tv nv pv : Value} {W W' : World} {row : Option Nat} (h : OG w g a tv nv pv W) (hg : W.grownBy W' row) (hr : ∀ r, row = some r → w.heap.size + 2 ≤ r ∧ ∃ cs, Blk W r 47 cs) : OG w g a tv nv pv W' := by
  obtain ⟨h1, h2, h3, h4, h5, h6⟩ := h
  have hb : Below w.heap.size W W' := ⟨hg.os, hg.tape, hg.output, hg.size, fun k hk => hg.block k (by have := h6.size; omega) (fun e => by have := (hr k e.symm).1; omega)⟩
  have h9 : ∀ b cs, row = some b → ¬ Blk W b 9 cs := fun b cs e hq => by obtain ⟨_, cs', hq'⟩ := hr b e; cases blk_type hq hq'
  exact ⟨h1.below hb, h2.grown hg (fun e => by have := (hr _ e.symm).1; omega), h3.grown hg (fun e => by have := (hr _ e.symm).1; omega), row_grown h4 hg h9, row_grown h5 hg h9, h6.trans hb⟩
theorem OG.own {w : World} {g : Gr} {a : GA} {tv nv pv : Value} {W W' : World} (h : OG w g a tv nv pv W) {v : Value} {n : Nat} {xs : List Value} (hr : W.ownsRow (w.heap.size + 2) 47 2 v n xs) (hg : W.grownBy W' v.ownBlock) : OG w g a tv nv pv W' :=
  h.grown hg fun r e => ⟨(own_in hr r e).1, own_blk hr e⟩

def KO (w : World) (g : Gr) (a : GA) (tv nv pv : Value) (wr W : World) : Prop := OG w g a tv nv pv W ∧ Below w.heap.size wr W
theorem RtAt.mono {W : World} {base b' : Nat} {RA : Option Addr} {c : Nat} {l : List Int} (h : RtAt W base RA c l) (hb : b' ≤ base) : RtAt W b' RA c l := by
  obtain ⟨c1, c2, c3⟩ := h
  refine ⟨c1, c2, c3.imp id ?_⟩
  rintro ⟨b, off, cs, e, e1, e2, e3⟩
  exact ⟨b, off, cs, e, by omega, e2, e3⟩
theorem put6 {w : World} {g : Nat} {x0 x1 x2 x3 x4 x5 : Value} (h : Blk w g 25 #[x0, x1, x2, x3, x4, x5]) (a b c d e f : Value) :
    Blk ((((((w.setCell ⟨g, 0, none⟩ a).setCell ⟨g, 1, none⟩ b).setCell ⟨g, 2, none⟩ c).setCell ⟨g, 3, none⟩ d).setCell ⟨g, 4, none⟩ e).setCell ⟨g, 5, none⟩ f) g 25 #[a, b, c, d, e, f] :=
  (((((h.put 0 a).put 1 b).put 2 c).put 3 d).put 4 e).put 5 f
theorem bSet6 {W0 W : World} {g : Nat} (h : Below W0.heap.size W0 W) (hg : W0.heap.size ≤ g) (a b c d e f : Value) :
    Below W0.heap.size W0 ((((((W.setCell ⟨g, 0, none⟩ a).setCell ⟨g, 1, none⟩ b).setCell ⟨g, 2, none⟩ c).setCell ⟨g, 3, none⟩ d).setCell ⟨g, 4, none⟩ e).setCell ⟨g, 5, none⟩ f) :=
  bSet (bSet (bSet (bSet (bSet (bSet h _ _ hg) _ _ hg) _ _ hg) _ _ hg) _ _ hg) _ _ hg
theorem far6 {w : World} {g : Nat} {x0 x1 x2 x3 x4 x5 : Value} (h : Blk w g 25 #[x0, x1, x2, x3, x4, x5]) (a b c d e f : Value) :
    w.grownBy ((((((w.setCell ⟨g, 0, none⟩ a).setCell ⟨g, 1, none⟩ b).setCell ⟨g, 2, none⟩ c).setCell ⟨g, 3, none⟩ d).setCell ⟨g, 4, none⟩ e).setCell ⟨g, 5, none⟩ f) (some g) := by
  have key : ∀ {X Y : World} (i : Nat) (v : Value), X.grownBy Y (some g) → X.grownBy (Y.setCell ⟨g, i, none⟩ v) (some g) := fun i v hg => World.grownBy.andThen hg (grownBy_setC' _ g i v) (fun j hj => .inr hj)
  exact key 5 f (key 4 e (key 3 d (key 2 c (key 1 b (grownBy_setC' w g 0 a)))))
theorem under26' : Tryz.prog.underlying 25 = some (.struct (Tryz.prog.fieldsOf 25)) := by kernel_rfl
theorem size26' : (Tryz.prog.info? 25).map (·.size) = some 6 := by kernel_rfl
/-- what OwnGrammar hands back -/
def RetGO (w : World) (g : Gr) (e : Ending) (w' : World) : Prop := ∃ a, e = .returned (gval g a) ∧ GrAt w' w'.heap.size g a ∧ PsO w' w.heap.size (.slice a.pa g.prods.length a.pc) g.prods ∧ (Own1 w' w.heap.size 9 (.slice a.ta g.toks.length a.tc) (strs g.toks) ∧ Own1 w' w.heap.size 9 (.slice a.na g.names.length a.nc) (strs g.names)) ∧ Below w.heap.size w w'

set_option maxRecDepth 100000 in
set_option maxHeartbeats 4000000 in
theorem own_any (g : Gr) (a : GA) (w : World) (hg : GrAt w w.heap.size g a) (ht : g.toks.length ≤ 1000000) (hn : g.names.length ≤ 1000000) (hp : g.prods.length ≤ 1000000) (hr : ∀ p ∈ g.prods, p.right.length ≤ 1000000) : Calls Tryz.prog 17 #[gval g a] w (RetGO w g) := by
  have hP := Lib.hid (fun (a' : GA) (w' : World) (h1 : GrAt w' w'.heap.size g a') (h2 : PsO w' w.heap.size (.slice a'.pa g.prods.length a'.pc) g.prods) (h4 : Own1 w' w.heap.size 9 (.slice a'.ta g.toks.length a'.tc) (strs g.toks) ∧ Own1 w' w.heap.size 9 (.slice a'.na g.names.length a'.nc) (strs g.names)) (h3 : Below w.heap.size w w') => (show RetGO w g (.returned (gval g a')) w' from ⟨a', rfl, h1, h2, h4, h3⟩))
  obtain ⟨ta, tc, na, nc, pa, pc⟩ := a
  have hr' := Lib.hid hr
  have hg' := Lib.hid hg
  clear hr hg
  unfold gval at *
  unfold gcells at *
  dsimp only at *
  go_enter Tryz.func17, Tryz.ntmps17
  go_upto_region 1 with (fail)
  have q1 : Blk ((w.alloc (.cells #[.int .i64 g.k, .slice ta g.toks.length tc, .string g.sep, .slice na g.names.length nc, .int .i64 g.start, .slice pa g.prods.length pc] 25)).alloc (.cells #[.int .i64 0, .slice none 0 0, .string ByteArray.empty, .slice none 0 0, .int .i64 0, .slice none 0 0] 25)) w.heap.size 25 #[.int .i64 g.k, .slice ta g.toks.length tc, .string g.sep, .slice na g.names.length nc, .int .i64 g.start, .slice pa g.prods.length pc] := (Blk.new _ _ _).alloc _
  have q2 : Blk ((w.alloc (.cells #[.int .i64 g.k, .slice ta g.toks.length tc, .string g.sep, .slice na g.names.length nc, .int .i64 g.start, .slice pa g.prods.length pc] 25)).alloc (.cells #[.int .i64 0, .slice none 0 0, .string ByteArray.empty, .slice none 0 0, .int .i64 0, .slice none 0 0] 25)) (w.heap.size + 1) 25 #[.int .i64 0, .slice none 0 0, .string ByteArray.empty, .slice none 0 0, .int .i64 0, .slice none 0 0] := Blk.newAt _ _ _ _ (by simp)
  have hb0 : Below w.heap.size w ((w.alloc (.cells #[.int .i64 g.k, .slice ta g.toks.length tc, .string g.sep, .slice na g.names.length nc, .int .i64 g.start, .slice pa g.prods.length pc] 25)).alloc (.cells #[.int .i64 0, .slice none 0 0, .string ByteArray.empty, .slice none 0 0, .int .i64 0, .slice none 0 0] 25)) := bAlc (bAlc (Below.refl _ _) _) _
  have hsz : ((w.alloc (.cells #[.int .i64 g.k, .slice ta g.toks.length tc, .string g.sep, .slice na g.names.length nc, .int .i64 g.start, .slice pa g.prods.length pc] 25)).alloc (.cells #[.int .i64 0, .slice none 0 0, .string ByteArray.empty, .slice none 0 0, .int .i64 0, .slice none 0 0] 25)).heap.size = w.heap.size + 2 := by simp
  change Code.wp Tryz.prog _ _ _ ((w.alloc (.cells #[.int .i64 g.k, .slice ta g.toks.length tc, .string g.sep, .slice na g.names.length nc, .int .i64 g.start, .slice pa g.prods.length pc] 25)).alloc (.cells #[.int .i64 0, .slice none 0 0, .string ByteArray.empty, .slice none 0 0, .int .i64 0, .slice none 0 0] 25))
  generalize (w.alloc (.cells #[.int .i64 g.k, .slice ta g.toks.length tc, .string g.sep, .slice na g.names.length nc, .int .i64 g.start, .slice pa g.prods.length pc] 25)).alloc (.cells #[.int .i64 0, .slice none 0 0, .string ByteArray.empty, .slice none 0 0, .int .i64 0, .slice none 0 0] 25) = W0 at *
  have r1 := q1.cell 1
  simp only [List.getElem?_toArray, List.getElem?_cons_zero, List.getElem?_cons_succ] at r1
  replace hsz := Lib.hid hsz
  go_upto_region 2 with (go_at_call 52; refine (owntexts_any ta g.toks.length tc g.toks _ ((hg'.out.toks.below hb0).mono hb0.size) ht).mono ?_; rintro e w1 ⟨tv, rfl, ho1, hb1⟩; obtain ⟨A1, c1, rfl, hrd1, hc1, hm1⟩ := own_strs ho1; have q1' := q1.step hb1; have r := q1'.cell 1; have f := q1'.frozen 1; simp only [List.getElem?_toArray, List.getElem?_cons_zero, List.getElem?_cons_succ] at r)
  have q1a : Blk (w1.setCell ⟨w.heap.size, 1, none⟩ (.slice A1 g.toks.length c1)) w.heap.size 25 #[.int .i64 g.k, (.slice A1 g.toks.length c1), .string g.sep, .slice na g.names.length nc, .int .i64 g.start, .slice pa g.prods.length pc] := q1'.put 1 (.slice A1 g.toks.length c1)
  have q2a := (q2.step hb1).far (p := ⟨w.heap.size, 1, none⟩) (by simp) (.slice A1 g.toks.length c1)
  have hba := bSet (bStep hb0 hb1) ⟨w.heap.size, 1, none⟩ (.slice A1 g.toks.length c1) (Nat.le_refl _)
  have ho1a : Own1 (w1.setCell ⟨w.heap.size, 1, none⟩ (.slice A1 g.toks.length c1)) (w.heap.size + 2) 9 (.slice A1 g.toks.length c1) (strs g.toks) := row_grown (ho1.mono (by have := hsz.out; omega)) (grownBy_setC' w1 w.heap.size 1 (.slice A1 g.toks.length c1)) (fun b cs e hq => by injection e with e; subst e; cases blk_type q1' hq)
  clear q1 q2 hb0 r1 q1' r f ho1 hb1 hrd1
  generalize w1.setCell ⟨w.heap.size, 1, none⟩ (.slice A1 g.toks.length c1) = W1 at *
  have r3 := q1a.cell 3
  simp only [List.getElem?_toArray, List.getElem?_cons_zero, List.getElem?_cons_succ] at r3
  go_upto_region 3 with (go_at_call 52; refine (owntexts_any na g.names.length nc g.names _ ((hg'.out.names.below hba).mono hba.size) hn).mono ?_; rintro e w2 ⟨nv, rfl, ho2, hb2⟩; obtain ⟨A2, c2, rfl, hrd2, hc2, hm2⟩ := own_strs ho2; have q1' := q1a.step hb2; have r := q1'.cell 3; have f := q1'.frozen 3; simp only [List.getElem?_toArray, List.getElem?_cons_zero, List.getElem?_cons_succ] at r)
  have hOG : OG w g ⟨ta, tc, na, nc, pa, pc⟩ (.slice A1 g.toks.length c1) (.slice A2 g.names.length c2) (.slice pa g.prods.length pc) (w2.setCell ⟨w.heap.size, 3, none⟩ (.slice A2 g.names.length c2)) := by
    have hbb := bSet (bStep hba hb2) ⟨w.heap.size, 3, none⟩ (.slice A2 g.names.length c2) (Nat.le_refl _)
    have hg3 := grownBy_setC' w2 w.heap.size 3 (.slice A2 g.names.length c2)
    have hne : ∀ b cs, some w.heap.size = some b → ¬ Blk w2 b 9 cs := fun b cs e hq => by injection e with e; subst e; cases blk_type q1' hq
    exact ⟨hg'.out.below hbb, q1'.put 3 (.slice A2 g.names.length c2), (q2a.step hb2).far (by simp) (.slice A2 g.names.length c2), row_grown (row_step ho1a hb2) hg3 hne, row_grown (ho2.mono (by have := hba.size; have := hsz.out; have := q2a.lt; omega)) hg3 hne, hbb⟩
  clear q1a q2a hba ho1a q1' r f ho2 hb2 r3 hrd2
  generalize w2.setCell ⟨w.heap.size, 3, none⟩ (.slice A2 g.names.length c2) = W2 at *
  go_wp2_with fail
  go_loopg [3, 4] g.prods.length (fun gk s3 s4 wr => ∃ i : Nat, s4 = .int .i64 i ∧ i + gk = g.prods.length ∧ PsO wr (w.heap.size + 2) s3 (g.prods.take i) ∧ OG w g ⟨ta, tc, na, nc, pa, pc⟩ (.slice A1 g.toks.length c1) (.slice A2 g.names.length c2) (.slice pa g.prods.length pc) wr)
  case atStart => exact ⟨0, rfl, by omega, PsO.nil _ _, hOG⟩
  case round =>
    clear hOG
    obtain ⟨i, rfl, hi, hPs, hOG⟩ := hrel
    replace hi := Lib.hid hi
    have c5 := hOG.2.1.cell 5
    simp only [ogc, List.getElem?_toArray, List.getElem?_cons_zero, List.getElem?_cons_succ] at c5
    by_cases hin : i < g.prods.length
    · have hpi : g.prods[i]? = some g.prods[i] := List.getElem?_eq_getElem hin
      obtain ⟨b, off, hA, hbt, x0, RA, rc, x1, hx2, hx3, hx4⟩ := hOG.1.prods.get hpi
      dsimp only at hA
      subst hA
      have htk : g.prods.take (i + 1) = g.prods.take i ++ [g.prods[i]] := List.take_succ_eq_append_getElem hin
      have hpr := hr'.out _ (List.getElem_mem hin)
      have htl : (g.prods.take i).length = i := by rw [List.length_take]; omega
      generalize g.prods[i] = p at *
      have hz1 : (0 : Int) ≤ i := by omega
      have hz2 : (i : Int) < g.prods.length := by omega
      replace hpi := Lib.hid hpi
      replace htk := Lib.hid htk
      replace htl := Lib.hid htl
      go_upto_region 7 with (fail)
      have hwl := hOG.2.2.2.2.2.size
      have hw2 := hOG.2.2.1.lt
      have hKOb : Hid (∀ X, Below wr.heap.size wr X → KO w g ⟨ta, tc, na, nc, some ⟨b, off, none⟩, pc⟩ (.slice A1 g.toks.length c1) (.slice A2 g.names.length c2) (.slice (some ⟨b, off, none⟩) g.prods.length pc) wr X) := Lib.hid fun X hb => ⟨hOG.step hb, hb.mono hwl⟩
      have hKO3 : Hid (∀ w3 X, X.grownBy w3 u3.ownBlock → Below wr.heap.size wr X → KO w g ⟨ta, tc, na, nc, some ⟨b, off, none⟩, pc⟩ (.slice A1 g.toks.length c1) (.slice A2 g.names.length c2) (.slice (some ⟨b, off, none⟩) g.prods.length pc) wr w3) := Lib.hid fun w3 X hg hb => by
        obtain ⟨rs, hpr⟩ := hPs.step hb
        refine ⟨(hOG.step hb).own hpr.2.1 hg, (hb.mono hwl).trans ⟨hg.os, hg.tape, hg.output, hg.size, fun k hk => hg.block k (by have := hb.size; omega) (fun e => by have := (own_in hpr.2.1 k e.symm).1; omega)⟩⟩
      have hAll : Hid (∀ w', KO w g ⟨ta, tc, na, nc, some ⟨b, off, none⟩, pc⟩ (.slice A1 g.toks.length c1) (.slice A2 g.names.length c2) (.slice (some ⟨b, off, none⟩) g.prods.length pc) wr w' → w'.cell? ⟨w.heap.size, 5, none⟩ = some (.slice (some ⟨b, off, none⟩) g.prods.length pc) ∧ w'.cell? ⟨b, off + i * 2, none⟩ = some (.int .i64 p.left) ∧ w'.cell? ⟨b, off + i * 2 + 1, none⟩ = some (.slice RA p.right.length rc) ∧ KO w g ⟨ta, tc, na, nc, some ⟨b, off, none⟩, pc⟩ (.slice A1 g.toks.length c1) (.slice A2 g.names.length c2) (.slice (some ⟨b, off, none⟩) g.prods.length pc) wr w') :=
        Lib.hid fun w' h => ⟨h.1.2.1.cell 5, ((h.2).cell (p := ⟨b, off + i * 2, none⟩) hbt).trans x0, ((h.2).cell (p := ⟨b, off + i * 2 + 1, none⟩) hbt).trans x1, h⟩
      have hrd : Hid (∀ X, Below wr.heap.size wr X → Rd1 X X.heap.size RA p.right.length (ints p.right)) := Lib.hid fun X hb => (hx2.below (hb.mono hwl)).mono (Nat.le_trans hwl hb.size)
      have hbase : ∀ X, Below wr.heap.size wr X → w.heap.size + 2 ≤ X.heap.size := fun X hb => by have := hb.size; omega
      replace hbase := Lib.hid hbase
      have hlen9 : (g.prods.take i).length < 1000000 := by rw [List.length_take]; omega
      replace hlen9 := Lib.hid hlen9
      replace hx2 := Lib.hid hx2
      clear c5 x0 x1
      first | go_region_held3 (fun w' => w'.cell? ⟨w.heap.size, 5, none⟩ = some (.slice (some ⟨b, off, none⟩) g.prods.length pc) ∧ w'.cell? ⟨b, off + i * 2, none⟩ = some (.int .i64 p.left) ∧ w'.cell? ⟨b, off + i * 2 + 1, none⟩ = some (.slice RA p.right.length rc) ∧ KO w g ⟨ta, tc, na, nc, some ⟨b, off, none⟩, pc⟩ (.slice A1 g.toks.length c1) (.slice A2 g.names.length c2) (.slice (some ⟨b, off, none⟩) g.prods.length pc) wr w')
        ((refine hAll.out _ ?_; first | (refine hKOb.out _ ?_; (repeat (first | assumption | exact Below.refl _ _ | (refine bStep ?_ (by assumption)) | (with_reducible refine bAlc ?_ _) | (with_reducible refine bDrw ?_))); done) | (refine hKO3.out _ _ (by assumption) ?_; repeat (first | assumption | exact Below.refl _ _ | (refine bStep ?_ (by assumption)) | (with_reducible refine bAlc ?_ _) | (with_reducible refine bDrw ?_)))))
        (first
          | (go_at_call 53; refine (ownints_any RA p.right.length rc p.right _ (hrd.out _ (by repeat (first | assumption | exact Below.refl _ _ | (refine bStep ?_ (by assumption)) | (with_reducible refine bAlc ?_ _) | (with_reducible refine bDrw ?_)))) hpr).mono ?_; rintro e w3 ⟨v3, rfl, ho3, hb3⟩; obtain ⟨RA3, k3, rfl, hrt⟩ := RtAt.of ho3)
          | (refine step_of_wp _ (by rfl) ?_; refine wp_pushP _ _ _ (by rfl) (w.heap.size + 2) _ (g.prods.take i) _ (by rfl) (hPs.step (by repeat (first | assumption | exact Below.refl _ _ | (refine bStep ?_ (by assumption)) | (with_reducible refine bAlc ?_ _) | (with_reducible refine bDrw ?_)))).choose_spec _ p RA3 k3 (by rfl) (Blk.new _ _ _) ((hrt.mono (hbase.out _ (by repeat (first | assumption | exact Below.refl _ _ | (refine bStep ?_ (by assumption)) | (with_reducible refine bAlc ?_ _) | (with_reducible refine bDrw ?_))))).step (by repeat (first | assumption | exact Below.refl _ _ | (refine bStep ?_ (by assumption)) | (with_reducible refine bAlc ?_ _) | (with_reducible refine bDrw ?_)))) hlen9.out (hbase.out _ (by repeat (first | assumption | exact Below.refl _ _ | (refine bStep ?_ (by assumption)) | (with_reducible refine bAlc ?_ _) | (with_reducible refine bDrw ?_)))) ?_; intro v4 w4 hps4 hg4)) | fail
      go_wp2_with fail
      go_roundg (g.prods.length - (i + 1))
      case measure => have := hi.out; omega
      case rel => exact ⟨i + 1, by go_num, by have := hi.out; omega, by rw [htk.out]; exact hps4, (hKO3.out _ _ hg4 (by repeat (first | assumption | exact Below.refl _ _ | (refine bStep ?_ (by assumption)) | (with_reducible refine bAlc ?_ _) | (with_reducible refine bDrw ?_)))).1⟩
    · rw [List.take_of_length_le (by omega)] at hPs
      obtain ⟨PA, pk, rfl, hrdp, hpk1, hpk2⟩ := hPs.reads
      have fb := hOG.2.1.frozen 5
      go_upto_region 9 with (fail)
      obtain ⟨o1, o2, o3, o4, o5, o6⟩ := hOG
      have hgr := grownBy_setC' wr w.heap.size 5 (.slice PA g.prods.length pk)
      have hbx : Blk (wr.setCell ⟨w.heap.size, 5, none⟩ (.slice PA g.prods.length pk)) w.heap.size 25 (ogc g (.slice A1 g.toks.length c1) (.slice A2 g.names.length c2) (.slice PA g.prods.length pk)) := o2.put 5 _
      have hrx : Blk (wr.setCell ⟨w.heap.size, 5, none⟩ (.slice PA g.prods.length pk)) (w.heap.size + 1) 25 #[.int .i64 0, .slice none 0 0, .string ByteArray.empty, .slice none 0 0, .int .i64 0, .slice none 0 0] := o3.far (by simp) _
      have hty : ∀ (e : TypeId), e ≠ 25 → ∀ (b : Nat) (cs : Array Value), some w.heap.size = some b → ¬ Blk wr b e cs := fun e he b cs e1 hq => by injection e1 with e1; subst e1; exact he (blk_type hq o2)
      have ht1 := row_grown o4 hgr (hty 9 (by decide))
      have hn1 := row_grown o5 hgr (hty 9 (by decide))
      have hp1 := hPs.grown hgr (hty 3 (by decide)) (hty 47 (by decide))
      have hbb := bSet o6 ⟨w.heap.size, 5, none⟩ (.slice PA g.prods.length pk) (Nat.le_refl _)
      clear o1 o2 o3 o4 o5 o6 hPs hrdp c5 fb hgr hty
      generalize wr.setCell ⟨w.heap.size, 5, none⟩ (.slice PA g.prods.length pk) = W3 at *
      have b0 := hbx.cell 0
      have b1 := hbx.cell 1
      have b2 := hbx.cell 2
      have b3 := hbx.cell 3
      have b4 := hbx.cell 4
      have b5 := hbx.cell 5
      have a0 := hrx.cell 0
      have a1 := hrx.cell 1
      have a2 := hrx.cell 2
      have a3 := hrx.cell 3
      have a4 := hrx.cell 4
      have a5 := hrx.cell 5
      have f0 := hrx.frozen 0
      have f1 := hrx.frozen 1
      have f2 := hrx.frozen 2
      have f3 := hrx.frozen 3
      have f4 := hrx.frozen 4
      have f5 := hrx.frozen 5
      simp only [ogc, List.getElem?_toArray, List.getElem?_cons_zero, List.getElem?_cons_succ] at b0 b1 b2 b3 b4 b5 a0 a1 a2 a3 a4 a5
      go_wp2_with fail
      have hput := put6 hrx (.int .i64 g.k) (.slice A1 g.toks.length c1) (.string g.sep) (.slice A2 g.names.length c2) (.int .i64 g.start) (.slice PA g.prods.length pk)
      have hb6 := bSet6 hbb (g := w.heap.size + 1) (by omega) (.int .i64 g.k) (.slice A1 g.toks.length c1) (.string g.sep) (.slice A2 g.names.length c2) (.int .i64 g.start) (.slice PA g.prods.length pk)
      have hst := far6 hrx (.int .i64 g.k) (.slice A1 g.toks.length c1) (.string g.sep) (.slice A2 g.names.length c2) (.int .i64 g.start) (.slice PA g.prods.length pk)
      have hty : ∀ (e : TypeId), e ≠ 25 → ∀ (b : Nat) (cs : Array Value), some (w.heap.size + 1) = some b → ¬ Blk W3 b e cs := fun e he b cs e1 hq => by injection e1 with e1; subst e1; exact he (blk_type hq hrx)
      have ht2 := row_grown ht1 hst (hty 9 (by decide))
      have hn2 := row_grown hn1 hst (hty 9 (by decide))
      have hp2 := hp1.grown hst (hty 3 (by decide)) (hty 47 (by decide))
      generalize (((((W3.setCell ⟨w.heap.size + 1, 0, none⟩ (.int .i64 g.k)).setCell ⟨w.heap.size + 1, 1, none⟩ (.slice A1 g.toks.length c1)).setCell ⟨w.heap.size + 1, 2, none⟩ (.string g.sep)).setCell ⟨w.heap.size + 1, 3, none⟩ (.slice A2 g.names.length c2)).setCell ⟨w.heap.size + 1, 4, none⟩ (.int .i64 g.start)).setCell ⟨w.heap.size + 1, 5, none⟩ (.slice PA g.prods.length pk) = W4 at *
      obtain ⟨_, _, et, rt, e1, e2⟩ := own_strs (show Own1 W4 (w.heap.size + 2) 9 _ (strs g.toks) from ht2)
      obtain ⟨_, _, en, rn, e3, e4⟩ := own_strs (show Own1 W4 (w.heap.size + 2) 9 _ (strs g.names) from hn2)
      obtain ⟨_, _, ep, rp, e5, e6⟩ := hp2.reads
      cases et; cases en; cases ep
      exact bodyPost_ret (results_cell_row rfl _ _ _ 25 _ (0, 0) _ rfl hput under26' rfl size26') rfl (hP.out ⟨_, _, _, _, _, _⟩ W4 ⟨rt, e1, e2, rn, e3, e4, rp, e5, e6, hg'.out.sep, hg'.out.ts, hg'.out.ns⟩ (hp2.mono (by omega)) ⟨Own1.mono (show Own1 W4 (w.heap.size + 2) 9 _ (strs g.toks) from ht2) (by omega), Own1.mono (show Own1 W4 (w.heap.size + 2) 9 _ (strs g.names) from hn2) (by omega)⟩ hb6)
end Go.Proofs.YtnnkfgekiaaehaaGreat

/- The kit's Any. -/
namespace Go.Proofs.YtnnkfgekiaaehaaGreat
open Go.ChangeShapes Go.WideShapes Go.ChangeAt Go.RowKit
set_option linter.unusedVariables false

theorem foldA_stuck (l : List Int) (t m : Int) (i : Nat) {ps : List Pr} (h : 7 ≤ ps.length) : ∀ js : List Nat, js.foldl (addA l t m i) ps = ps
  | [] => rfl
  | j :: js => by
    have : addA l t m i ps j = ps := by unfold addA; rw [if_neg (by omega)]
    rw [List.foldl_cons, this]; exact foldA_stuck l t m i h js
theorem foldA_part (l : List Int) (t m : Int) (i : Nat) (ps : List Pr) (j J : Nat) (hj : j ≤ J) (h : 7 ≤ ((List.range j).foldl (addA l t m i) ps).length) : (List.range J).foldl (addA l t m i) ps = (List.range j).foldl (addA l t m i) ps := by
  have e : List.range J = List.range j ++ (List.range J).drop j := by
    have := List.take_append_drop j (List.range J)
    rw [List.take_range, Nat.min_eq_left hj] at this
    exact this.symm
  rw [e, List.foldl_append]
  exact foldA_stuck l t m i h _
theorem run_push1 (W : World) (base : Nat) (RA : Option Addr) (rk : Nat) (xs : List Int) (hown : Own1 W base 3 (.slice RA xs.length rk) (ints xs)) (x : Int) (g : Nat) (hb : Blk W g 3 #[.int .i64 x]) (hn : xs.length < 1000) (hbase : base ≤ W.heap.size) :
    ∃ RA' rk' W', (Builtin.append_ #[34, 34] 34 #[.slice RA xs.length rk, .slice (some ⟨g, 0, none⟩) 1 1]).run Tryz.prog W = .ok (.slice RA' (xs.length + 1) rk') W' ∧ Own1 W' base 3 (.slice RA' (xs.length + 1) rk') (ints (xs ++ [x])) ∧ W.grownBy W' (Value.slice RA xs.length rk).ownBlock := by
  obtain ⟨i0, hi0, hz0, hz1, hz2⟩ := info_parts info3
  have hnews : ∀ j u, [Value.int .i64 x][j]? = some u → W.cell? ((⟨g, 0, none⟩ : Addr).add j) = some u := by
    intro j u hu
    have : (⟨g, 0, none⟩ : Addr).add j = ⟨g, j, none⟩ := by unfold Addr.add; split <;> simp_all
    rw [this, hb.cell]
    simpa using hu
  have hxl : (ints xs).length = xs.length := by simp [ints]
  unfold Own1 at hown
  rw [hxl] at hown
  obtain ⟨v', w', hrun, h2, h3, h4, h5⟩ := run_append_own_at (P := Tryz.prog) W base 34 34 3 i0 _ 1 8 under22 hi0 hz0 hz1 hz2 rfl (by omega) _ xs.length _ hown ⟨g, 0, none⟩ 1 1 [.int .i64 x] rfl hnews (by simp [Value.oneCell']) (by unfold maxLen; omega) (by omega) hbase
  have he : ints xs ++ [Value.int .i64 x] = ints (xs ++ [x]) := by simp [ints]
  rw [he] at h2
  have hlast : (xs ++ [x]).length = xs.length + 1 := by simp
  have ho : Own1 w' base 3 v' (ints (xs ++ [x])) := by
    unfold Own1
    rw [show (ints (xs ++ [x])).length = xs.length + 1 by simp [ints]]
    exact h2
  obtain ⟨A2, c2, e2, _, _, _, _⟩ := ho.reads
  rw [show (ints (xs ++ [x])).length = xs.length + 1 by simp [ints]] at e2
  subst e2
  exact ⟨A2, c2, w', hrun, ho, h3⟩
theorem wp_of_append {o : Oper} {a : Act} {w : World} {K : Act → World → Prop} {Q : Exit → Act → World → Prop} (s x : Operand) (t : TypeId) (ho : o.op = .call { callee := .builtin .append, args := #[s, x], argTypes := #[t, t] })
    (v u : Value) (hs : a.eval s = v) (hx : a.eval x = u) (r : Value) (w' : World) (hrun : (Builtin.append_ #[t, t] o.type #[v, u]).run Tryz.prog w = .ok r w') (h : K (a.put o.dst r) w') : Oper.wp Tryz.prog o a w K Q := by
  unfold Oper.wp execOp
  simp only [ho, resolve, invoke, builtin, Sem.run_bind, Sem.run_pure, Result.andThen_ok, List.map_toArray, List.map_cons, List.map_nil, hs, hx, hrun]
  exact h
theorem rightA_take (t m y : Int) (s : Nat) (h : s < (y % 4).toNat) : (rightA t m y).take (s + 1) = (rightA t m y).take s ++ [symA t m (digA y s)] := by
  have hl : s < (rightA t m y).length := by simpa [rightA] using h
  rw [List.take_succ_eq_append_getElem hl]
  simp [rightA]
theorem conv1 (W : World) (b : UInt8) (nb : Int) (hb : nb = (b.toNat : Int)) : (convert 129 9 (.slice (some ⟨W.heap.size, 0, none⟩) 1 1)).run Tryz.prog (W.alloc (.cells #[.int .u8 nb] 5)) = .ok (.string ⟨#[b]⟩) (W.alloc (.cells #[.int .u8 nb] 5)) := by
  subst hb
  refine run_convert_bytes_back (W.alloc (.cells #[.int .u8 (b.toNat : Int)] 5)) 129 9 5 ⟨W.heap.size, 0, none⟩ 1 [b] (by kernel_rfl) (by kernel_rfl) (by kernel_rfl) ?_
  intro i hi
  have : i = 0 := by simp at hi; omega
  subst this
  have e : (⟨W.heap.size, 0, none⟩ : Addr).add 0 = ⟨W.heap.size, 0, none⟩ := by simp [Addr.add]
  rw [e, (Blk.new W 5 #[.int .u8 (b.toNat : Int)]).cell 0]
  rfl
def RetG (w : World) (g : Gr) (e : Ending) (w' : World) : Prop := ∃ a, e = .returned (gval g a) ∧ GrAt w' w'.heap.size g a ∧ Below w.heap.size w w'
/-- the grammar under way -/
def YI (w : World) (K : Int) (t : Nat) (NA : Option Addr) (nk : Nat) (PA : Option Addr) (pk : Nat) (ns : List ByteArray) (ps : List Pr) (W : World) : Prop :=
  Blk W w.heap.size 25 #[.int .i64 0, .slice none 0 0, .string ByteArray.empty, .slice none 0 0, .int .i64 0, .slice none 0 0] ∧ Blk W (w.heap.size + 1) 9 #[.string { data := #[97] }, .string { data := #[98] }] ∧
    Blk W (w.heap.size + 2) 25 #[.int .i64 K, .slice (some ⟨w.heap.size + 1, 0, none⟩) t 2, .string { data := #[122] }, .slice NA ns.length nk, .int .i64 16, .slice PA ps.length pk] ∧
    Own1 W (w.heap.size + 3) 9 (.slice NA ns.length nk) (strs ns) ∧ PsO W (w.heap.size + 3) (.slice PA ps.length pk) ps ∧ Below w.heap.size w W
theorem YI.step {w : World} {K : Int} {t : Nat} {NA : Option Addr} {nk : Nat} {PA : Option Addr} {pk : Nat} {ns : List ByteArray} {ps : List Pr} {W W' : World} (h : YI w K t NA nk PA pk ns ps W) (hb : Below W.heap.size W W') : YI w K t NA nk PA pk ns ps W' := by
  obtain ⟨h1, h2, h3, h4, h5, h6⟩ := h
  exact ⟨h1.step hb, h2.step hb, h3.step hb, h4.step hb, h5.step hb, bStep h6 hb⟩

theorem YI.box {w : World} {K : Int} {t : Nat} {NA : Option Addr} {nk : Nat} {PA : Option Addr} {pk : Nat} {ns : List ByteArray} {ps : List Pr} {W W1 : World} {row : Option Nat} (h : YI w K t NA nk PA pk ns ps W) (hg : W.grownBy W1 row) (hr : ∀ r, row = some r → w.heap.size + 3 ≤ r) (j : Nat) :
    W1.cell? ⟨w.heap.size + 2, j, none⟩ = W.cell? ⟨w.heap.size + 2, j, none⟩ ∧ W1.frozen? ⟨w.heap.size + 2, j, none⟩ = false := by
  have h3 := h.2.2.1.grown hg (fun e => by have := hr _ e.symm; omega)
  exact ⟨by rw [h3.cell, h.2.2.1.cell], h3.frozen j⟩
theorem YI.names {w : World} {K : Int} {t : Nat} {NA NA2 : Option Addr} {nk nk2 : Nat} {PA : Option Addr} {pk : Nat} {ns : List ByteArray} {s : ByteArray} {ps : List Pr} {W W1 : World} (h : YI w K t NA nk PA pk ns ps W) (hg : W.grownBy W1 (Value.slice NA ns.length nk).ownBlock) (ho : Own1 W1 (w.heap.size + 3) 9 (.slice NA2 (ns ++ [s]).length nk2) (strs (ns ++ [s]))) :
    YI w K t NA2 nk2 PA pk (ns ++ [s]) ps (W1.setCell ⟨w.heap.size + 2, 3, none⟩ (.slice NA2 (ns ++ [s]).length nk2)) := by
  obtain ⟨h1, h2, h3, h4, h5, h6⟩ := h
  have hlo : ∀ r, (Value.slice NA ns.length nk).ownBlock = some r → w.heap.size + 3 ≤ r := fun r e => (own_in h4 r e).1
  have h3' := h3.grown hg (fun e => by have := hlo _ e.symm; omega)
  have hty : ∀ (e : TypeId), e ≠ 9 → ∀ (b : Nat) (cs : Array Value), (Value.slice NA ns.length nk).ownBlock = some b → ¬ Blk W b e cs := fun e he b cs e1 hq => by obtain ⟨cs', hq'⟩ := own_blk h4 e1; exact he (blk_type hq hq')
  have hst := grownBy_setC' W1 (w.heap.size + 2) 3 (.slice NA2 (ns ++ [s]).length nk2)
  have hty2 : ∀ (e : TypeId), e ≠ 25 → ∀ (b : Nat) (cs : Array Value), some (w.heap.size + 2) = some b → ¬ Blk W1 b e cs := fun e he b cs e1 hq => by injection e1 with e1; subst e1; exact he (blk_type hq h3')
  have hb : Below w.heap.size W W1 := ⟨hg.os, hg.tape, hg.output, hg.size, fun k hk => hg.block k (by have := h6.size; omega) (fun e => by have := hlo _ e.symm; omega)⟩
  exact ⟨(h1.grown hg (fun e => by have := hlo _ e.symm; omega)).far (by simp) _, (h2.grown hg (fun e => by have := hlo _ e.symm; omega)).far (by simp) _, h3'.put 3 _, row_grown ho hst (hty2 9 (by decide)), (h5.grown hg (hty 3 (by decide)) (hty 47 (by decide))).grown hst (hty2 3 (by decide)) (hty2 47 (by decide)), bSet (h6.trans hb) _ _ (by simp)⟩
theorem YI.prods {w : World} {K : Int} {t : Nat} {NA PA2 : Option Addr} {nk pk2 : Nat} {PA : Option Addr} {pk : Nat} {ns : List ByteArray} {ps qs : List Pr} {W W1 : World} (h : YI w K t NA nk PA pk ns ps W) (hg : W.grownBy W1 (Value.slice PA ps.length pk).ownBlock) (ho : PsO W1 (w.heap.size + 3) (.slice PA2 qs.length pk2) qs) :
    YI w K t NA nk PA2 pk2 ns qs (W1.setCell ⟨w.heap.size + 2, 5, none⟩ (.slice PA2 qs.length pk2)) := by
  obtain ⟨h1, h2, h3, h4, h5, h6⟩ := h
  obtain ⟨rs, hpr⟩ := h5
  have hlo : ∀ r, (Value.slice PA ps.length pk).ownBlock = some r → w.heap.size + 3 ≤ r := fun r e => (own_in hpr.2.1 r e).1
  have h3' := h3.grown hg (fun e => by have := hlo _ e.symm; omega)
  have hty : ∀ (e : TypeId), e ≠ 47 → ∀ (b : Nat) (cs : Array Value), (Value.slice PA ps.length pk).ownBlock = some b → ¬ Blk W b e cs := fun e he b cs e1 hq => by obtain ⟨cs', hq'⟩ := own_blk hpr.2.1 e1; exact he (blk_type hq hq')
  have hst := grownBy_setC' W1 (w.heap.size + 2) 5 (.slice PA2 qs.length pk2)
  have hty2 : ∀ (e : TypeId), e ≠ 25 → ∀ (b : Nat) (cs : Array Value), some (w.heap.size + 2) = some b → ¬ Blk W1 b e cs := fun e he b cs e1 hq => by injection e1 with e1; subst e1; exact he (blk_type hq h3')
  have hb : Below w.heap.size W W1 := ⟨hg.os, hg.tape, hg.output, hg.size, fun k hk => hg.block k (by have := h6.size; omega) (fun e => by have := hlo _ e.symm; omega)⟩
  exact ⟨(h1.grown hg (fun e => by have := hlo _ e.symm; omega)).far (by simp) _, (h2.grown hg (fun e => by have := hlo _ e.symm; omega)).far (by simp) _, h3'.put 5 _, row_grown (row_grown h4 hg (hty 9 (by decide))) hst (hty2 9 (by decide)), ho.grown hst (hty2 3 (by decide)) (hty2 47 (by decide)), bSet (h6.trans hb) _ _ (by simp)⟩

end Go.Proofs.YtnnkfgekiaaehaaGreat

/- Small grammars: few looks; the laws of FOLLOW on sets. -/
namespace Go.Proofs.YtnnkfgekiaaehaaGreat
open Go.ChangeShapes Go.WideShapes Go.ChangeAt Go.RowKit
set_option linter.unusedVariables false

/-- an argument that is a list of numbers -/
def IsInts (w : World) (a : Option Addr) (len cap : Nat) (zs : List Int) : Prop :=
  (a = none ∧ len = 0 ∧ cap = 0 ∧ zs = []) ∨
  ∃ x, a = some x ∧ len ≤ cap ∧ cap ≤ maxLen ∧ zs.length = cap ∧ (∀ i, i < zs.length → w.cell? (x.add i) = some (.int .i64 (zs.getD i 0))) ∧ (∀ n ∈ zs, (Lit.int .i64 n).wf = true)
theorem ints_reads {w : World} {a : Option Addr} {len cap : Nat} {zs : List Int} (h : IsInts w a len cap zs) :
    Rd1 w w.heap.size a len (ints (zs.take len)) ∧ (∀ n ∈ zs.take len, (Lit.int .i64 n).wf = true) ∧ len ≤ maxLen := by
  rcases h with ⟨rfl, rfl, rfl, rfl⟩ | ⟨⟨b, off, spot⟩, rfl, h1, h2, h3, h4, h5⟩
  · exact ⟨Rd1.nil _ _ _, by simp, by simp [maxLen]⟩
  · refine ⟨?_, fun n hn => h5 n (List.mem_of_mem_take hn), by omega⟩
    by_cases h0 : len = 0
    · subst h0; exact Rd1.nil _ _ _
    · have hc0 := h4 0 (by omega)
      have hs : spot = none := by simpa [Addr.add] using World.cell?_spot hc0
      subst hs
      have hll : (zs.take len).length = len := by rw [List.length_take]; omega
      refine ⟨by simp [ints]; omega, .inr ⟨b, off, rfl, ?_, fun i v hv => ?_⟩⟩
      · exact block_lt_of_cell (a := ⟨b, off, none⟩) (by simpa [Addr.add] using hc0)
      · have hi : i < len := by have := (List.getElem?_eq_some_iff.1 hv).1; simp [ints] at this; omega
        have hadd : (⟨b, off, none⟩ : Addr).add i = ⟨b, off + i, none⟩ := by unfold Addr.add; split <;> simp_all
        have hc := h4 i (by omega)
        rw [hadd] at hc
        have hiz : i < zs.length := by omega
        simp [ints, hi, hiz, List.getElem?_take] at hv
        rw [hc, ← hv]
        simp [List.getD_eq_getElem?_getD, hiz]

theorem psok_of {g : Gr} {k : Nat} (h : GOk g k) : PsOk g.prods g.toks.length := fun p hp s hs h16 => by
  rcases (h.pr p hp).2.2 s hs with h1 | h1
  · exact h1
  · omega
theorem fo_fit {g : Gr} (hok : gchk g = 0) {s : Int} {y : Lk} (h : FO g.prods g.k.toNat g.start s y) : y.right g.toks.length ∧ y.l.length ≤ g.k.toNat := by
  have hk := gok_of hok
  exact fo_right hk.k1 hk.k4 (by have := hk.tk; omega) (psok_of hk) h
/-- the looks of at most two terminals of two -/
def univ2 : List Lk := [[], [0], [1], [0, 0], [0, 1], [1, 0], [1, 1]].map Lk.of
theorem univ2_mem {x : Lk} (h : x.right 2) (hl : x.l.length ≤ 2) : x ∈ univ2 := by
  obtain ⟨_, _, ho, hv⟩ := right_l h
  rw [← ho]
  refine List.mem_map_of_mem ?_
  match hx : x.l, hl with
  | [], _ => simp
  | [a], _ =>
    have := hv a (by rw [hx]; simp)
    rcases (by omega : a = 0 ∨ a = 1) with rfl | rfl <;> simp
  | [a, b], _ =>
    have h1 := hv a (by rw [hx]; simp)
    have h2 := hv b (by rw [hx]; simp)
    rcases (by omega : a = 0 ∨ a = 1) with rfl | rfl <;> rcases (by omega : b = 0 ∨ b = 1) with rfl | rfl <;> simp
  | a :: b :: c :: t, h => simp at h
/-- a grammar made of numbers, or one with less -/
structure Slight (g : Gr) : Prop where
  ok : gchk g = 0
  tk : g.toks.length ≤ 2
  k2 : g.k ≤ 2
theorem Slight.fit {g : Gr} (h : Slight g) {s : Int} {y : Lk} (hy : FO g.prods g.k.toNat g.start s y) : y ∈ univ2 := by
  have hf := fo_fit h.ok hy
  have hk := gok_of h.ok
  exact univ2_mem (right_mono hf.1 (by have := h.tk; omega) (by omega)) (by have := h.k2; omega)
theorem Slight.few {g : Gr} (h : Slight g) (s : Int) : Few g s := fun L hn hL => by
  have := nodup_len hn fun y hy => h.fit (hL y hy)
  have e : univ2.length = 7 := rfl
  omega
theorem slight_any (l : List Int) : Slight (anyG l) := by
  refine ⟨anyG_ok l, ?_, ?_⟩
  · have := toksA_len (tA l) (tA_bd l)
    have h2 := tA_bd l
    show (toksA (tA l)).length ≤ 2
    omega
  · show 1 + numA l 0 % 2 ≤ 2
    omega
/-- a grammar with another lookahead -/
def withK (g : Gr) (k : Int) : Gr := { g with k := k }
theorem gchk_k {g : Gr} (h : gchk g = 0) {k : Int} (h1 : 1 ≤ k) (h4 : k ≤ 4) : gchk (withK g k) = 0 := by
  obtain ⟨_, r⟩ := (gchk_iff g).1 h
  exact (gchk_iff (withK g k)).2 ⟨⟨h1, h4⟩, r⟩
theorem Slight.withK {g : Gr} (h : Slight g) {k : Nat} (h1 : 1 ≤ k) (h2 : (k : Int) ≤ g.k) : Slight (withK g k) :=
  ⟨gchk_k h.ok (by omega) (by have := h.k2; omega), h.tk, by show (k : Int) ≤ 2; have := h.k2; omega⟩
/-- FOLLOW for a lesser lookahead is the looks cut -/
theorem fset_cut {g : Gr} (h : Slight g) {k : Nat} (h1 : 1 ≤ k) (h2 : (k : Int) ≤ g.k) {s : Int} {L M : List Lk} (hL : FSet g s L) (hM : FSet (withK g k) s M) : M = lcut k L := by
  have hk := gok_of h.ok
  have hr : ∀ x ∈ L.map (fun x => lplus k x (Lk.of [])), x.right 8 := fun x hx => by
    obtain ⟨z, hz, rfl⟩ := List.mem_map.1 hx
    have hf := fo_fit h.ok ((hL.2 z).1 hz)
    exact lplus_right (by have := hk.k4; omega) (right_mono hf.1 (by have := hk.tk; omega) (by omega)) (nil_right 8 (by omega))
  refine asc_uniq hM.1 (lset_asc hr) fun y => ?_
  unfold lcut
  rw [lset_mem hr, hM.2 y, List.mem_map]
  have e : (withK g k).k.toNat = k := by show ((k : Int)).toNat = k; omega
  rw [e]
  show FO g.prods k g.start s y ↔ _
  rw [fo_less (k := g.k.toNat) h1 (by omega) hk.k4 y]
  exact ⟨fun ⟨z, hz, e⟩ => ⟨z, (hL.2 z).2 hz, e⟩, fun ⟨z, hz, e⟩ => ⟨z, (hL.2 z).1 hz, e⟩⟩
theorem GrAt.withK {w : World} {B : Nat} {g : Gr} {a : GA} (h : GrAt w B g a) (k : Int) : GrAt w B (withK g k) a := ⟨h.toks, h.tc, h.tm, h.names, h.nc, h.nm, h.prods, h.pc, h.pm, h.sep, h.ts, h.ns⟩
end Go.Proofs.YtnnkfgekiaaehaaGreat

/- follow.Behind. -/
namespace Go.Proofs.YtnnkfgekiaaehaaGreat
open Go.ChangeShapes Go.WideShapes Go.ChangeAt Go.RowKit
set_option linter.unusedVariables false

/-- what is behind a place, reckoned from the sets -/
def behL (k : Nat) (ss fs : List (List Lk)) (p : Pr) (d : Nat) : List Lk := sumsJ k (tailL k ss (p.right.drop d)) (lset (fs.getD (p.left - 16).toNat []))
theorem behind_iff {g : Gr} (h : gchk g = 0) {ss fs : List (List Lk)} (h1 : SetsFit g.k.toNat ss) (h2 : SoundF g.prods g.k.toNat ss) (h3 : ClosedF g.prods g.k.toNat ss) (h4 : SetsFit g.k.toNat fs) (h5 : SoundO g.prods g.k.toNat g.start fs) (h6 : ClosedO g.prods g.k.toNat g.start ss fs) {p : Pr} (hp : p ∈ g.prods) (d : Nat) (z : Lk) :
    z ∈ behL g.k.toNat ss fs p d ↔ BH g.prods g.k.toNat g.start p d z := by
  have hok := gok_of h
  have hf := follow_iff hok.k1 hok.k4 h1 h4 h2 h3 (fun p hp => ⟨(hok.pr p hp).1.1, hok.sym hp⟩) h5 h6 p.left (hok.pr p hp).1.1
  have ht := first_iff hok.k1 hok.k4 h1 h2 h3 (fun p hp => hok.sym hp) (p.right.drop d) (fun z hz => hok.sym hp z (List.mem_of_mem_drop hz))
  have hl := fun y => lset_mem (k := 8) (fun z hz => (setsFit_get h4 (p.left - 16).toNat z hz).1) y
  unfold behL BH
  rw [sums_mem]
  constructor
  · rintro ⟨x, hx, y, hy, rfl⟩
    exact ⟨x, y, (ht x).1 hx, (hf y).1 ((hl y).1 hy), rfl⟩
  · rintro ⟨x, y, hx, hy, rfl⟩
    exact ⟨x, (ht x).2 hx, y, (hl y).2 ((hf y).2 hy), rfl⟩
/-- what is behind a place, in order -/
def BSet (g : Gr) (p : Pr) (d : Nat) (L : List Lk) : Prop := Asc L ∧ ∀ y, y ∈ L ↔ BH g.prods g.k.toNat g.start p d y
/-- few looks behind -/
def FewB (g : Gr) (p : Pr) (d : Nat) : Prop := ∀ L : List Lk, L.Nodup → (∀ y ∈ L, BH g.prods g.k.toNat g.start p d y) → L.length ≤ 600
def RetB (g : Gr) (p : Pr) (d : Nat) (w : World) (e : Ending) (w' : World) : Prop := ∃ L v, e = .returned (.tuple #[v, .int .i64 0]) ∧ BSet g p d L ∧ OwnL w' w.heap.size v L ∧ Below w.heap.size w w'
theorem BSet.uniq {g : Gr} {p : Pr} {d : Nat} {L M : List Lk} (h : BSet g p d L) (h' : BSet g p d M) : L = M := asc_uniq h.1 h'.1 fun y => (h.2 y).trans (h'.2 y).symm
theorem Slight.fitB {g : Gr} (h : Slight g) {p : Pr} (hp : p ∈ g.prods) {d : Nat} {y : Lk} (hy : BH g.prods g.k.toNat g.start p d y) : y ∈ univ2 := by
  obtain ⟨x, z, hx, hz, rfl⟩ := hy
  have hk := gok_of h.ok
  have hps := psok_of hk
  have h1 := fl_right hk.k1 hk.k4 (by have := hk.tk; omega) hps hx fun s hs => hps p hp s (List.mem_of_mem_drop hs)
  have h2 := fo_fit h.ok hz
  refine univ2_mem (right_mono (lplus_right hk.k4 h1.1 h2.1) (by have := h.tk; omega) (by omega)) ?_
  rw [lplus_l hk.k4, List.length_take]
  have := h.k2
  omega
theorem Slight.fewB {g : Gr} (h : Slight g) {p : Pr} (hp : p ∈ g.prods) (d : Nat) : FewB g p d := fun L hn hL => by
  have := nodup_len hn fun y hy => h.fitB hp (hL y hy)
  have e : univ2.length = 7 := rfl
  omega
/-- the map of what is behind has been made -/
def BM (mb : Nat) (J : List Lk) (V wx : World) : Prop := MapK lookKey wx mb J ∧ Below V.heap.size V wx

set_option maxRecDepth 100000 in
set_option maxHeartbeats 8000000 in
theorem behind_any (g : Gr) (a : GA) (i d : Nat) (p : Pr) (w : World) (hg : GrAt w w.heap.size g a) (hok : gchk g = 0) (hp : g.prods[i]? = some p) (hd : d ≤ p.right.length) (hfew : FewB g p d) :
    Calls Tryz.prog 8 #[gval g a, .int .i64 i, .int .i64 d] w (RetB g p d w) := by
  obtain ⟨ta, tc, na, nc, pa, pc⟩ := a
  have hk := gok_of hok
  have hn8 := hk.nm
  have hpm := List.mem_of_getElem? hp
  have hpr := hk.pr p hpm
  have hil := (List.getElem?_eq_some_iff.1 hp).1
  have hpl := hk.pl
  obtain ⟨b, off, hA0, hbt, x0, RA, rc, x1, hx2, hx3, hx4⟩ := hg.prods.get hp
  dsimp only at hA0
  subst hA0
  have hG0 := GB.start hg
  have hC := Lib.hid (fun (W : World) (h : GrAt W W.heap.size g ⟨ta, tc, na, nc, some ⟨b, off, none⟩, pc⟩) => gcheck_any g ⟨ta, tc, na, nc, some ⟨b, off, none⟩, pc⟩ W h (small_of hok))
  rw [hok] at hC
  have hA := Lib.hid (fun (W : World) (h : GrAt W W.heap.size g ⟨ta, tc, na, nc, some ⟨b, off, none⟩, pc⟩) => all_any g ⟨ta, tc, na, nc, some ⟨b, off, none⟩, pc⟩ g.k.toNat hk W h)
  have hSet := Lib.hid (fun (ss fs : List (List Lk)) h1 h2 h3 h4 h5 h6 y => behind_iff hok (ss := ss) (fs := fs) h1 h2 h3 h4 h5 h6 hpm d y)
  have hP := Lib.hid (fun (L : List Lk) (v : Value) (w' : World) (h1 : BSet g p d L) (h2 : OwnL w' w.heap.size v L) (h3 : Below w.heap.size w w') => (show RetB g p d w (.returned (.tuple #[v, .int .i64 0])) w' from ⟨L, v, rfl, h1, h2, h3⟩))
  have hfew' := Lib.hid hfew
  have hsy := hk.sym hpm
  obtain ⟨jx, hjx⟩ := Int.eq_ofNat_of_zero_le (show 0 ≤ p.left - 16 by have := hpr.1; omega)
  have hjxn : (p.left - 16).toNat = jx := by omega
  have hjxi : jx < g.names.length := by have := hpr.1; omega
  have hzx : (0 : Int) ≤ jx := by omega
  have hzy : (jx : Int) < g.names.length := by omega
  have hz1 : (0 : Int) ≤ i := by omega
  have hz2 : (i : Int) < g.prods.length := by omega
  have hz3 : (0 : Int) ≤ d := by omega
  have hz4 : (d : Int) ≤ p.right.length := by omega
  have hz5 : (d : Int) ≤ rc := by omega
  have hn9 : g.names.length ≤ 8 := hn8.2
  have hr6 : p.right.length ≤ 6 := hpr.2.1
  have zw : IntKind.i64.wrap (jx : Int) = jx := IntWalk.i64_in _ (by omega)
  have hk4 := hk.k4
  have hk1 := hk.k1
  have hkk : (g.k : Int) = (g.k.toNat : Int) := hk.hk
  have hk' := Lib.hid hk
  have hok' := Lib.hid hok
  replace hpr := Lib.hid hpr
  replace hsy := Lib.hid hsy
  replace hkk := Lib.hid hkk
  replace hjxn := Lib.hid hjxn
  replace hp := Lib.hid hp
  replace hpm := Lib.hid hpm
  unfold maxLen at hx4
  clear hg hok hk hfew hn8
  unfold gval at *
  unfold gcells at *
  dsimp only at *
  have hmm := @run_makeMap Tryz.prog
  go_enter Tryz.func8, Tryz.ntmps8
  go_upto_region 4 with (go_at_call 33; refine (hC.out _ ((hG0.2.1).mono hG0.2.2.size)).mono ?_; rintro e w1 ⟨rfl, hb1⟩)
  have hG1 := hG0.step hb1
  clear hG0 hb1
  obtain ⟨c0, c1, c2, c3, c4, c5⟩ := hG1.cells
  dsimp only at c1 c3 c5
  have y0 := (hG1.2.2.cell (p := ⟨b, off + i * 2, none⟩) hbt).trans x0
  have y1 := (hG1.2.2.cell (p := ⟨b, off + i * 2 + 1, none⟩) hbt).trans x1
  go_upto_region 7 with (go_at_call 34; refine (hA.out _ ((hG1.2.1).mono hG1.2.2.size)).mono ?_; rintro e w2 ⟨bo, fo, ss, fs, rfl, hS1, hS2, k1, k2, k3, k4, k5, k6, k7, k8, hb2⟩)
  have hG2 := hG1.step hb2
  clear hG1 hb2 c0 c1 c2 c3 c4 c5 y0 y1 hC hA
  go_upto_region 8 with (fail)
  clear hmm
  have hbA : Below w2.heap.size w2 (w2.alloc (.map #[] 0)) := bAlc (Below.refl _ _) _
  have hM := mapk_new lookKey w2 w2.heap.size rfl
  have hG3 := hG2.step hbA
  have hS1' := (hS1.below hbA).mono hbA.size
  have hS2' := (hS2.below hbA).mono hbA.size
  have hw2 : w.heap.size ≤ w2.heap.size := hG2.2.2.size
  clear hS1 hS2 hG2 hbA
  generalize w2.alloc (.map #[] 0) = W1 at *
  generalize w2.heap.size = mb at *
  obtain ⟨mb2, hmb2, hz0, hM2⟩ := hS2'.at0 jx hjxi
  have hmem := Lib.hid (hSet.out ss fs k1 k2 k3 k4 k5 k6)
  have hJe : behL g.k.toNat ss fs p d = sumsJ g.k.toNat (tailL g.k.toNat ss (p.right.drop d)) (lset (fs.getD jx [])) := by unfold behL; rw [hjxn.out]
  have hdr : ∀ z ∈ p.right.drop d, SymOk g.names.length z := fun z hz => hsy.out z (List.mem_of_mem_drop hz)
  have hTf := Lib.hid (tail_fit hk1 hk4 k1 _ hdr)
  have hTl := Lib.hid (fit_len (tail_nodup hk1 hk4 k1 _ hdr) hTf.out)
  have hLf := Lib.hid (lset_fit (setsFit_get k4 jx))
  have hLl := Lib.hid (fit_len (lset_nodup (setsFit_get k4 jx)) hLf.out)
  have hnd : (fs.getD jx []).Nodup := by
    rw [List.getD_eq_getElem?_getD]
    cases hh : fs[jx]? with
    | none => simp
    | some t => exact k8 t (List.mem_of_getElem? hh)
  have hLl2 := Lib.hid (fit_len hnd (setsFit_get k4 jx))
  have hF8 : Hid (∀ x ∈ fs.getD jx [], x.right 8) := Lib.hid fun x hx => (setsFit_get k4 jx x hx).1
  have hfit := Lib.hid k1
  have hnds := Lib.hid k7
  have hJfit : Hid (∀ z ∈ addAll [] (behL g.k.toNat ss fs p d), Fit g.k.toNat z) := Lib.hid (all_fit (by simp) (by rw [hJe]; exact sums_fit hk4 hTf.out hLf.out))
  have hJnd : Hid ((addAll [] (behL g.k.toNat ss fs p d)).Nodup) := Lib.hid (addAll_nodup List.nodup_nil _)
  have hJmem : Hid (∀ y, y ∈ addAll [] (behL g.k.toNat ss fs p d) ↔ BH g.prods g.k.toNat g.start p d y) := Lib.hid fun y => by rw [addAll_mem]; simp only [List.not_mem_nil, false_or]; exact hmem.out y
  have hT0 : Hid (∀ (SA : Option Addr) (sn sc : Nat), Rd1 W1 w.heap.size SA sn (ints (p.right.drop d)) → ∀ W', Below W1.heap.size W1 W' → Calls Tryz.prog 36 #[.agg #[.int .i64 g.k, .slice ta g.toks.length tc, .string g.sep, .slice na g.names.length nc, .int .i64 g.start, .slice (some ⟨b, off, none⟩) g.prods.length pc], .slice (some ⟨bo, 0, none⟩) g.names.length g.names.length, .slice SA sn sc] W' (RetL W' (tailL g.k.toNat ss (p.right.drop d)))) :=
    Lib.hid fun SA sn sc hr W' hb => by
      have hlw : w.heap.size ≤ W1.heap.size := hG3.2.2.size
      have hlen2 : sn ≤ 1000000 := by have := hr.1; simp [ints] at this; omega
      exact tail_any g ⟨ta, tc, na, nc, some ⟨b, off, none⟩, pc⟩ g.k.toNat hkk.out hk1 hk4 (some ⟨bo, 0, none⟩) g.names.length g.names.length ss SA sn sc (p.right.drop d) W' (((hG3.step hb).2.1).mono (by have := hb.size; omega)) ((hS1'.below hb).mono hb.size) hfit.out hnds.out (by omega) ((hr.below (hb.mono hlw)).mono (Nat.le_trans hlw hb.size)) hlen2 hdr
  have hPl : Hid (∀ W', Calls Tryz.prog 38 #[.int .i64 g.k] W' (RetP W' g.k.toNat)) := Lib.hid fun W' => by have := mkplus_any g.k.toNat W'; rw [← hkk.out] at this; exact this
  have hSo : Hid (∀ W', Below W1.heap.size W1 W' → Calls Tryz.prog 37 #[.map (some mb2)] W' (RetL W' (lset (fs.getD jx [])))) := Lib.hid fun W' hb => sorted_any mb2 (fs.getD jx []) W' (hM2.step hb) hF8.out (by have := hLl2.out; omega)
  have hJ : Hid (∀ A1 c1 A2 c2 Bk W', Below W1.heap.size W1 W' → RdL W' W'.heap.size A1 (tailL g.k.toNat ss (p.right.drop d)).length (tailL g.k.toNat ss (p.right.drop d)) → RdL W' W'.heap.size A2 (lset (fs.getD jx [])).length (lset (fs.getD jx [])) → W'.cell? ⟨Bk, 0, none⟩ = some (.int .i64 g.k.toNat) → Bk < W'.heap.size →
      Calls Tryz.prog 35 #[.map (some mb), .slice A1 (tailL g.k.toNat ss (p.right.drop d)).length c1, .slice A2 (lset (fs.getD jx [])).length c2, .func (.func 75) #[] #[.pointer (some ⟨Bk, 0, none⟩)]] W' (RetJ W' mb [] (addAll [] (behL g.k.toNat ss fs p d)))) :=
    Lib.hid fun A1 c1 A2 c2 Bk W' hb r1 r2 hc hBk => by
      rw [hJe]
      exact joined_any g.k.toNat A1 A2 _ _ c1 c2 _ _ _ mb Bk W' hk4 r1 r2 (fun x hx => (hTf.out x hx).1) (fun x hx => (hLf.out x hx).1) (fun x hx => (hTf.out x hx).2) (by have := hTl.out; omega) (by have := hLl.out; omega) (hM.step hb) hc hBk
  unfold RetJ at hJ
  have y0 := (hG3.2.2.cell (p := ⟨b, off + i * 2, none⟩) hbt).trans x0
  have y1 := (hG3.2.2.cell (p := ⟨b, off + i * 2 + 1, none⟩) hbt).trans x1
  have hx2' := (hx2.drop d rc hd hx3).below hG3.2.2
  rw [show (ints p.right).drop d = ints (p.right.drop d) by simp [ints]] at hx2'
  obtain ⟨c0, c1, c2, c3, c4, c5⟩ := hG3.cells
  dsimp only at c1 c3 c5
  have hAll : Hid (∀ w', KX W1 mb mb w' → w'.cell? ⟨w.heap.size, 0, none⟩ = some (.int .i64 g.k) ∧ w'.cell? ⟨w.heap.size, 1, none⟩ = some (.slice ta g.toks.length tc) ∧ w'.cell? ⟨w.heap.size, 2, none⟩ = some (.string g.sep) ∧ w'.cell? ⟨w.heap.size, 3, none⟩ = some (.slice na g.names.length nc) ∧ w'.cell? ⟨w.heap.size, 4, none⟩ = some (.int .i64 g.start) ∧ w'.cell? ⟨w.heap.size, 5, none⟩ = some (.slice (some ⟨b, off, none⟩) g.prods.length pc) ∧
      w'.cell? ⟨b, off + i * 2, none⟩ = some (.int .i64 p.left) ∧ w'.cell? ⟨b, off + i * 2 + 1, none⟩ = some (.slice RA p.right.length rc) ∧ w'.cell? ⟨fo, jx, none⟩ = some (.map (some mb2)) ∧ KX W1 mb mb w') :=
    Lib.hid fun w' h => ⟨h.cell c0 (cell_not_map c0 hM) (cell_not_map c0 hM), h.cell c1 (cell_not_map c1 hM) (cell_not_map c1 hM), h.cell c2 (cell_not_map c2 hM) (cell_not_map c2 hM), h.cell c3 (cell_not_map c3 hM) (cell_not_map c3 hM), h.cell c4 (cell_not_map c4 hM) (cell_not_map c4 hM), h.cell c5 (cell_not_map c5 hM) (cell_not_map c5 hM),
      h.cell y0 (cell_not_map y0 hM) (cell_not_map y0 hM), h.cell y1 (cell_not_map y1 hM) (cell_not_map y1 hM), h.cell hz0 (cell_not_map hz0 hM) (cell_not_map hz0 hM), h⟩
  have hEnd : Hid (∀ w', KX W1 mb mb w' → MapK lookKey w' mb (addAll [] (behL g.k.toNat ss fs p d)) → BM mb (addAll [] (behL g.k.toNat ss fs p d)) w w') := Lib.hid fun w' h hm => ⟨hm, hG3.2.2.trans (h.low hw2 hw2 hG3.2.2.size)⟩
  replace hJe := Lib.hid hJe
  clear hM hM2 hS1' hS2' k1 k2 k3 k4 k5 k6 k7 k8 hG3 hSet c0 c1 c2 c3 c4 c5 y0 y1 x0 x1 hmb2 hz0 hdr
  generalize addAll [] (behL g.k.toNat ss fs p d) = J at *
  generalize tailL g.k.toNat ss (p.right.drop d) = T at *
  generalize lset (fs.getD jx []) = L at *
  obtain ⟨kk, hkn⟩ : ∃ kk : Nat, kk = g.k.toNat := ⟨_, rfl⟩
  rw [← hkn] at hJ hPl
  replace hkn := Lib.hid hkn
  go_cut [] (fun wx => BM mb J w wx)
  case first =>
    by_cases hdl : d < p.right.length
    · have hsd : (ints p.right)[d]? = some (.int .i64 (p.right.getD d 0)) := by simp [ints, hdl]
      obtain ⟨rb, roff, hRA, _, _⟩ := hx2.get hsd
      subst hRA
      have hcap : ¬ rc = d := by omega
      rw [if_neg hcap, show (some (⟨rb, roff, none⟩ : Addr)).map (·.add d) = some ⟨rb, roff + d, none⟩ by simp [Addr.add]] at hx2'
      have hT : Hid (∀ W', Below W1.heap.size W1 W' → Calls Tryz.prog 36 #[.agg #[.int .i64 g.k, .slice ta g.toks.length tc, .string g.sep, .slice na g.names.length nc, .int .i64 g.start, .slice (some ⟨b, off, none⟩) g.prods.length pc], .slice (some ⟨bo, 0, none⟩) g.names.length g.names.length, .slice (some ⟨rb, roff + d, none⟩) (p.right.length - d) (rc - d)] W' (RetL W' T)) :=
        Lib.hid fun W' hb => hT0.out (some ⟨rb, roff + d, none⟩) (p.right.length - d) (rc - d) hx2' W' hb
      clear hT0 hx2 hx2' hsd
      refine wp_region_held_drew (S := (fun w' => w'.cell? ⟨w.heap.size, 0, none⟩ = some (.int .i64 g.k) ∧ w'.cell? ⟨w.heap.size, 1, none⟩ = some (.slice ta g.toks.length tc) ∧ w'.cell? ⟨w.heap.size, 2, none⟩ = some (.string g.sep) ∧ w'.cell? ⟨w.heap.size, 3, none⟩ = some (.slice na g.names.length nc) ∧ w'.cell? ⟨w.heap.size, 4, none⟩ = some (.int .i64 g.start) ∧ w'.cell? ⟨w.heap.size, 5, none⟩ = some (.slice (some ⟨b, off, none⟩) g.prods.length pc) ∧
        w'.cell? ⟨b, off + i * 2, none⟩ = some (.int .i64 p.left) ∧ w'.cell? ⟨b, off + i * 2 + 1, none⟩ = some (.slice (some ⟨rb, roff, none⟩) p.right.length rc) ∧ w'.cell? ⟨fo, jx, none⟩ = some (.map (some mb2)) ∧ KX W1 mb mb w')) (by kernel_rfl) (hAll.out _ (KX.refl _ _ _).drew) (fun hHeld => ?_)
      refine wpAnyH_take (i := 0) (oi := ⟨some 47, _, _, _, _, _⟩) (v := ?va1) rfl (by kernel_rfl) (by kernel_rfl) (by kernel_rfl) (fun _ _ _ h => h) (Or.inl ⟨by rfl, ?hya1⟩) (by assumption) ?resta1
      case hya1 => (intro w hSw; (try dsimp only at hSw); go_simp <;> with_reducible rfl)
      try simp only [Act.put, List.setIfInBounds_toArray, List.set_cons_zero, List.set_cons_succ]
      refine wpAnyH_take (i := 1) (oi := ⟨some 48, _, _, _, _, _⟩) (v := ?va2) rfl (by kernel_rfl) (by kernel_rfl) (by kernel_rfl) (fun _ _ _ h => h) (Or.inl ⟨by rfl, ?hya2⟩) (by assumption) ?resta2
      case hya2 => (intro w hSw; (try dsimp only at hSw); go_simp <;> with_reducible rfl)
      try simp only [Act.put, List.setIfInBounds_toArray, List.set_cons_zero, List.set_cons_succ]
      refine wpAnyH_take (i := 2) (oi := ⟨some 49, _, _, _, _, _⟩) (v := ?va3) rfl (by kernel_rfl) (by kernel_rfl) (by kernel_rfl) (fun _ _ _ h => h) (Or.inl ⟨by rfl, ?hya3⟩) (by assumption) ?resta3
      case hya3 => (intro w hSw; (try dsimp only at hSw); go_simp <;> with_reducible rfl)
      try simp only [Act.put, List.setIfInBounds_toArray, List.set_cons_zero, List.set_cons_succ]
      refine wpAnyH_take (i := 3) (oi := ⟨some 50, _, _, _, _, _⟩) (v := ?va4) rfl (by kernel_rfl) (by kernel_rfl) (by kernel_rfl) (fun _ _ _ h => h) (Or.inl ⟨by rfl, ?hya4⟩) (by assumption) ?resta4
      case hya4 => (intro w hSw; (try dsimp only at hSw); go_simp <;> with_reducible rfl)
      try simp only [Act.put, List.setIfInBounds_toArray, List.set_cons_zero, List.set_cons_succ]
      refine wpAnyH_take (i := 4) (oi := ⟨some 51, _, _, _, _, _⟩) (v := ?va5) rfl (by kernel_rfl) (by kernel_rfl) (by kernel_rfl) (fun _ _ _ h => h) (Or.inl ⟨by rfl, ?hya5⟩) (by assumption) ?resta5
      case hya5 => (intro w hSw; (try dsimp only at hSw); go_simp <;> with_reducible rfl)
      try simp only [Act.put, List.setIfInBounds_toArray, List.set_cons_zero, List.set_cons_succ]
      refine wpAnyH_take (i := 5) (oi := ⟨some 52, _, _, _, _, _⟩) (v := ?va6) rfl (by kernel_rfl) (by kernel_rfl) (by kernel_rfl) (fun _ _ _ h => h) (Or.inl ⟨by rfl, ?hya6⟩) (by assumption) ?resta6
      case hya6 => (intro w hSw; (try dsimp only at hSw); go_simp <;> with_reducible rfl)
      try simp only [Act.put, List.setIfInBounds_toArray, List.set_cons_zero, List.set_cons_succ]
      refine wpAnyH_take (i := 6) (oi := ⟨some 53, _, _, _, _, _⟩) (v := ?va7) rfl (by kernel_rfl) (by kernel_rfl) (by kernel_rfl) (fun _ _ _ h => h) (Or.inl ⟨by rfl, ?hya7⟩) (by assumption) ?resta7
      case hya7 => (intro w hSw; (try dsimp only at hSw); go_simp <;> with_reducible rfl)
      try simp only [Act.put, List.setIfInBounds_toArray, List.set_cons_zero, List.set_cons_succ]
      refine wpAnyH_take (i := 7) (oi := ⟨some 54, _, _, _, _, _⟩) (v := ?va8) rfl (by kernel_rfl) (by kernel_rfl) (by kernel_rfl) (fun _ _ _ h => h) (Or.inl ⟨by rfl, ?hya8⟩) (by assumption) ?resta8
      case hya8 => (intro w hSw; (try dsimp only at hSw); go_simp <;> with_reducible rfl)
      try simp only [Act.put, List.setIfInBounds_toArray, List.set_cons_zero, List.set_cons_succ]
      refine wpAnyH_take (i := 8) (oi := ⟨some 55, _, _, _, _, _⟩) (v := ?va9) rfl (by kernel_rfl) (by kernel_rfl) (by kernel_rfl) (fun _ _ _ h => h) (Or.inl ⟨by rfl, ?hya9⟩) (by assumption) ?resta9
      case hya9 => (intro w hSw; (try dsimp only at hSw); go_simp <;> with_reducible rfl)
      try simp only [Act.put, List.setIfInBounds_toArray, List.set_cons_zero, List.set_cons_succ]
      refine wpAnyH_take (i := 9) (oi := ⟨some 56, _, _, _, _, _⟩) (v := ?va10) rfl (by kernel_rfl) (by kernel_rfl) (by kernel_rfl) (fun _ _ _ h => h) (Or.inl ⟨by rfl, ?hya10⟩) (by assumption) ?resta10
      case hya10 => (intro w hSw; (try dsimp only at hSw); go_simp <;> with_reducible rfl)
      try simp only [Act.put, List.setIfInBounds_toArray, List.set_cons_zero, List.set_cons_succ]
      refine wpAnyH_take (i := 10) (oi := ⟨some 57, _, _, _, _, _⟩) (v := ?va11) rfl (by kernel_rfl) (by kernel_rfl) (by kernel_rfl) (fun _ _ _ h => h) (Or.inl ⟨by rfl, ?hya11⟩) (by assumption) ?resta11
      case hya11 => (intro w hSw; (try dsimp only at hSw); go_simp <;> with_reducible rfl)
      try simp only [Act.put, List.setIfInBounds_toArray, List.set_cons_zero, List.set_cons_succ]
      refine wpAnyH_take (i := 12) (oi := ⟨some 59, _, _, _, _, _⟩) (v := ?va12) rfl (by kernel_rfl) (by kernel_rfl) (by kernel_rfl) (fun _ _ _ h => h) (Or.inl ⟨by rfl, ?hya12⟩) (by assumption) ?resta12
      case hya12 => (intro w hSw; (try dsimp only at hSw); go_simp <;> with_reducible rfl)
      try simp only [Act.put, List.setIfInBounds_toArray, List.set_cons_zero, List.set_cons_succ]
      refine wpAnyH_take (i := 13) (oi := ⟨some 60, _, _, _, _, _⟩) (v := ?va13) rfl (by kernel_rfl) (by kernel_rfl) (by kernel_rfl) (fun _ _ _ h => h) (Or.inl ⟨by rfl, ?hya13⟩) (by assumption) ?resta13
      case hya13 => (intro w hSw; (try dsimp only at hSw); go_simp <;> with_reducible rfl)
      try simp only [Act.put, List.setIfInBounds_toArray, List.set_cons_zero, List.set_cons_succ]
      refine wpAnyH_take (i := 14) (oi := ⟨some 61, _, _, _, _, _⟩) (v := ?va14) rfl (by kernel_rfl) (by kernel_rfl) (by kernel_rfl) (fun _ _ _ h => h) (Or.inl ⟨by rfl, ?hya14⟩) (by assumption) ?resta14
      case hya14 => (intro w hSw; (try dsimp only at hSw); go_simp <;> with_reducible rfl)
      try simp only [Act.put, List.setIfInBounds_toArray, List.set_cons_zero, List.set_cons_succ]
      refine wpAnyH_take (i := 15) (oi := ⟨some 62, _, _, _, _, _⟩) (v := ?va15) rfl (by kernel_rfl) (by kernel_rfl) (by kernel_rfl) (fun _ _ _ h => h) (Or.inl ⟨by rfl, ?hya15⟩) (by assumption) ?resta15
      case hya15 => (intro w hSw; (try dsimp only at hSw); go_simp <;> with_reducible rfl)
      try simp only [Act.put, List.setIfInBounds_toArray, List.set_cons_zero, List.set_cons_succ]
      refine wpAnyH_take (i := 16) (oi := ⟨some 63, _, _, _, _, _⟩) (v := ?va16) rfl (by kernel_rfl) (by kernel_rfl) (by kernel_rfl) (fun _ _ _ h => h) (Or.inl ⟨by rfl, ?hya16⟩) (by assumption) ?resta16
      case hya16 => (intro w hSw; (try dsimp only at hSw); go_simp <;> with_reducible rfl)
      try simp only [Act.put, List.setIfInBounds_toArray, List.set_cons_zero, List.set_cons_succ]
      refine wpAnyH_take (i := 17) (oi := ⟨some 64, _, _, _, _, _⟩) (v := ?va17) rfl (by kernel_rfl) (by kernel_rfl) (by kernel_rfl) (fun _ _ _ h => h) (Or.inl ⟨by rfl, ?hya17⟩) (by assumption) ?resta17
      case hya17 => (intro w hSw; (try dsimp only at hSw); go_simp <;> with_reducible rfl)
      try simp only [Act.put, List.setIfInBounds_toArray, List.set_cons_zero, List.set_cons_succ]
      refine wpAnyH_take (i := 18) (oi := ⟨some 65, _, _, _, _, _⟩) (v := ?va18) rfl (by kernel_rfl) (by kernel_rfl) (by kernel_rfl) (fun _ _ _ h => h) (Or.inl ⟨by rfl, ?hya18⟩) (by assumption) ?resta18
      case hya18 => (intro w hSw; (try dsimp only at hSw); go_simp <;> with_reducible rfl)
      try simp only [Act.put, List.setIfInBounds_toArray, List.set_cons_zero, List.set_cons_succ]
      refine wpAnyH_take (i := 19) (oi := ⟨some 66, _, _, _, _, _⟩) (v := ?va19) rfl (by kernel_rfl) (by kernel_rfl) (by kernel_rfl) (fun _ _ _ h => h) (Or.inl ⟨by rfl, ?hya19⟩) (by assumption) ?resta19
      case hya19 => (intro w hSw; (try dsimp only at hSw); go_simp <;> with_reducible rfl)
      try simp only [Act.put, List.setIfInBounds_toArray, List.set_cons_zero, List.set_cons_succ]
      refine wpAnyH_take (i := 20) (oi := ⟨some 67, _, _, _, _, _⟩) (v := ?va20) rfl (by kernel_rfl) (by kernel_rfl) (by kernel_rfl) (fun _ _ _ h => h) (Or.inl ⟨by rfl, ?hya20⟩) (by assumption) ?resta20
      case hya20 => (intro w hSw; (try dsimp only at hSw); go_simp <;> with_reducible rfl)
      try simp only [Act.put, List.setIfInBounds_toArray, List.set_cons_zero, List.set_cons_succ]
      refine wpAnyH_take (i := 21) (oi := ⟨some 68, _, _, _, _, _⟩) (v := ?va21) rfl (by kernel_rfl) (by kernel_rfl) (by kernel_rfl) (fun _ _ _ h => h) (Or.inl ⟨by rfl, ?hya21⟩) (by assumption) ?resta21
      case hya21 => (intro w hSw; (try dsimp only at hSw); go_simp <;> with_reducible rfl)
      try simp only [Act.put, List.setIfInBounds_toArray, List.set_cons_zero, List.set_cons_succ]
      refine wpAnyH_take (i := 23) (oi := ⟨some 70, _, _, _, _, _⟩) (v := ?va22) rfl (by kernel_rfl) (by kernel_rfl) (by kernel_rfl) (fun _ _ _ h => h) (Or.inl ⟨by rfl, ?hya22⟩) (by assumption) ?resta22
      case hya22 => (intro w hSw; (try dsimp only at hSw); go_simp <;> with_reducible rfl)
      try simp only [Act.put, List.setIfInBounds_toArray, List.set_cons_zero, List.set_cons_succ]
      refine wpAnyH_take (i := 24) (oi := ⟨some 71, _, _, _, _, _⟩) (v := ?va23) rfl (by kernel_rfl) (by kernel_rfl) (by kernel_rfl) (fun _ _ _ h => h) (Or.inl ⟨by rfl, ?hya23⟩) (by assumption) ?resta23
      case hya23 => (intro w hSw; (try dsimp only at hSw); go_simp <;> with_reducible rfl)
      try simp only [Act.put, List.setIfInBounds_toArray, List.set_cons_zero, List.set_cons_succ]
      refine wpAnyH_ready (rs := [11]) (by kernel_rfl) (by simp) ?_
      refine AllReadyH.cons (o := ⟨some 58, _, _, _, _, _⟩) rfl (fun K hK => ?_) ?_
      · go_simp
        go_at_call 36
        refine (hT.out _ (by repeat (first | assumption | exact Below.refl _ _ | (refine bStep ?_ (by assumption)) | (with_reducible refine bAlc ?_ _) | (with_reducible refine bDrw ?_)))).mono ?_
        rintro e w1 ⟨v1, rfl, ho1, hb1⟩
        obtain ⟨A1, k1, rfl, hd1, hk1, hmm1, hg1⟩ := ho1.reads
        go_wp2_with fail
        refine hK.out _ _ ?_ (fun hHeld => ?_)
        · (refine hAll.out _ ?_; repeat (first | exact KX.refl _ _ _ | (refine KX.grown ?_ (by assumption)) | (refine KX.step ?_ (by assumption)) | (with_reducible refine KX.alloc ?_ _) | (with_reducible refine KX.drew ?_)))
        clear hK K
        try simp only [Act.put, List.setIfInBounds_toArray, List.set_cons_zero, List.set_cons_succ]
        refine wpAnyH_ready (rs := [22]) (by kernel_rfl) (by simp) ?_
        refine AllReadyH.cons (o := ⟨some 69, _, _, _, _, _⟩) rfl (fun K hK => ?_) ?_
        · go_simp
          go_at_call 37
          refine (hSo.out _ (by repeat (first | assumption | exact Below.refl _ _ | (refine bStep ?_ (by assumption)) | (with_reducible refine bAlc ?_ _) | (with_reducible refine bDrw ?_)))).mono ?_
          rintro e w2 ⟨v2, rfl, ho2, hb2⟩
          obtain ⟨A2, k2, rfl, hd2, hk2, hmm2, hg2⟩ := ho2.reads
          go_wp2_with fail
          refine hK.out _ _ ?_ (fun hHeld => ?_)
          · (refine hAll.out _ ?_; repeat (first | exact KX.refl _ _ _ | (refine KX.grown ?_ (by assumption)) | (refine KX.step ?_ (by assumption)) | (with_reducible refine KX.alloc ?_ _) | (with_reducible refine KX.drew ?_)))
          clear hK K
          try simp only [Act.put, List.setIfInBounds_toArray, List.set_cons_zero, List.set_cons_succ]
          refine wpAnyH_ready (rs := [25]) (by kernel_rfl) (by simp) ?_
          refine AllReadyH.cons (o := ⟨some 72, _, _, _, _, _⟩) rfl (fun K hK => ?_) ?_
          · go_simp
            go_at_call 38
            refine (hPl.out _).mono ?_
            rintro e w3 ⟨Bk, rfl, p1, p2, p3, p4⟩
            go_wp2_with fail
            refine hK.out _ _ ?_ (fun hHeld => ?_)
            · (refine hAll.out _ ?_; repeat (first | exact KX.refl _ _ _ | (refine KX.grown ?_ (by assumption)) | (refine KX.step ?_ (by assumption)) | (with_reducible refine KX.alloc ?_ _) | (with_reducible refine KX.drew ?_)))
            clear hK K
            try simp only [Act.put, List.setIfInBounds_toArray, List.set_cons_zero, List.set_cons_succ]
            refine wpAnyH_ready (rs := [26]) (by kernel_rfl) (by simp) ?_
            refine AllReadyH.cons (o := ⟨some 73, _, _, _, _, _⟩) rfl (fun K hK => ?_) ?_
            · go_simp
              go_at_call 35
              refine (hJ.out A1 k1 A2 k2 Bk _ (by repeat (first | assumption | exact Below.refl _ _ | (refine bStep ?_ (by assumption)) | (with_reducible refine bAlc ?_ _) | (with_reducible refine bDrw ?_))) (rdl_to hd1 (by repeat (first | assumption | exact Below.refl _ _ | (refine bStep ?_ (by assumption)) | (with_reducible refine bAlc ?_ _) | (with_reducible refine bDrw ?_)))) (rdl_to hd2 (by repeat (first | assumption | exact Below.refl _ _ | (refine bStep ?_ (by assumption)) | (with_reducible refine bAlc ?_ _) | (with_reducible refine bDrw ?_)))) (cell_later (by repeat (first | assumption | exact Below.refl _ _ | (refine bStep ?_ (by assumption)) | (with_reducible refine bAlc ?_ _) | (with_reducible refine bDrw ?_))) p1) (bk_lt p3 (by repeat (first | assumption | exact Below.refl _ _ | (refine bStep ?_ (by assumption)) | (with_reducible refine bAlc ?_ _) | (with_reducible refine bDrw ?_))))).mono ?_
              rintro e w4 ⟨rfl, hM4, hg4⟩
              go_wp2_with fail
              refine hK.out _ _ ?_ (fun hHeld => ?_)
              · (refine hAll.out _ ?_; repeat (first | exact KX.refl _ _ _ | (refine KX.grown ?_ (by assumption)) | (refine KX.step ?_ (by assumption)) | (with_reducible refine KX.alloc ?_ _) | (with_reducible refine KX.drew ?_)))
              clear hK K
              try simp only [Act.put, List.setIfInBounds_toArray, List.set_cons_zero, List.set_cons_succ]
              refine wpAnyH_done (by kernel_rfl) ?_ _
              go_wp2_with fail
              go_meet
              exact hEnd.out _ (by repeat (first | exact KX.refl _ _ _ | (refine KX.grown ?_ (by assumption)) | (refine KX.step ?_ (by assumption)) | (with_reducible refine KX.alloc ?_ _) | (with_reducible refine KX.drew ?_))) hM4
            exact AllReadyH.nil
          exact AllReadyH.nil
        exact AllReadyH.nil
      exact AllReadyH.nil
    · have hde : d = p.right.length := by omega
      have hT : Hid (∀ W' SA sn sc, sn = 0 → Below W1.heap.size W1 W' → Calls Tryz.prog 36 #[.agg #[.int .i64 g.k, .slice ta g.toks.length tc, .string g.sep, .slice na g.names.length nc, .int .i64 g.start, .slice (some ⟨b, off, none⟩) g.prods.length pc], .slice (some ⟨bo, 0, none⟩) g.names.length g.names.length, .slice SA sn sc] W' (RetL W' T)) :=
        Lib.hid fun W' SA sn sc h0 hb => by
          subst h0
          refine hT0.out SA 0 sc ?_ W' hb
          rw [hde, List.drop_length]
          exact ⟨rfl, .inl rfl⟩
      clear hT0 hx2 hx2'
      subst hde
      by_cases hcap : rc = p.right.length
      · refine wp_region_held_drew (S := (fun w' => w'.cell? ⟨w.heap.size, 0, none⟩ = some (.int .i64 g.k) ∧ w'.cell? ⟨w.heap.size, 1, none⟩ = some (.slice ta g.toks.length tc) ∧ w'.cell? ⟨w.heap.size, 2, none⟩ = some (.string g.sep) ∧ w'.cell? ⟨w.heap.size, 3, none⟩ = some (.slice na g.names.length nc) ∧ w'.cell? ⟨w.heap.size, 4, none⟩ = some (.int .i64 g.start) ∧ w'.cell? ⟨w.heap.size, 5, none⟩ = some (.slice (some ⟨b, off, none⟩) g.prods.length pc) ∧
          w'.cell? ⟨b, off + i * 2, none⟩ = some (.int .i64 p.left) ∧ w'.cell? ⟨b, off + i * 2 + 1, none⟩ = some (.slice RA p.right.length rc) ∧ w'.cell? ⟨fo, jx, none⟩ = some (.map (some mb2)) ∧ KX W1 mb mb w')) (by kernel_rfl) (hAll.out _ (KX.refl _ _ _).drew) (fun hHeld => ?_)
        refine wpAnyH_take (i := 0) (oi := ⟨some 47, _, _, _, _, _⟩) (v := ?vb1) rfl (by kernel_rfl) (by kernel_rfl) (by kernel_rfl) (fun _ _ _ h => h) (Or.inl ⟨by rfl, ?hyb1⟩) (by assumption) ?restb1
        case hyb1 => (intro w hSw; (try dsimp only at hSw); go_simp <;> with_reducible rfl)
        try simp only [Act.put, List.setIfInBounds_toArray, List.set_cons_zero, List.set_cons_succ]
        refine wpAnyH_take (i := 1) (oi := ⟨some 48, _, _, _, _, _⟩) (v := ?vb2) rfl (by kernel_rfl) (by kernel_rfl) (by kernel_rfl) (fun _ _ _ h => h) (Or.inl ⟨by rfl, ?hyb2⟩) (by assumption) ?restb2
        case hyb2 => (intro w hSw; (try dsimp only at hSw); go_simp <;> with_reducible rfl)
        try simp only [Act.put, List.setIfInBounds_toArray, List.set_cons_zero, List.set_cons_succ]
        refine wpAnyH_take (i := 2) (oi := ⟨some 49, _, _, _, _, _⟩) (v := ?vb3) rfl (by kernel_rfl) (by kernel_rfl) (by kernel_rfl) (fun _ _ _ h => h) (Or.inl ⟨by rfl, ?hyb3⟩) (by assumption) ?restb3
        case hyb3 => (intro w hSw; (try dsimp only at hSw); go_simp <;> with_reducible rfl)
        try simp only [Act.put, List.setIfInBounds_toArray, List.set_cons_zero, List.set_cons_succ]
        refine wpAnyH_take (i := 3) (oi := ⟨some 50, _, _, _, _, _⟩) (v := ?vb4) rfl (by kernel_rfl) (by kernel_rfl) (by kernel_rfl) (fun _ _ _ h => h) (Or.inl ⟨by rfl, ?hyb4⟩) (by assumption) ?restb4
        case hyb4 => (intro w hSw; (try dsimp only at hSw); go_simp <;> with_reducible rfl)
        try simp only [Act.put, List.setIfInBounds_toArray, List.set_cons_zero, List.set_cons_succ]
        refine wpAnyH_take (i := 4) (oi := ⟨some 51, _, _, _, _, _⟩) (v := ?vb5) rfl (by kernel_rfl) (by kernel_rfl) (by kernel_rfl) (fun _ _ _ h => h) (Or.inl ⟨by rfl, ?hyb5⟩) (by assumption) ?restb5
        case hyb5 => (intro w hSw; (try dsimp only at hSw); go_simp <;> with_reducible rfl)
        try simp only [Act.put, List.setIfInBounds_toArray, List.set_cons_zero, List.set_cons_succ]
        refine wpAnyH_take (i := 5) (oi := ⟨some 52, _, _, _, _, _⟩) (v := ?vb6) rfl (by kernel_rfl) (by kernel_rfl) (by kernel_rfl) (fun _ _ _ h => h) (Or.inl ⟨by rfl, ?hyb6⟩) (by assumption) ?restb6
        case hyb6 => (intro w hSw; (try dsimp only at hSw); go_simp <;> with_reducible rfl)
        try simp only [Act.put, List.setIfInBounds_toArray, List.set_cons_zero, List.set_cons_succ]
        refine wpAnyH_take (i := 6) (oi := ⟨some 53, _, _, _, _, _⟩) (v := ?vb7) rfl (by kernel_rfl) (by kernel_rfl) (by kernel_rfl) (fun _ _ _ h => h) (Or.inl ⟨by rfl, ?hyb7⟩) (by assumption) ?restb7
        case hyb7 => (intro w hSw; (try dsimp only at hSw); go_simp <;> with_reducible rfl)
        try simp only [Act.put, List.setIfInBounds_toArray, List.set_cons_zero, List.set_cons_succ]
        refine wpAnyH_take (i := 7) (oi := ⟨some 54, _, _, _, _, _⟩) (v := ?vb8) rfl (by kernel_rfl) (by kernel_rfl) (by kernel_rfl) (fun _ _ _ h => h) (Or.inl ⟨by rfl, ?hyb8⟩) (by assumption) ?restb8
        case hyb8 => (intro w hSw; (try dsimp only at hSw); go_simp <;> with_reducible rfl)
        try simp only [Act.put, List.setIfInBounds_toArray, List.set_cons_zero, List.set_cons_succ]
        refine wpAnyH_take (i := 8) (oi := ⟨some 55, _, _, _, _, _⟩) (v := ?vb9) rfl (by kernel_rfl) (by kernel_rfl) (by kernel_rfl) (fun _ _ _ h => h) (Or.inl ⟨by rfl, ?hyb9⟩) (by assumption) ?restb9
        case hyb9 => (intro w hSw; (try dsimp only at hSw); go_simp <;> with_reducible rfl)
        try simp only [Act.put, List.setIfInBounds_toArray, List.set_cons_zero, List.set_cons_succ]
        refine wpAnyH_take (i := 9) (oi := ⟨some 56, _, _, _, _, _⟩) (v := ?vb10) rfl (by kernel_rfl) (by kernel_rfl) (by kernel_rfl) (fun _ _ _ h => h) (Or.inl ⟨by rfl, ?hyb10⟩) (by assumption) ?restb10
        case hyb10 => (intro w hSw; (try dsimp only at hSw); go_simp <;> with_reducible rfl)
        try simp only [Act.put, List.setIfInBounds_toArray, List.set_cons_zero, List.set_cons_succ]
        refine wpAnyH_take (i := 10) (oi := ⟨some 57, _, _, _, _, _⟩) (v := ?vb11) rfl (by kernel_rfl) (by kernel_rfl) (by kernel_rfl) (fun _ _ _ h => h) (Or.inl ⟨by rfl, ?hyb11⟩) (by assumption) ?restb11
        case hyb11 => (intro w hSw; (try dsimp only at hSw); go_simp <;> with_reducible rfl)
        try simp only [Act.put, List.setIfInBounds_toArray, List.set_cons_zero, List.set_cons_succ]
        refine wpAnyH_take (i := 12) (oi := ⟨some 59, _, _, _, _, _⟩) (v := ?vb12) rfl (by kernel_rfl) (by kernel_rfl) (by kernel_rfl) (fun _ _ _ h => h) (Or.inl ⟨by rfl, ?hyb12⟩) (by assumption) ?restb12
        case hyb12 => (intro w hSw; (try dsimp only at hSw); go_simp <;> with_reducible rfl)
        try simp only [Act.put, List.setIfInBounds_toArray, List.set_cons_zero, List.set_cons_succ]
        refine wpAnyH_take (i := 13) (oi := ⟨some 60, _, _, _, _, _⟩) (v := ?vb13) rfl (by kernel_rfl) (by kernel_rfl) (by kernel_rfl) (fun _ _ _ h => h) (Or.inl ⟨by rfl, ?hyb13⟩) (by assumption) ?restb13
        case hyb13 => (intro w hSw; (try dsimp only at hSw); go_simp <;> with_reducible rfl)
        try simp only [Act.put, List.setIfInBounds_toArray, List.set_cons_zero, List.set_cons_succ]
        refine wpAnyH_take (i := 14) (oi := ⟨some 61, _, _, _, _, _⟩) (v := ?vb14) rfl (by kernel_rfl) (by kernel_rfl) (by kernel_rfl) (fun _ _ _ h => h) (Or.inl ⟨by rfl, ?hyb14⟩) (by assumption) ?restb14
        case hyb14 => (intro w hSw; (try dsimp only at hSw); go_simp <;> with_reducible rfl)
        try simp only [Act.put, List.setIfInBounds_toArray, List.set_cons_zero, List.set_cons_succ]
        refine wpAnyH_take (i := 15) (oi := ⟨some 62, _, _, _, _, _⟩) (v := ?vb15) rfl (by kernel_rfl) (by kernel_rfl) (by kernel_rfl) (fun _ _ _ h => h) (Or.inl ⟨by rfl, ?hyb15⟩) (by assumption) ?restb15
        case hyb15 => (intro w hSw; (try dsimp only at hSw); go_simp <;> with_reducible rfl)
        try simp only [Act.put, List.setIfInBounds_toArray, List.set_cons_zero, List.set_cons_succ]
        refine wpAnyH_take (i := 16) (oi := ⟨some 63, _, _, _, _, _⟩) (v := ?vb16) rfl (by kernel_rfl) (by kernel_rfl) (by kernel_rfl) (fun _ _ _ h => h) (Or.inl ⟨by rfl, ?hyb16⟩) (by assumption) ?restb16
        case hyb16 => (intro w hSw; (try dsimp only at hSw); go_simp <;> with_reducible rfl)
        try simp only [Act.put, List.setIfInBounds_toArray, List.set_cons_zero, List.set_cons_succ]
        refine wpAnyH_take (i := 17) (oi := ⟨some 64, _, _, _, _, _⟩) (v := ?vb17) rfl (by kernel_rfl) (by kernel_rfl) (by kernel_rfl) (fun _ _ _ h => h) (Or.inl ⟨by rfl, ?hyb17⟩) (by assumption) ?restb17
        case hyb17 => (intro w hSw; (try dsimp only at hSw); go_simp <;> with_reducible rfl)
        try simp only [Act.put, List.setIfInBounds_toArray, List.set_cons_zero, List.set_cons_succ]
        refine wpAnyH_take (i := 18) (oi := ⟨some 65, _, _, _, _, _⟩) (v := ?vb18) rfl (by kernel_rfl) (by kernel_rfl) (by kernel_rfl) (fun _ _ _ h => h) (Or.inl ⟨by rfl, ?hyb18⟩) (by assumption) ?restb18
        case hyb18 => (intro w hSw; (try dsimp only at hSw); go_simp <;> with_reducible rfl)
        try simp only [Act.put, List.setIfInBounds_toArray, List.set_cons_zero, List.set_cons_succ]
        refine wpAnyH_take (i := 19) (oi := ⟨some 66, _, _, _, _, _⟩) (v := ?vb19) rfl (by kernel_rfl) (by kernel_rfl) (by kernel_rfl) (fun _ _ _ h => h) (Or.inl ⟨by rfl, ?hyb19⟩) (by assumption) ?restb19
        case hyb19 => (intro w hSw; (try dsimp only at hSw); go_simp <;> with_reducible rfl)
        try simp only [Act.put, List.setIfInBounds_toArray, List.set_cons_zero, List.set_cons_succ]
        refine wpAnyH_take (i := 20) (oi := ⟨some 67, _, _, _, _, _⟩) (v := ?vb20) rfl (by kernel_rfl) (by kernel_rfl) (by kernel_rfl) (fun _ _ _ h => h) (Or.inl ⟨by rfl, ?hyb20⟩) (by assumption) ?restb20
        case hyb20 => (intro w hSw; (try dsimp only at hSw); go_simp <;> with_reducible rfl)
        try simp only [Act.put, List.setIfInBounds_toArray, List.set_cons_zero, List.set_cons_succ]
        refine wpAnyH_take (i := 21) (oi := ⟨some 68, _, _, _, _, _⟩) (v := ?vb21) rfl (by kernel_rfl) (by kernel_rfl) (by kernel_rfl) (fun _ _ _ h => h) (Or.inl ⟨by rfl, ?hyb21⟩) (by assumption) ?restb21
        case hyb21 => (intro w hSw; (try dsimp only at hSw); go_simp <;> with_reducible rfl)
        try simp only [Act.put, List.setIfInBounds_toArray, List.set_cons_zero, List.set_cons_succ]
        refine wpAnyH_take (i := 23) (oi := ⟨some 70, _, _, _, _, _⟩) (v := ?vb22) rfl (by kernel_rfl) (by kernel_rfl) (by kernel_rfl) (fun _ _ _ h => h) (Or.inl ⟨by rfl, ?hyb22⟩) (by assumption) ?restb22
        case hyb22 => (intro w hSw; (try dsimp only at hSw); go_simp <;> with_reducible rfl)
        try simp only [Act.put, List.setIfInBounds_toArray, List.set_cons_zero, List.set_cons_succ]
        refine wpAnyH_take (i := 24) (oi := ⟨some 71, _, _, _, _, _⟩) (v := ?vb23) rfl (by kernel_rfl) (by kernel_rfl) (by kernel_rfl) (fun _ _ _ h => h) (Or.inl ⟨by rfl, ?hyb23⟩) (by assumption) ?restb23
        case hyb23 => (intro w hSw; (try dsimp only at hSw); go_simp <;> with_reducible rfl)
        try simp only [Act.put, List.setIfInBounds_toArray, List.set_cons_zero, List.set_cons_succ]
        refine wpAnyH_ready (rs := [11]) (by kernel_rfl) (by simp) ?_
        refine AllReadyH.cons (o := ⟨some 58, _, _, _, _, _⟩) rfl (fun K hK => ?_) ?_
        · go_simp
          go_at_call 36
          refine (hT.out _ _ _ _ (by first | rfl | omega) (by repeat (first | assumption | exact Below.refl _ _ | (refine bStep ?_ (by assumption)) | (with_reducible refine bAlc ?_ _) | (with_reducible refine bDrw ?_)))).mono ?_
          rintro e w1 ⟨v1, rfl, ho1, hb1⟩
          obtain ⟨A1, k1, rfl, hd1, hk1, hmm1, hg1⟩ := ho1.reads
          go_wp2_with fail
          refine hK.out _ _ ?_ (fun hHeld => ?_)
          · (refine hAll.out _ ?_; repeat (first | exact KX.refl _ _ _ | (refine KX.grown ?_ (by assumption)) | (refine KX.step ?_ (by assumption)) | (with_reducible refine KX.alloc ?_ _) | (with_reducible refine KX.drew ?_)))
          clear hK K
          try simp only [Act.put, List.setIfInBounds_toArray, List.set_cons_zero, List.set_cons_succ]
          refine wpAnyH_ready (rs := [22]) (by kernel_rfl) (by simp) ?_
          refine AllReadyH.cons (o := ⟨some 69, _, _, _, _, _⟩) rfl (fun K hK => ?_) ?_
          · go_simp
            go_at_call 37
            refine (hSo.out _ (by repeat (first | assumption | exact Below.refl _ _ | (refine bStep ?_ (by assumption)) | (with_reducible refine bAlc ?_ _) | (with_reducible refine bDrw ?_)))).mono ?_
            rintro e w2 ⟨v2, rfl, ho2, hb2⟩
            obtain ⟨A2, k2, rfl, hd2, hk2, hmm2, hg2⟩ := ho2.reads
            go_wp2_with fail
            refine hK.out _ _ ?_ (fun hHeld => ?_)
            · (refine hAll.out _ ?_; repeat (first | exact KX.refl _ _ _ | (refine KX.grown ?_ (by assumption)) | (refine KX.step ?_ (by assumption)) | (with_reducible refine KX.alloc ?_ _) | (with_reducible refine KX.drew ?_)))
            clear hK K
            try simp only [Act.put, List.setIfInBounds_toArray, List.set_cons_zero, List.set_cons_succ]
            refine wpAnyH_ready (rs := [25]) (by kernel_rfl) (by simp) ?_
            refine AllReadyH.cons (o := ⟨some 72, _, _, _, _, _⟩) rfl (fun K hK => ?_) ?_
            · go_simp
              go_at_call 38
              refine (hPl.out _).mono ?_
              rintro e w3 ⟨Bk, rfl, p1, p2, p3, p4⟩
              go_wp2_with fail
              refine hK.out _ _ ?_ (fun hHeld => ?_)
              · (refine hAll.out _ ?_; repeat (first | exact KX.refl _ _ _ | (refine KX.grown ?_ (by assumption)) | (refine KX.step ?_ (by assumption)) | (with_reducible refine KX.alloc ?_ _) | (with_reducible refine KX.drew ?_)))
              clear hK K
              try simp only [Act.put, List.setIfInBounds_toArray, List.set_cons_zero, List.set_cons_succ]
              refine wpAnyH_ready (rs := [26]) (by kernel_rfl) (by simp) ?_
              refine AllReadyH.cons (o := ⟨some 73, _, _, _, _, _⟩) rfl (fun K hK => ?_) ?_
              · go_simp
                go_at_call 35
                refine (hJ.out A1 k1 A2 k2 Bk _ (by repeat (first | assumption | exact Below.refl _ _ | (refine bStep ?_ (by assumption)) | (with_reducible refine bAlc ?_ _) | (with_reducible refine bDrw ?_))) (rdl_to hd1 (by repeat (first | assumption | exact Below.refl _ _ | (refine bStep ?_ (by assumption)) | (with_reducible refine bAlc ?_ _) | (with_reducible refine bDrw ?_)))) (rdl_to hd2 (by repeat (first | assumption | exact Below.refl _ _ | (refine bStep ?_ (by assumption)) | (with_reducible refine bAlc ?_ _) | (with_reducible refine bDrw ?_)))) (cell_later (by repeat (first | assumption | exact Below.refl _ _ | (refine bStep ?_ (by assumption)) | (with_reducible refine bAlc ?_ _) | (with_reducible refine bDrw ?_))) p1) (bk_lt p3 (by repeat (first | assumption | exact Below.refl _ _ | (refine bStep ?_ (by assumption)) | (with_reducible refine bAlc ?_ _) | (with_reducible refine bDrw ?_))))).mono ?_
                rintro e w4 ⟨rfl, hM4, hg4⟩
                go_wp2_with fail
                refine hK.out _ _ ?_ (fun hHeld => ?_)
                · (refine hAll.out _ ?_; repeat (first | exact KX.refl _ _ _ | (refine KX.grown ?_ (by assumption)) | (refine KX.step ?_ (by assumption)) | (with_reducible refine KX.alloc ?_ _) | (with_reducible refine KX.drew ?_)))
                clear hK K
                try simp only [Act.put, List.setIfInBounds_toArray, List.set_cons_zero, List.set_cons_succ]
                refine wpAnyH_done (by kernel_rfl) ?_ _
                go_wp2_with fail
                go_meet
                exact hEnd.out _ (by repeat (first | exact KX.refl _ _ _ | (refine KX.grown ?_ (by assumption)) | (refine KX.step ?_ (by assumption)) | (with_reducible refine KX.alloc ?_ _) | (with_reducible refine KX.drew ?_))) hM4
              exact AllReadyH.nil
            exact AllReadyH.nil
          exact AllReadyH.nil
        exact AllReadyH.nil
      · refine wp_region_held_drew (S := (fun w' => w'.cell? ⟨w.heap.size, 0, none⟩ = some (.int .i64 g.k) ∧ w'.cell? ⟨w.heap.size, 1, none⟩ = some (.slice ta g.toks.length tc) ∧ w'.cell? ⟨w.heap.size, 2, none⟩ = some (.string g.sep) ∧ w'.cell? ⟨w.heap.size, 3, none⟩ = some (.slice na g.names.length nc) ∧ w'.cell? ⟨w.heap.size, 4, none⟩ = some (.int .i64 g.start) ∧ w'.cell? ⟨w.heap.size, 5, none⟩ = some (.slice (some ⟨b, off, none⟩) g.prods.length pc) ∧
          w'.cell? ⟨b, off + i * 2, none⟩ = some (.int .i64 p.left) ∧ w'.cell? ⟨b, off + i * 2 + 1, none⟩ = some (.slice RA p.right.length rc) ∧ w'.cell? ⟨fo, jx, none⟩ = some (.map (some mb2)) ∧ KX W1 mb mb w')) (by kernel_rfl) (hAll.out _ (KX.refl _ _ _).drew) (fun hHeld => ?_)
        refine wpAnyH_take (i := 0) (oi := ⟨some 47, _, _, _, _, _⟩) (v := ?vc1) rfl (by kernel_rfl) (by kernel_rfl) (by kernel_rfl) (fun _ _ _ h => h) (Or.inl ⟨by rfl, ?hyc1⟩) (by assumption) ?restc1
        case hyc1 => (intro w hSw; (try dsimp only at hSw); go_simp <;> with_reducible rfl)
        try simp only [Act.put, List.setIfInBounds_toArray, List.set_cons_zero, List.set_cons_succ]
        refine wpAnyH_take (i := 1) (oi := ⟨some 48, _, _, _, _, _⟩) (v := ?vc2) rfl (by kernel_rfl) (by kernel_rfl) (by kernel_rfl) (fun _ _ _ h => h) (Or.inl ⟨by rfl, ?hyc2⟩) (by assumption) ?restc2
        case hyc2 => (intro w hSw; (try dsimp only at hSw); go_simp <;> with_reducible rfl)
        try simp only [Act.put, List.setIfInBounds_toArray, List.set_cons_zero, List.set_cons_succ]
        refine wpAnyH_take (i := 2) (oi := ⟨some 49, _, _, _, _, _⟩) (v := ?vc3) rfl (by kernel_rfl) (by kernel_rfl) (by kernel_rfl) (fun _ _ _ h => h) (Or.inl ⟨by rfl, ?hyc3⟩) (by assumption) ?restc3
        case hyc3 => (intro w hSw; (try dsimp only at hSw); go_simp <;> with_reducible rfl)
        try simp only [Act.put, List.setIfInBounds_toArray, List.set_cons_zero, List.set_cons_succ]
        refine wpAnyH_take (i := 3) (oi := ⟨some 50, _, _, _, _, _⟩) (v := ?vc4) rfl (by kernel_rfl) (by kernel_rfl) (by kernel_rfl) (fun _ _ _ h => h) (Or.inl ⟨by rfl, ?hyc4⟩) (by assumption) ?restc4
        case hyc4 => (intro w hSw; (try dsimp only at hSw); go_simp <;> with_reducible rfl)
        try simp only [Act.put, List.setIfInBounds_toArray, List.set_cons_zero, List.set_cons_succ]
        refine wpAnyH_take (i := 4) (oi := ⟨some 51, _, _, _, _, _⟩) (v := ?vc5) rfl (by kernel_rfl) (by kernel_rfl) (by kernel_rfl) (fun _ _ _ h => h) (Or.inl ⟨by rfl, ?hyc5⟩) (by assumption) ?restc5
        case hyc5 => (intro w hSw; (try dsimp only at hSw); go_simp <;> with_reducible rfl)
        try simp only [Act.put, List.setIfInBounds_toArray, List.set_cons_zero, List.set_cons_succ]
        refine wpAnyH_take (i := 5) (oi := ⟨some 52, _, _, _, _, _⟩) (v := ?vc6) rfl (by kernel_rfl) (by kernel_rfl) (by kernel_rfl) (fun _ _ _ h => h) (Or.inl ⟨by rfl, ?hyc6⟩) (by assumption) ?restc6
        case hyc6 => (intro w hSw; (try dsimp only at hSw); go_simp <;> with_reducible rfl)
        try simp only [Act.put, List.setIfInBounds_toArray, List.set_cons_zero, List.set_cons_succ]
        refine wpAnyH_take (i := 6) (oi := ⟨some 53, _, _, _, _, _⟩) (v := ?vc7) rfl (by kernel_rfl) (by kernel_rfl) (by kernel_rfl) (fun _ _ _ h => h) (Or.inl ⟨by rfl, ?hyc7⟩) (by assumption) ?restc7
        case hyc7 => (intro w hSw; (try dsimp only at hSw); go_simp <;> with_reducible rfl)
        try simp only [Act.put, List.setIfInBounds_toArray, List.set_cons_zero, List.set_cons_succ]
        refine wpAnyH_take (i := 7) (oi := ⟨some 54, _, _, _, _, _⟩) (v := ?vc8) rfl (by kernel_rfl) (by kernel_rfl) (by kernel_rfl) (fun _ _ _ h => h) (Or.inl ⟨by rfl, ?hyc8⟩) (by assumption) ?restc8
        case hyc8 => (intro w hSw; (try dsimp only at hSw); go_simp <;> with_reducible rfl)
        try simp only [Act.put, List.setIfInBounds_toArray, List.set_cons_zero, List.set_cons_succ]
        refine wpAnyH_take (i := 8) (oi := ⟨some 55, _, _, _, _, _⟩) (v := ?vc9) rfl (by kernel_rfl) (by kernel_rfl) (by kernel_rfl) (fun _ _ _ h => h) (Or.inl ⟨by rfl, ?hyc9⟩) (by assumption) ?restc9
        case hyc9 => (intro w hSw; (try dsimp only at hSw); go_simp <;> with_reducible rfl)
        try simp only [Act.put, List.setIfInBounds_toArray, List.set_cons_zero, List.set_cons_succ]
        refine wpAnyH_take (i := 9) (oi := ⟨some 56, _, _, _, _, _⟩) (v := ?vc10) rfl (by kernel_rfl) (by kernel_rfl) (by kernel_rfl) (fun _ _ _ h => h) (Or.inl ⟨by rfl, ?hyc10⟩) (by assumption) ?restc10
        case hyc10 => (intro w hSw; (try dsimp only at hSw); go_simp <;> with_reducible rfl)
        try simp only [Act.put, List.setIfInBounds_toArray, List.set_cons_zero, List.set_cons_succ]
        refine wpAnyH_take (i := 10) (oi := ⟨some 57, _, _, _, _, _⟩) (v := ?vc11) rfl (by kernel_rfl) (by kernel_rfl) (by kernel_rfl) (fun _ _ _ h => h) (Or.inl ⟨by rfl, ?hyc11⟩) (by assumption) ?restc11
        case hyc11 => (intro w hSw; (try dsimp only at hSw); go_simp <;> with_reducible rfl)
        try simp only [Act.put, List.setIfInBounds_toArray, List.set_cons_zero, List.set_cons_succ]
        refine wpAnyH_take (i := 12) (oi := ⟨some 59, _, _, _, _, _⟩) (v := ?vc12) rfl (by kernel_rfl) (by kernel_rfl) (by kernel_rfl) (fun _ _ _ h => h) (Or.inl ⟨by rfl, ?hyc12⟩) (by assumption) ?restc12
        case hyc12 => (intro w hSw; (try dsimp only at hSw); go_simp <;> with_reducible rfl)
        try simp only [Act.put, List.setIfInBounds_toArray, List.set_cons_zero, List.set_cons_succ]
        refine wpAnyH_take (i := 13) (oi := ⟨some 60, _, _, _, _, _⟩) (v := ?vc13) rfl (by kernel_rfl) (by kernel_rfl) (by kernel_rfl) (fun _ _ _ h => h) (Or.inl ⟨by rfl, ?hyc13⟩) (by assumption) ?restc13
        case hyc13 => (intro w hSw; (try dsimp only at hSw); go_simp <;> with_reducible rfl)
        try simp only [Act.put, List.setIfInBounds_toArray, List.set_cons_zero, List.set_cons_succ]
        refine wpAnyH_take (i := 14) (oi := ⟨some 61, _, _, _, _, _⟩) (v := ?vc14) rfl (by kernel_rfl) (by kernel_rfl) (by kernel_rfl) (fun _ _ _ h => h) (Or.inl ⟨by rfl, ?hyc14⟩) (by assumption) ?restc14
        case hyc14 => (intro w hSw; (try dsimp only at hSw); go_simp <;> with_reducible rfl)
        try simp only [Act.put, List.setIfInBounds_toArray, List.set_cons_zero, List.set_cons_succ]
        refine wpAnyH_take (i := 15) (oi := ⟨some 62, _, _, _, _, _⟩) (v := ?vc15) rfl (by kernel_rfl) (by kernel_rfl) (by kernel_rfl) (fun _ _ _ h => h) (Or.inl ⟨by rfl, ?hyc15⟩) (by assumption) ?restc15
        case hyc15 => (intro w hSw; (try dsimp only at hSw); go_simp <;> with_reducible rfl)
        try simp only [Act.put, List.setIfInBounds_toArray, List.set_cons_zero, List.set_cons_succ]
        refine wpAnyH_take (i := 16) (oi := ⟨some 63, _, _, _, _, _⟩) (v := ?vc16) rfl (by kernel_rfl) (by kernel_rfl) (by kernel_rfl) (fun _ _ _ h => h) (Or.inl ⟨by rfl, ?hyc16⟩) (by assumption) ?restc16
        case hyc16 => (intro w hSw; (try dsimp only at hSw); go_simp <;> with_reducible rfl)
        try simp only [Act.put, List.setIfInBounds_toArray, List.set_cons_zero, List.set_cons_succ]
        refine wpAnyH_take (i := 17) (oi := ⟨some 64, _, _, _, _, _⟩) (v := ?vc17) rfl (by kernel_rfl) (by kernel_rfl) (by kernel_rfl) (fun _ _ _ h => h) (Or.inl ⟨by rfl, ?hyc17⟩) (by assumption) ?restc17
        case hyc17 => (intro w hSw; (try dsimp only at hSw); go_simp <;> with_reducible rfl)
        try simp only [Act.put, List.setIfInBounds_toArray, List.set_cons_zero, List.set_cons_succ]
        refine wpAnyH_take (i := 18) (oi := ⟨some 65, _, _, _, _, _⟩) (v := ?vc18) rfl (by kernel_rfl) (by kernel_rfl) (by kernel_rfl) (fun _ _ _ h => h) (Or.inl ⟨by rfl, ?hyc18⟩) (by assumption) ?restc18
        case hyc18 => (intro w hSw; (try dsimp only at hSw); go_simp <;> with_reducible rfl)
        try simp only [Act.put, List.setIfInBounds_toArray, List.set_cons_zero, List.set_cons_succ]
        refine wpAnyH_take (i := 19) (oi := ⟨some 66, _, _, _, _, _⟩) (v := ?vc19) rfl (by kernel_rfl) (by kernel_rfl) (by kernel_rfl) (fun _ _ _ h => h) (Or.inl ⟨by rfl, ?hyc19⟩) (by assumption) ?restc19
        case hyc19 => (intro w hSw; (try dsimp only at hSw); go_simp <;> with_reducible rfl)
        try simp only [Act.put, List.setIfInBounds_toArray, List.set_cons_zero, List.set_cons_succ]
        refine wpAnyH_take (i := 20) (oi := ⟨some 67, _, _, _, _, _⟩) (v := ?vc20) rfl (by kernel_rfl) (by kernel_rfl) (by kernel_rfl) (fun _ _ _ h => h) (Or.inl ⟨by rfl, ?hyc20⟩) (by assumption) ?restc20
        case hyc20 => (intro w hSw; (try dsimp only at hSw); go_simp <;> with_reducible rfl)
        try simp only [Act.put, List.setIfInBounds_toArray, List.set_cons_zero, List.set_cons_succ]
        refine wpAnyH_take (i := 21) (oi := ⟨some 68, _, _, _, _, _⟩) (v := ?vc21) rfl (by kernel_rfl) (by kernel_rfl) (by kernel_rfl) (fun _ _ _ h => h) (Or.inl ⟨by rfl, ?hyc21⟩) (by assumption) ?restc21
        case hyc21 => (intro w hSw; (try dsimp only at hSw); go_simp <;> with_reducible rfl)
        try simp only [Act.put, List.setIfInBounds_toArray, List.set_cons_zero, List.set_cons_succ]
        refine wpAnyH_take (i := 23) (oi := ⟨some 70, _, _, _, _, _⟩) (v := ?vc22) rfl (by kernel_rfl) (by kernel_rfl) (by kernel_rfl) (fun _ _ _ h => h) (Or.inl ⟨by rfl, ?hyc22⟩) (by assumption) ?restc22
        case hyc22 => (intro w hSw; (try dsimp only at hSw); go_simp <;> with_reducible rfl)
        try simp only [Act.put, List.setIfInBounds_toArray, List.set_cons_zero, List.set_cons_succ]
        refine wpAnyH_take (i := 24) (oi := ⟨some 71, _, _, _, _, _⟩) (v := ?vc23) rfl (by kernel_rfl) (by kernel_rfl) (by kernel_rfl) (fun _ _ _ h => h) (Or.inl ⟨by rfl, ?hyc23⟩) (by assumption) ?restc23
        case hyc23 => (intro w hSw; (try dsimp only at hSw); go_simp <;> with_reducible rfl)
        try simp only [Act.put, List.setIfInBounds_toArray, List.set_cons_zero, List.set_cons_succ]
        refine wpAnyH_ready (rs := [11]) (by kernel_rfl) (by simp) ?_
        refine AllReadyH.cons (o := ⟨some 58, _, _, _, _, _⟩) rfl (fun K hK => ?_) ?_
        · go_simp
          go_at_call 36
          refine (hT.out _ _ _ _ (by first | rfl | omega) (by repeat (first | assumption | exact Below.refl _ _ | (refine bStep ?_ (by assumption)) | (with_reducible refine bAlc ?_ _) | (with_reducible refine bDrw ?_)))).mono ?_
          rintro e w1 ⟨v1, rfl, ho1, hb1⟩
          obtain ⟨A1, k1, rfl, hd1, hk1, hmm1, hg1⟩ := ho1.reads
          go_wp2_with fail
          refine hK.out _ _ ?_ (fun hHeld => ?_)
          · (refine hAll.out _ ?_; repeat (first | exact KX.refl _ _ _ | (refine KX.grown ?_ (by assumption)) | (refine KX.step ?_ (by assumption)) | (with_reducible refine KX.alloc ?_ _) | (with_reducible refine KX.drew ?_)))
          clear hK K
          try simp only [Act.put, List.setIfInBounds_toArray, List.set_cons_zero, List.set_cons_succ]
          refine wpAnyH_ready (rs := [22]) (by kernel_rfl) (by simp) ?_
          refine AllReadyH.cons (o := ⟨some 69, _, _, _, _, _⟩) rfl (fun K hK => ?_) ?_
          · go_simp
            go_at_call 37
            refine (hSo.out _ (by repeat (first | assumption | exact Below.refl _ _ | (refine bStep ?_ (by assumption)) | (with_reducible refine bAlc ?_ _) | (with_reducible refine bDrw ?_)))).mono ?_
            rintro e w2 ⟨v2, rfl, ho2, hb2⟩
            obtain ⟨A2, k2, rfl, hd2, hk2, hmm2, hg2⟩ := ho2.reads
            go_wp2_with fail
            refine hK.out _ _ ?_ (fun hHeld => ?_)
            · (refine hAll.out _ ?_; repeat (first | exact KX.refl _ _ _ | (refine KX.grown ?_ (by assumption)) | (refine KX.step ?_ (by assumption)) | (with_reducible refine KX.alloc ?_ _) | (with_reducible refine KX.drew ?_)))
            clear hK K
            try simp only [Act.put, List.setIfInBounds_toArray, List.set_cons_zero, List.set_cons_succ]
            refine wpAnyH_ready (rs := [25]) (by kernel_rfl) (by simp) ?_
            refine AllReadyH.cons (o := ⟨some 72, _, _, _, _, _⟩) rfl (fun K hK => ?_) ?_
            · go_simp
              go_at_call 38
              refine (hPl.out _).mono ?_
              rintro e w3 ⟨Bk, rfl, p1, p2, p3, p4⟩
              go_wp2_with fail
              refine hK.out _ _ ?_ (fun hHeld => ?_)
              · (refine hAll.out _ ?_; repeat (first | exact KX.refl _ _ _ | (refine KX.grown ?_ (by assumption)) | (refine KX.step ?_ (by assumption)) | (with_reducible refine KX.alloc ?_ _) | (with_reducible refine KX.drew ?_)))
              clear hK K
              try simp only [Act.put, List.setIfInBounds_toArray, List.set_cons_zero, List.set_cons_succ]
              refine wpAnyH_ready (rs := [26]) (by kernel_rfl) (by simp) ?_
              refine AllReadyH.cons (o := ⟨some 73, _, _, _, _, _⟩) rfl (fun K hK => ?_) ?_
              · go_simp
                go_at_call 35
                refine (hJ.out A1 k1 A2 k2 Bk _ (by repeat (first | assumption | exact Below.refl _ _ | (refine bStep ?_ (by assumption)) | (with_reducible refine bAlc ?_ _) | (with_reducible refine bDrw ?_))) (rdl_to hd1 (by repeat (first | assumption | exact Below.refl _ _ | (refine bStep ?_ (by assumption)) | (with_reducible refine bAlc ?_ _) | (with_reducible refine bDrw ?_)))) (rdl_to hd2 (by repeat (first | assumption | exact Below.refl _ _ | (refine bStep ?_ (by assumption)) | (with_reducible refine bAlc ?_ _) | (with_reducible refine bDrw ?_)))) (cell_later (by repeat (first | assumption | exact Below.refl _ _ | (refine bStep ?_ (by assumption)) | (with_reducible refine bAlc ?_ _) | (with_reducible refine bDrw ?_))) p1) (bk_lt p3 (by repeat (first | assumption | exact Below.refl _ _ | (refine bStep ?_ (by assumption)) | (with_reducible refine bAlc ?_ _) | (with_reducible refine bDrw ?_))))).mono ?_
                rintro e w4 ⟨rfl, hM4, hg4⟩
                go_wp2_with fail
                refine hK.out _ _ ?_ (fun hHeld => ?_)
                · (refine hAll.out _ ?_; repeat (first | exact KX.refl _ _ _ | (refine KX.grown ?_ (by assumption)) | (refine KX.step ?_ (by assumption)) | (with_reducible refine KX.alloc ?_ _) | (with_reducible refine KX.drew ?_)))
                clear hK K
                try simp only [Act.put, List.setIfInBounds_toArray, List.set_cons_zero, List.set_cons_succ]
                refine wpAnyH_done (by kernel_rfl) ?_ _
                go_wp2_with fail
                go_meet
                exact hEnd.out _ (by repeat (first | exact KX.refl _ _ _ | (refine KX.grown ?_ (by assumption)) | (refine KX.step ?_ (by assumption)) | (with_reducible refine KX.alloc ?_ _) | (with_reducible refine KX.drew ?_))) hM4
              exact AllReadyH.nil
            exact AllReadyH.nil
          exact AllReadyH.nil
        exact AllReadyH.nil
  case rest =>
    obtain ⟨hM, hbW⟩ := hcut
    have hl6 : J.length ≤ 600 := hfew'.out J hJnd.out fun y hy => (hJmem.out y).1 hy
    have hlen := hM.len 3
    have hz9 : ¬ (600 : Int) < J.length := by omega
    have hL : Hid (BSet g p d (lset J)) := Lib.hid ⟨lset_asc fun x hx => (hJfit.out x hx).1, fun y => (lset_mem (k := 8) (fun x hx => (hJfit.out x hx).1) y).trans (hJmem.out y)⟩
    have hM' := Lib.hid hM
    have hbW' := Lib.hid hbW
    clear hM hbW
    go_wp2_with (go_at_call 37; refine (sorted_any mb J _ hM'.out (fun x hx => (hJfit.out x hx).1) (by omega)).mono ?_; rintro e w3 ⟨v3, rfl, ho3, hb3⟩)
    go_ret2
    exact hP.out _ _ _ hL.out (ho3.mono hbW'.out.size) (hbW'.out.trans (hb3.mono hbW'.out.size))
end Go.Proofs.YtnnkfgekiaaehaaGreat

/- follow.Behind: its errors, and what it hands back for a given grammar. -/
namespace Go.Proofs.YtnnkfgekiaaehaaGreat
open Go.ChangeShapes Go.WideShapes Go.ChangeAt Go.RowKit
set_option linter.unusedVariables false

/-- the reckoned list is what is behind -/
theorem bset_of {g : Gr} (hok : gchk g = 0) (m1 m2 : Nat) (hF : closedFB g.prods g.k.toNat (firstC g m1) = true) (hO : closedOB g.prods g.k.toNat (firstC g m1) (followC g m1 m2) = true) {p : Pr} (hp : p ∈ g.prods) (d : Nat) :
    BSet g p d (lset (behL g.k.toNat (firstC g m1) (followC g m1 m2) p d)) := by
  have hk := gok_of hok
  have hps : ∀ p ∈ g.prods, (16 ≤ p.left ∧ p.left < 16 + (g.names.length : Int)) ∧ ∀ s ∈ p.right, SymOk g.names.length s := fun p hp => ⟨(hk.pr p hp).1, hk.sym hp⟩
  have h1 : FirstOk g.prods g.k.toNat g.names.length (firstC g m1) := runF_ok hk.k1 hk.k4 hps m1 _ (firstOk_start _ _ _)
  have h2 : FollowOk g.prods g.k.toNat g.names.length g.start (followC g m1 m2) := runO_ok hk.k1 hk.k4 hps h1 m2 _ (followOk_start _ _ _ _ hk.st)
  have hfit : ∀ z ∈ behL g.k.toNat (firstC g m1) (followC g m1 m2) p d, Fit g.k.toNat z :=
    sums_fit hk.k4 (tail_fit hk.k1 hk.k4 h1.fit _ (fun z hz => hk.sym hp z (List.mem_of_mem_drop hz))) (lset_fit (setsFit_get h2.fit _))
  exact ⟨lset_asc fun x hx => (hfit x hx).1, fun y => (lset_mem (k := 8) (fun x hx => (hfit x hx).1) y).trans (behind_iff hok h1.fit h1.sound (closedF_of hF) h2.fit h2.sound (closedO_of h2.begin_ hO) hp d y)⟩
theorem BSet.few {g : Gr} {p : Pr} {d : Nat} {L : List Lk} (h : BSet g p d L) (hl : L.length ≤ 600) : FewB g p d := fun M hn hM => Nat.le_trans (nodup_len hn fun y hy => (h.2 y).2 (hM y hy)) hl
theorem exG_02 : BSet exG ⟨16, [0, 16, 1]⟩ 2 [Lk.of [1], Lk.of [1, 1]] := by
  have h := bset_of exG_ok 4 4 exG_first exG_follow (p := ⟨16, [0, 16, 1]⟩) (by decide +kernel) 2
  have e : lset (behL exG.k.toNat (firstC exG 4) (followC exG 4 4) ⟨16, [0, 16, 1]⟩ 2) = [Lk.of [1], Lk.of [1, 1]] := by decide +kernel
  rwa [e] at h
theorem exG_01 : BSet exG ⟨16, [0, 16, 1]⟩ 1 [Lk.of [0, 0], Lk.of [0, 1], Lk.of [0, 2], Lk.of [1], Lk.of [1, 1], Lk.of [2, 1]] := by
  have h := bset_of exG_ok 4 4 exG_first exG_follow (p := ⟨16, [0, 16, 1]⟩) (by decide +kernel) 1
  have e : lset (behL exG.k.toNat (firstC exG 4) (followC exG 4 4) ⟨16, [0, 16, 1]⟩ 1) = [Lk.of [0, 0], Lk.of [0, 1], Lk.of [0, 2], Lk.of [1], Lk.of [1, 1], Lk.of [2, 1]] := by decide +kernel
  rwa [e] at h
/-- a place that there is not -/
def noPlace (g : Gr) (i d : Int) : Prop := i < 0 ∨ (g.prods.length : Int) ≤ i ∨ d < 0 ∨ ∃ p, g.prods[i.toNat]? = some p ∧ (p.right.length : Int) < d

set_option maxRecDepth 100000 in
set_option maxHeartbeats 4000000 in
theorem behind_bad (g : Gr) (a : GA) (i d : Int) (w : World) (hg : GrAt w w.heap.size g a) (hok : gchk g = 0) (hno : noPlace g i d) :
    Calls Tryz.prog 8 #[gval g a, .int .i64 i, .int .i64 d] w fun e w' => e = .returned (.tuple #[.slice none 0 0, .int .i64 2]) ∧ Below w.heap.size w w' := by
  obtain ⟨ta, tc, na, nc, pa, pc⟩ := a
  have hG0 := GB.start hg
  have hC := Lib.hid (fun (W : World) (h : GrAt W W.heap.size g ⟨ta, tc, na, nc, pa, pc⟩) => gcheck_any g ⟨ta, tc, na, nc, pa, pc⟩ W h (small_of hok))
  rw [hok] at hC
  have hgp := Lib.hid hg.prods
  have hpl := (gok_of hok).pl
  clear hg hok
  unfold gval at *
  unfold gcells at *
  dsimp only at *
  go_enter Tryz.func8, Tryz.ntmps8
  go_upto_region 4 with (go_at_call 33; refine (hC.out _ ((hG0.2.1).mono hG0.2.2.size)).mono ?_; rintro e w1 ⟨rfl, hb1⟩)
  have hG1 := hG0.step hb1
  clear hG0 hb1
  obtain ⟨c0, c1, c2, c3, c4, c5⟩ := hG1.cells
  dsimp only at c1 c3 c5
  have hbW := Lib.hid hG1.2.2
  by_cases h1 : i < 0
  · clear hG1 hno
    go_wp2_with fail
    go_ret2
    exact ⟨rfl, hbW.out⟩
  by_cases h2 : (g.prods.length : Int) ≤ i
  · clear hG1 hno
    go_wp2_with fail
    go_ret2
    exact ⟨rfl, hbW.out⟩
  by_cases h3 : d < 0
  · clear hG1 hno
    go_wp2_with fail
    go_ret2
    exact ⟨rfl, hbW.out⟩
  obtain ⟨p, hp, hd⟩ : ∃ p, g.prods[i.toNat]? = some p ∧ (p.right.length : Int) < d := by
    rcases hno with h | h | h | h
    · exact absurd h h1
    · exact absurd h h2
    · exact absurd h h3
    · exact h
  obtain ⟨n, hn⟩ := Int.eq_ofNat_of_zero_le (show 0 ≤ i by omega)
  subst hn
  rw [Int.toNat_natCast] at hp
  obtain ⟨b, off, rfl, hbt, x0, RA, rc, x1, hx2, hx3, hx4⟩ := hgp.out.get hp
  have y1 := (hG1.2.2.cell (p := ⟨b, off + n * 2 + 1, none⟩) hbt).trans x1
  clear x0 x1 hx2
  replace hp := Lib.hid hp
  have hz1 : (0 : Int) ≤ n := by omega
  have hz2 : (n : Int) < g.prods.length := by omega
  have hz3 : ¬ d ≤ (p.right.length : Int) := by omega
  go_wp2_with fail
  go_ret2
  exact ⟨rfl, hbW.out⟩
end Go.Proofs.YtnnkfgekiaaehaaGreat
