/- Walks and plain laws, part 9 of 9: The walk of FollowKnown. Conditions: none beyond those that each theorem states. -/
import Derived.Test.YtnnkfgekiaaehaaD8
/- The walk of FollowKnown. -/
namespace Go.Proofs.Ytnnkfgekiaaehaa
open Go.ChangeShapes Go.WideShapes Go.ChangeAt Go.RowKit
set_option linter.unusedVariables false

/-- hands back these looks -/
def RetOx (L : List Lk) (w : World) (e : Ending) (w' : World) : Prop := ∃ v, e = .returned (.tuple #[v, .int .i64 0]) ∧ OwnL w' w.heap.size v L ∧ Below w.heap.size w w'
/-- hands back these spots -/
def RetQx (l : List (Nat × Nat)) (w : World) (e : Ending) (w' : World) : Prop := ∃ v, e = .returned (.tuple #[v, .int .i64 0]) ∧ OwnQ w' w.heap.size v l ∧ Below w.heap.size w w'
def RetEx (g : Gr) (w : World) (e : Ending) (w' : World) : Prop := ∃ a, e = .returned (gval g a) ∧ GrAt w' w'.heap.size g a ∧ Below w.heap.size w w'
theorem ex_of17 (a : GA) (W : World) (h : GrAt W W.heap.size exG a) : Calls Try.prog 9 #[gval exG a, .int .i64 17] W (RetOx [Lk.of [], Lk.of [1], Lk.of [1, 1]] W) :=
  (of_any exG a 17 W h exG_ok (by decide +kernel) (exG_17.few (by simp))).mono fun e w' ⟨L, v, he, hL, ho, hb⟩ => ⟨v, he, hL.uniq exG_17 ▸ ho, hb⟩
theorem ex_ends (a : GA) (W : World) (h : GrAt W W.heap.size exG a) : Calls Try.prog 18 #[gval exG a, .int .i64 17] W fun e w' => e = .returned (.tuple #[.bool true, .int .i64 0]) ∧ Below W.heap.size W w' :=
  (ends_any exG a 17 W h exG_ok (by decide +kernel)).mono fun e w' ⟨b, he, hb, hw⟩ => ⟨by rw [he, hb.2 ((exG_17.2 _).1 (by simp))], hw⟩
theorem ex_uses16 (a : GA) (W : World) (h : GrAt W W.heap.size exG a) : Calls Try.prog 20 #[gval exG a, .int .i64 16] W (RetQx [(0, 1)] W) :=
  (uses_any exG a 16 W h exG_ok (by decide +kernel)).mono fun e w' ⟨l, v, he, ho, hl, _, hb⟩ => ⟨v, he, (hl.2.trans (by decide +kernel) : l = [(0, 1)]) ▸ ho, hb⟩
theorem ex_uses17 (a : GA) (W : World) (h : GrAt W W.heap.size exG a) : Calls Try.prog 20 #[gval exG a, .int .i64 17] W (RetQx [(1, 0)] W) :=
  (uses_any exG a 17 W h exG_ok (by decide +kernel)).mono fun e w' ⟨l, v, he, ho, hl, _, hb⟩ => ⟨v, he, (hl.2.trans (by decide +kernel) : l = [(1, 0)]) ▸ ho, hb⟩
theorem ex_beh2 (a : GA) (W : World) (h : GrAt W W.heap.size exG a) : Calls Try.prog 22 #[gval exG a, .int .i64 0, .int .i64 2] W (RetOx [Lk.of [1], Lk.of [1, 1]] W) :=
  (behind_any exG a 0 2 ⟨16, [0, 16, 1]⟩ W h exG_ok rfl (by simp) (exG_02.few (by simp))).mono fun e w' ⟨L, v, he, hL, ho, hb⟩ => ⟨v, he, hL.uniq exG_02 ▸ ho, hb⟩
theorem ex_beh1 (a : GA) (W : World) (h : GrAt W W.heap.size exG a) : Calls Try.prog 22 #[gval exG a, .int .i64 0, .int .i64 1] W (RetOx [Lk.of [0, 0], Lk.of [0, 1], Lk.of [0, 2], Lk.of [1], Lk.of [1, 1], Lk.of [2, 1]] W) :=
  (behind_any exG a 0 1 ⟨16, [0, 16, 1]⟩ W h exG_ok rfl (by simp) (exG_01.few (by simp))).mono fun e w' ⟨L, v, he, hL, ho, hb⟩ => ⟨v, he, hL.uniq exG_01 ▸ ho, hb⟩
theorem ex_of0 (a : GA) (W : World) (h : GrAt W W.heap.size exG a) : Calls Try.prog 9 #[gval exG a, .int .i64 0] W fun e w' => e = .returned (.tuple #[.slice none 0 0, .int .i64 14]) ∧ Below W.heap.size W w' := by
  have := of_bad exG a 0 W h (small_of exG_ok) (by omega) (by omega) (by decide +kernel)
  rwa [show nonE exG 0 = 14 by decide +kernel] at this
theorem ex_of18 (a : GA) (W : World) (h : GrAt W W.heap.size exG a) : Calls Try.prog 9 #[gval exG a, .int .i64 18] W fun e w' => e = .returned (.tuple #[.slice none 0 0, .int .i64 14]) ∧ Below W.heap.size W w' := by
  have := of_bad exG a 18 W h (small_of exG_ok) (by omega) (by omega) (by decide +kernel)
  rwa [show nonE exG 18 = 14 by decide +kernel] at this
theorem ex_bad1 (a : GA) (W : World) (h : GrAt W W.heap.size exG a) : Calls Try.prog 22 #[gval exG a, .int .i64 4, .int .i64 0] W fun e w' => e = .returned (.tuple #[.slice none 0 0, .int .i64 2]) ∧ Below W.heap.size W w' :=
  behind_bad exG a 4 0 W h exG_ok (.inr (.inl (by decide)))
theorem ex_bad2 (a : GA) (W : World) (h : GrAt W W.heap.size exG a) : Calls Try.prog 22 #[gval exG a, .int .i64 0, .int .i64 4] W fun e w' => e = .returned (.tuple #[.slice none 0 0, .int .i64 2]) ∧ Below W.heap.size W w' :=
  behind_bad exG a 0 4 W h exG_ok (.inr (.inr (.inr ⟨⟨16, [0, 16, 1]⟩, rfl, by decide⟩)))
theorem lks_wf (L : List Lk) (h : ∀ x ∈ L, lchk x 8 = 0) : ∀ x ∈ L, x.wf := fun x hx => right_wf (m := 8) (h x hx)
theorem same_ex (L : List Lk) (hw : L.all (fun x => decide (lchk x 8 = 0)) = true) (hlen : L.length ≤ 100) (A : Option Addr) (c g : Nat) (W : World) (h1 : RdL W W.heap.size A L.length L) (h2 : Blk W g 42 (cellsL L).toArray) :
    Calls Try.prog 12 #[.slice A L.length c, .slice (some ⟨g, 0, none⟩) L.length L.length] W fun e w' => e = .returned (.bool true) ∧ Below W.heap.size W w' := by
  have hl := lks_wf L fun x hx => of_decide_eq_true ((List.all_eq_true.1 hw) x hx)
  have := samelooks_any A (some ⟨g, 0, none⟩) L.length L.length c L.length L L W h1 (rdL_row h2) hl hl (by unfold maxLen; omega) (by unfold maxLen; omega)
  rwa [decide_eq_true rfl] at this
theorem rdQ_row {W : World} {g : Nat} {l : List (Nat × Nat)} (h : Blk W g 54 (cellsQ l).toArray) : RdQ W W.heap.size (some ⟨g, 0, none⟩) l.length l :=
  ⟨rfl, .inr ⟨g, 0, rfl, h.lt, fun i x hx => by
    obtain ⟨d1, d2⟩ := cellsQ_get l i x hx
    exact ⟨by rw [Nat.zero_add, h.cell]; simpa using d1, by rw [Nat.zero_add, h.cell]; simpa using d2⟩⟩⟩
theorem sameq_ex (l : List (Nat × Nat)) (hw : SpotsOk l) (hlen : l.length ≤ 100) (A : Option Addr) (c g : Nat) (W : World) (h1 : RdQ W W.heap.size A l.length l) (h2 : Blk W g 54 (cellsQ l).toArray) :
    Calls Try.prog 21 #[.slice A l.length c, .slice (some ⟨g, 0, none⟩) l.length l.length] W fun e w' => e = .returned (.bool true) ∧ Below W.heap.size W w' := by
  have := samespots_any A (some ⟨g, 0, none⟩) l.length l.length c l.length l l W h1 (rdQ_row h2) hw hw (by unfold maxLen; omega) (by unfold maxLen; omega)
  rwa [decide_eq_true rfl] at this
set_option maxRecDepth 100000 in
set_option maxHeartbeats 8000000 in
theorem followKnown_walk (w : World) : Calls Try.prog 5 #[] w fun e w' => e = .returned (.bool true) ∧ Below w.heap.size w w' := by
  have hE : Hid (∀ W, Calls Try.prog 17 #[] W (RetEx exG W)) := Lib.hid fun W => example_any W
  have h17 := Lib.hid ex_of17
  have hEn := Lib.hid ex_ends
  have hU16 := Lib.hid ex_uses16
  have hU17 := Lib.hid ex_uses17
  have hB2 := Lib.hid ex_beh2
  have hB1 := Lib.hid ex_beh1
  have hO0 := Lib.hid ex_of0
  have hO18 := Lib.hid ex_of18
  have hX1 := Lib.hid ex_bad1
  have hX2 := Lib.hid ex_bad2
  generalize exG = g at *
  have hAw := Lib.hid (fun (W : World) => awake_any W)
  have hL1 : Hid (∀ (W : World) (b : Nat), Blk W b 3 #[.int .i64 1] → Calls Try.prog 19 #[.slice (some ⟨b, 0, none⟩) 1 1] W fun e w' => e = .returned (.agg #[.int .i64 1, .int .i64 1, .int .i64 0, .int .i64 0, .int .i64 0]) ∧ Below W.heap.size W w') := Lib.hid fun W b h => look_row W b [1] h (by simp)
  have hL11 : Hid (∀ (W : World) (b : Nat), Blk W b 3 #[.int .i64 1, .int .i64 1] → Calls Try.prog 19 #[.slice (some ⟨b, 0, none⟩) 2 2] W fun e w' => e = .returned (.agg #[.int .i64 2, .int .i64 1, .int .i64 1, .int .i64 0, .int .i64 0]) ∧ Below W.heap.size W w') := Lib.hid fun W b h => look_row W b [1, 1] h (by simp)
  have hL00 : Hid (∀ (W : World) (b : Nat), Blk W b 3 #[.int .i64 0, .int .i64 0] → Calls Try.prog 19 #[.slice (some ⟨b, 0, none⟩) 2 2] W fun e w' => e = .returned (.agg #[.int .i64 2, .int .i64 0, .int .i64 0, .int .i64 0, .int .i64 0]) ∧ Below W.heap.size W w') := Lib.hid fun W b h => look_row W b [0, 0] h (by simp)
  have hL01 : Hid (∀ (W : World) (b : Nat), Blk W b 3 #[.int .i64 0, .int .i64 1] → Calls Try.prog 19 #[.slice (some ⟨b, 0, none⟩) 2 2] W fun e w' => e = .returned (.agg #[.int .i64 2, .int .i64 0, .int .i64 1, .int .i64 0, .int .i64 0]) ∧ Below W.heap.size W w') := Lib.hid fun W b h => look_row W b [0, 1] h (by simp)
  have hL02 : Hid (∀ (W : World) (b : Nat), Blk W b 3 #[.int .i64 0, .int .i64 2] → Calls Try.prog 19 #[.slice (some ⟨b, 0, none⟩) 2 2] W fun e w' => e = .returned (.agg #[.int .i64 2, .int .i64 0, .int .i64 2, .int .i64 0, .int .i64 0]) ∧ Below W.heap.size W w') := Lib.hid fun W b h => look_row W b [0, 2] h (by simp)
  have hL21 : Hid (∀ (W : World) (b : Nat), Blk W b 3 #[.int .i64 2, .int .i64 1] → Calls Try.prog 19 #[.slice (some ⟨b, 0, none⟩) 2 2] W fun e w' => e = .returned (.agg #[.int .i64 2, .int .i64 2, .int .i64 1, .int .i64 0, .int .i64 0]) ∧ Below W.heap.size W w') := Lib.hid fun W b h => look_row W b [2, 1] h (by simp)
  have hS3 := Lib.hid (fun (A : Option Addr) (c b : Nat) (W : World) (h1 : RdL W W.heap.size A 3 [Lk.of [], Lk.of [1], Lk.of [1, 1]]) (h2 : Blk W b 42 (cellsL [Lk.of [], Lk.of [1], Lk.of [1, 1]]).toArray) => (same_ex [Lk.of [], Lk.of [1], Lk.of [1, 1]] (by decide +kernel) (by simp) A c b W h1 h2 : Calls Try.prog 12 #[.slice A 3 c, .slice (some ⟨b, 0, none⟩) 3 3] W fun e w' => e = .returned (.bool true) ∧ Below W.heap.size W w'))
  have hS2 := Lib.hid (fun (A : Option Addr) (c b : Nat) (W : World) (h1 : RdL W W.heap.size A 2 [Lk.of [1], Lk.of [1, 1]]) (h2 : Blk W b 42 (cellsL [Lk.of [1], Lk.of [1, 1]]).toArray) => (same_ex [Lk.of [1], Lk.of [1, 1]] (by decide +kernel) (by simp) A c b W h1 h2 : Calls Try.prog 12 #[.slice A 2 c, .slice (some ⟨b, 0, none⟩) 2 2] W fun e w' => e = .returned (.bool true) ∧ Below W.heap.size W w'))
  have hS6 := Lib.hid (fun (A : Option Addr) (c b : Nat) (W : World) (h1 : RdL W W.heap.size A 6 [Lk.of [0, 0], Lk.of [0, 1], Lk.of [0, 2], Lk.of [1], Lk.of [1, 1], Lk.of [2, 1]]) (h2 : Blk W b 42 (cellsL [Lk.of [0, 0], Lk.of [0, 1], Lk.of [0, 2], Lk.of [1], Lk.of [1, 1], Lk.of [2, 1]]).toArray) => (same_ex [Lk.of [0, 0], Lk.of [0, 1], Lk.of [0, 2], Lk.of [1], Lk.of [1, 1], Lk.of [2, 1]] (by decide +kernel) (by simp) A c b W h1 h2 : Calls Try.prog 12 #[.slice A 6 c, .slice (some ⟨b, 0, none⟩) 6 6] W fun e w' => e = .returned (.bool true) ∧ Below W.heap.size W w'))
  have hQ1 := Lib.hid (fun (A : Option Addr) (c b : Nat) (W : World) (h1 : RdQ W W.heap.size A 1 [(0, 1)]) (h2 : Blk W b 54 (cellsQ [(0, 1)]).toArray) => (sameq_ex [(0, 1)] (by intro x hx; simp at hx; subst hx; simp) (by simp) A c b W h1 h2 : Calls Try.prog 21 #[.slice A 1 c, .slice (some ⟨b, 0, none⟩) 1 1] W fun e w' => e = .returned (.bool true) ∧ Below W.heap.size W w'))
  have hQ2 := Lib.hid (fun (A : Option Addr) (c b : Nat) (W : World) (h1 : RdQ W W.heap.size A 1 [(1, 0)]) (h2 : Blk W b 54 (cellsQ [(1, 0)]).toArray) => (sameq_ex [(1, 0)] (by intro x hx; simp at hx; subst hx; simp) (by simp) A c b W h1 h2 : Calls Try.prog 21 #[.slice A 1 c, .slice (some ⟨b, 0, none⟩) 1 1] W fun e w' => e = .returned (.bool true) ∧ Below W.heap.size W w'))
  have hL1b := hL1
  have hL1c := hL1
  have hL11b := hL11
  have hL11c := hL11
  go_enter Try.func5, Try.ntmps5
  go_upto_region 2 with (go_at_call 17; refine (hE.out _).mono ?_; rintro e w1 ⟨⟨ta, tc, na, nc, pa, pc⟩, rfl, hg0, hb1⟩; simp only [gval, gcells])
  have hb2 : Below w1.heap.size w1 (w1.alloc (.cells #[.int .i64 g.k, .slice ta g.toks.length tc, .string g.sep, .slice na g.names.length nc, .int .i64 g.start, .slice pa g.prods.length pc] 26)) := bAlc (Below.refl _ _) _
  have q1 := Blk.new w1 26 #[.int .i64 g.k, .slice ta g.toks.length tc, .string g.sep, .slice na g.names.length nc, .int .i64 g.start, .slice pa g.prods.length pc]
  have hg1 := hg0.step hb2
  have hbw := bStep hb1 hb2
  clear hg0 hb2 hb1
  generalize w1.alloc (.cells #[.int .i64 g.k, .slice ta g.toks.length tc, .string g.sep, .slice na g.names.length nc, .int .i64 g.start, .slice pa g.prods.length pc] 26) = W1 at *
  generalize w1.heap.size = b1 at *
  have c0 := q1.cell 0
  have c1 := q1.cell 1
  have c2 := q1.cell 2
  have c3 := q1.cell 3
  have c4 := q1.cell 4
  have c5 := q1.cell 5
  simp only [List.getElem?_toArray, List.getElem?_cons_zero, List.getElem?_cons_succ] at c0 c1 c2 c3 c4 c5
  go_upto_region 3 with (go_at_call 9; refine (h17.out ⟨ta, tc, na, nc, pa, pc⟩ _ hg1).mono ?_; rintro e w2 ⟨v2, rfl, ho2, hb2⟩)
  obtain ⟨A2, k2, rfl, hrd2, _, _, _⟩ := ho2.reads
  replace hrd2 := Lib.hid hrd2
  clear ho2 h17
  have q2 := q1.step hb2
  have hg2 := hg1.step hb2
  have hbw2 := bStep hbw hb2
  clear c0 c1 c2 c3 c4 c5 q1 hg1 hbw
  have c0 := q2.cell 0
  have c1 := q2.cell 1
  have c2 := q2.cell 2
  have c3 := q2.cell 3
  have c4 := q2.cell 4
  have c5 := q2.cell 5
  simp only [List.getElem?_toArray, List.getElem?_cons_zero, List.getElem?_cons_succ] at c0 c1 c2 c3 c4 c5
  go_upto_region 4 with (go_at_call 18; refine (hEn.out ⟨ta, tc, na, nc, pa, pc⟩ _ hg2).mono ?_; rintro e w3 ⟨rfl, hb3⟩)
  have q3 := q2.step hb3
  have hg3 := hg2.step hb3
  have hbw3 := bStep hbw2 hb3
  clear c0 c1 c2 c3 c4 c5 q2 hg2 hbw2
  have c0 := q3.cell 0
  have c1 := q3.cell 1
  have c2 := q3.cell 2
  have c3 := q3.cell 3
  have c4 := q3.cell 4
  have c5 := q3.cell 5
  simp only [List.getElem?_toArray, List.getElem?_cons_zero, List.getElem?_cons_succ] at c0 c1 c2 c3 c4 c5
  go_upto_region 6 with (first
    | (go_at_call 19; refine (hL1.out _ _ (Blk.new _ _ _)).mono ?_; clear hL1; rintro e w4 ⟨rfl, hb4⟩)
    | (go_at_call 19; refine (hL11.out _ _ (Blk.new _ _ _)).mono ?_; clear hL11; rintro e w5 ⟨rfl, hb5⟩)
    | (go_at_call 12; refine (hS3.out A2 k2 _ _ ((hrd2.out.below (by repeat (first | assumption | exact Below.refl _ _ | (refine bStep ?_ (by assumption)) | (with_reducible refine bAlc ?_ _) | (with_reducible refine bDrw ?_)))).mono (Below.size (by repeat (first | assumption | exact Below.refl _ _ | (refine bStep ?_ (by assumption)) | (with_reducible refine bAlc ?_ _) | (with_reducible refine bDrw ?_))))) (Blk.new _ _ _)).mono ?_; rintro e w6 ⟨rfl, hb6⟩))
  have hb36 : Below w3.heap.size w3 w6 := (by repeat (first | assumption | exact Below.refl _ _ | (refine bStep ?_ (by assumption)) | (with_reducible refine bAlc ?_ _) | (with_reducible refine bDrw ?_)))
  have q4 := q3.step hb36
  have hg4 := hg3.step hb36
  have hbw4 := bStep hbw3 hb36
  clear c0 c1 c2 c3 c4 c5 q3 hg3 hbw3
  have c0 := q4.cell 0
  have c1 := q4.cell 1
  have c2 := q4.cell 2
  have c3 := q4.cell 3
  have c4 := q4.cell 4
  have c5 := q4.cell 5
  simp only [List.getElem?_toArray, List.getElem?_cons_zero, List.getElem?_cons_succ] at c0 c1 c2 c3 c4 c5
  go_upto_region 7 with (go_at_call 20; refine (hU16.out ⟨ta, tc, na, nc, pa, pc⟩ _ hg4).mono ?_; rintro e w7 ⟨v7, rfl, ho7, hb7⟩)
  obtain ⟨A7, k7, rfl, hrd7, _, _⟩ := ho7.reads
  replace hrd7 := Lib.hid hrd7
  clear ho7
  have q5 := q4.step hb7
  have hg5 := hg4.step hb7
  have hbw5 := bStep hbw4 hb7
  clear c0 c1 c2 c3 c4 c5 q4 hg4 hbw4
  have c0 := q5.cell 0
  have c1 := q5.cell 1
  have c2 := q5.cell 2
  have c3 := q5.cell 3
  have c4 := q5.cell 4
  have c5 := q5.cell 5
  simp only [List.getElem?_toArray, List.getElem?_cons_zero, List.getElem?_cons_succ] at c0 c1 c2 c3 c4 c5
  go_upto_region 8 with (go_at_call 20; refine (hU17.out ⟨ta, tc, na, nc, pa, pc⟩ _ hg5).mono ?_; rintro e w8 ⟨v8, rfl, ho8, hb8⟩)
  obtain ⟨A8, k8, rfl, hrd8, _, _⟩ := ho8.reads
  replace hrd8 := Lib.hid hrd8
  clear ho8
  have q6 := q5.step hb8
  have hg6 := hg5.step hb8
  have hbw6 := bStep hbw5 hb8
  clear c0 c1 c2 c3 c4 c5 q5 hg5 hbw5
  have c0 := q6.cell 0
  have c1 := q6.cell 1
  have c2 := q6.cell 2
  have c3 := q6.cell 3
  have c4 := q6.cell 4
  have c5 := q6.cell 5
  simp only [List.getElem?_toArray, List.getElem?_cons_zero, List.getElem?_cons_succ] at c0 c1 c2 c3 c4 c5
  go_upto_region 10 with (first
    | (go_at_call 21; refine (hQ1.out A7 k7 _ _ ((hrd7.out.below (by repeat (first | assumption | exact Below.refl _ _ | (refine bStep ?_ (by assumption)) | (with_reducible refine bAlc ?_ _) | (with_reducible refine bDrw ?_)))).mono (Below.size (by repeat (first | assumption | exact Below.refl _ _ | (refine bStep ?_ (by assumption)) | (with_reducible refine bAlc ?_ _) | (with_reducible refine bDrw ?_))))) (Blk.new _ _ _)).mono ?_; clear hQ1; rintro e w9 ⟨rfl, hb9⟩)
    | (go_at_call 21; refine (hQ2.out A8 k8 _ _ ((hrd8.out.below (by repeat (first | assumption | exact Below.refl _ _ | (refine bStep ?_ (by assumption)) | (with_reducible refine bAlc ?_ _) | (with_reducible refine bDrw ?_)))).mono (Below.size (by repeat (first | assumption | exact Below.refl _ _ | (refine bStep ?_ (by assumption)) | (with_reducible refine bAlc ?_ _) | (with_reducible refine bDrw ?_))))) (Blk.new _ _ _)).mono ?_; rintro e w10 ⟨rfl, hb10⟩))
  have hb810 : Below w8.heap.size w8 w10 := (by repeat (first | assumption | exact Below.refl _ _ | (refine bStep ?_ (by assumption)) | (with_reducible refine bAlc ?_ _) | (with_reducible refine bDrw ?_)))
  have q7 := q6.step hb810
  have hg7 := hg6.step hb810
  have hbw7 := bStep hbw6 hb810
  clear c0 c1 c2 c3 c4 c5 q6 hg6 hbw6
  have c0 := q7.cell 0
  have c1 := q7.cell 1
  have c2 := q7.cell 2
  have c3 := q7.cell 3
  have c4 := q7.cell 4
  have c5 := q7.cell 5
  simp only [List.getElem?_toArray, List.getElem?_cons_zero, List.getElem?_cons_succ] at c0 c1 c2 c3 c4 c5
  go_upto_region 11 with (go_at_call 22; refine (hB2.out ⟨ta, tc, na, nc, pa, pc⟩ _ hg7).mono ?_; rintro e w11 ⟨v11, rfl, ho11, hb11⟩)
  obtain ⟨A11, k11, rfl, hrd11, _, _, _⟩ := ho11.reads
  replace hrd11 := Lib.hid hrd11
  clear ho11
  have q8 := q7.step hb11
  have hg8 := hg7.step hb11
  have hbw8 := bStep hbw7 hb11
  clear c0 c1 c2 c3 c4 c5 q7 hg7 hbw7
  have c0 := q8.cell 0
  have c1 := q8.cell 1
  have c2 := q8.cell 2
  have c3 := q8.cell 3
  have c4 := q8.cell 4
  have c5 := q8.cell 5
  simp only [List.getElem?_toArray, List.getElem?_cons_zero, List.getElem?_cons_succ] at c0 c1 c2 c3 c4 c5
  go_upto_region 12 with (go_at_call 22; refine (hB1.out ⟨ta, tc, na, nc, pa, pc⟩ _ hg8).mono ?_; rintro e w12 ⟨v12, rfl, ho12, hb12⟩)
  obtain ⟨A12, k12, rfl, hrd12, _, _, _⟩ := ho12.reads
  replace hrd12 := Lib.hid hrd12
  clear ho12
  have q9 := q8.step hb12
  have hg9 := hg8.step hb12
  have hbw9 := bStep hbw8 hb12
  clear c0 c1 c2 c3 c4 c5 q8 hg8 hbw8
  have c0 := q9.cell 0
  have c1 := q9.cell 1
  have c2 := q9.cell 2
  have c3 := q9.cell 3
  have c4 := q9.cell 4
  have c5 := q9.cell 5
  simp only [List.getElem?_toArray, List.getElem?_cons_zero, List.getElem?_cons_succ] at c0 c1 c2 c3 c4 c5
  go_upto_region 14 with (first
    | (go_at_call 19; first
      | (refine (hL1b.out _ _ (Blk.new _ _ _)).mono ?_; clear hL1b; rintro e w13 ⟨rfl, hb13⟩)
      | (refine (hL11b.out _ _ (Blk.new _ _ _)).mono ?_; clear hL11b; rintro e w14 ⟨rfl, hb14⟩)
      | (refine (hL00.out _ _ (Blk.new _ _ _)).mono ?_; clear hL00; rintro e w16 ⟨rfl, hb16⟩)
      | (refine (hL01.out _ _ (Blk.new _ _ _)).mono ?_; clear hL01; rintro e w17 ⟨rfl, hb17⟩)
      | (refine (hL02.out _ _ (Blk.new _ _ _)).mono ?_; clear hL02; rintro e w18 ⟨rfl, hb18⟩)
      | (refine (hL1c.out _ _ (Blk.new _ _ _)).mono ?_; clear hL1c; rintro e w19 ⟨rfl, hb19⟩)
      | (refine (hL11c.out _ _ (Blk.new _ _ _)).mono ?_; clear hL11c; rintro e w20 ⟨rfl, hb20⟩)
      | (refine (hL21.out _ _ (Blk.new _ _ _)).mono ?_; clear hL21; rintro e w21 ⟨rfl, hb21⟩))
    | (go_at_call 12; first
      | (refine (hS2.out A11 k11 _ _ ((hrd11.out.below (by repeat (first | assumption | exact Below.refl _ _ | (refine bStep ?_ (by assumption)) | (with_reducible refine bAlc ?_ _) | (with_reducible refine bDrw ?_)))).mono (Below.size (by repeat (first | assumption | exact Below.refl _ _ | (refine bStep ?_ (by assumption)) | (with_reducible refine bAlc ?_ _) | (with_reducible refine bDrw ?_))))) (Blk.new _ _ _)).mono ?_; clear hS2; rintro e w15 ⟨rfl, hb15⟩)
      | (refine (hS6.out A12 k12 _ _ ((hrd12.out.below (by repeat (first | assumption | exact Below.refl _ _ | (refine bStep ?_ (by assumption)) | (with_reducible refine bAlc ?_ _) | (with_reducible refine bDrw ?_)))).mono (Below.size (by repeat (first | assumption | exact Below.refl _ _ | (refine bStep ?_ (by assumption)) | (with_reducible refine bAlc ?_ _) | (with_reducible refine bDrw ?_))))) (Blk.new _ _ _)).mono ?_; rintro e w22 ⟨rfl, hb22⟩)))
  have hb1222 : Below w12.heap.size w12 w22 := (by repeat (first | assumption | exact Below.refl _ _ | (refine bStep ?_ (by assumption)) | (with_reducible refine bAlc ?_ _) | (with_reducible refine bDrw ?_)))
  have q10 := q9.step hb1222
  have hg10 := hg9.step hb1222
  have hbw10 := bStep hbw9 hb1222
  clear c0 c1 c2 c3 c4 c5 q9 hg9 hbw9
  have c0 := q10.cell 0
  have c1 := q10.cell 1
  have c2 := q10.cell 2
  have c3 := q10.cell 3
  have c4 := q10.cell 4
  have c5 := q10.cell 5
  simp only [List.getElem?_toArray, List.getElem?_cons_zero, List.getElem?_cons_succ] at c0 c1 c2 c3 c4 c5
  go_upto_region 15 with (go_at_call 9; refine (hO0.out ⟨ta, tc, na, nc, pa, pc⟩ _ hg10).mono ?_; rintro e w23 ⟨rfl, hb23⟩)
  have q11 := q10.step hb23
  have hg11 := hg10.step hb23
  have hbw11 := bStep hbw10 hb23
  clear c0 c1 c2 c3 c4 c5 q10 hg10 hbw10
  have c0 := q11.cell 0
  have c1 := q11.cell 1
  have c2 := q11.cell 2
  have c3 := q11.cell 3
  have c4 := q11.cell 4
  have c5 := q11.cell 5
  simp only [List.getElem?_toArray, List.getElem?_cons_zero, List.getElem?_cons_succ] at c0 c1 c2 c3 c4 c5
  go_upto_region 16 with (go_at_call 9; refine (hO18.out ⟨ta, tc, na, nc, pa, pc⟩ _ hg11).mono ?_; rintro e w24 ⟨rfl, hb24⟩)
  have q12 := q11.step hb24
  have hg12 := hg11.step hb24
  have hbw12 := bStep hbw11 hb24
  clear c0 c1 c2 c3 c4 c5 q11 hg11 hbw11
  have c0 := q12.cell 0
  have c1 := q12.cell 1
  have c2 := q12.cell 2
  have c3 := q12.cell 3
  have c4 := q12.cell 4
  have c5 := q12.cell 5
  simp only [List.getElem?_toArray, List.getElem?_cons_zero, List.getElem?_cons_succ] at c0 c1 c2 c3 c4 c5
  go_upto_region 17 with (go_at_call 22; refine (hX1.out ⟨ta, tc, na, nc, pa, pc⟩ _ hg12).mono ?_; rintro e w25 ⟨rfl, hb25⟩)
  have q13 := q12.step hb25
  have hg13 := hg12.step hb25
  have hbw13 := bStep hbw12 hb25
  clear c0 c1 c2 c3 c4 c5 q12 hg12 hbw12
  have c0 := q13.cell 0
  have c1 := q13.cell 1
  have c2 := q13.cell 2
  have c3 := q13.cell 3
  have c4 := q13.cell 4
  have c5 := q13.cell 5
  simp only [List.getElem?_toArray, List.getElem?_cons_zero, List.getElem?_cons_succ] at c0 c1 c2 c3 c4 c5
  go_upto_region 18 with (go_at_call 22; refine (hX2.out ⟨ta, tc, na, nc, pa, pc⟩ _ hg13).mono ?_; rintro e w26 ⟨rfl, hb26⟩)
  have q14 := q13.step hb26
  have hg14 := hg13.step hb26
  have hbw14 := bStep hbw13 hb26
  clear c0 c1 c2 c3 c4 c5 q13 hg13 hbw13
  have c0 := q14.cell 0
  have c1 := q14.cell 1
  have c2 := q14.cell 2
  have c3 := q14.cell 3
  have c4 := q14.cell 4
  have c5 := q14.cell 5
  simp only [List.getElem?_toArray, List.getElem?_cons_zero, List.getElem?_cons_succ] at c0 c1 c2 c3 c4 c5
  go_wp2_with (go_at_call 13; refine (hAw.out _).mono ?_; rintro e w27 ⟨rfl, hb27⟩)
  go_ret
  exact ⟨rfl, bStep hbw14 hb27⟩
end Go.Proofs.Ytnnkfgekiaaehaa
