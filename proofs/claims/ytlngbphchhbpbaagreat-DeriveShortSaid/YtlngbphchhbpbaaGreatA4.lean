/- Walks and plain laws, part 4 of 7: grammar.ordered; grammar.Check; The kit: Mod, At, OwnTexts, OwnInts; Grammars out of numbers, plainly; what a right grammar gives; derive.Sentences: the walk; reach.sum, reach.filled; Costs of derivations, plainly; Least costs and least lengths, plainly; The first one of the shortest strings, plainly; reach.costs: the walk; reach.costs: the rounds; The place of a form; append behind a slice without room, or an own one. Conditions: none beyond those that each theorem states. -/
import Derived.Test.YtlngbphchhbpbaaGreatA3
import Derived.Deep.OwnRows
import Derived.WalkMore
import Derived.Deep.RegionHeld3
import Derived.ArgAppend
/- grammar.ordered. -/
namespace Go.Proofs.YtlngbphchhbpbaaGreat
open Go.RowKit Go.Shelf
set_option linter.unusedVariables false
attribute [local go_sem] Oper.semAt_some

def OX (n : Nat) : Type := { x : Nat × PV // x.1 ≤ n }
def oxAt (vs : List PV) (k : Nat) : OX vs.length := ⟨(min k vs.length, vs.getD k default), Nat.min_le_right _ _⟩
def encO {n : Nat} (x : OX n) : Array Value := encP x.1
/-- this production is not before the one ahead of it -/
def oxOk (vs : List PV) (x : OX vs.length) : Bool := decide (x.1.1 = 0) || decide ((vs.getD (x.1.1 - 1) default).p.left ≤ x.1.2.p.left)
def oxAll (vs : List PV) (pre : List (OX vs.length)) : Bool := pre.all (oxOk vs)
theorem oxAll_snoc (vs : List PV) (pre : List (OX vs.length)) (x : OX vs.length) : oxAll vs (pre ++ [x]) = (oxAll vs pre && oxOk vs x) := by simp [oxAll]
def OrI (w : World) (g : Gr) (a : GA) (vs : List PV) (r : Int) (pre : List (OX vs.length)) (W : World) : Prop := oxAll vs pre = true ∧ Blk W (w.heap.size + 1) 29 #[.int .i64 r] ∧ GB w g a W
def OrX (w : World) (g : Gr) (a : GA) (vs : List PV) (r : Int) (c : Code) (pre : List (OX vs.length)) (W : World) : Prop := (c = .ret ∧ oxAll vs pre = false) ∧ Blk W (w.heap.size + 1) 29 #[.int .i64 r] ∧ GB w g a W
theorem orI_own {B : Nat} (w : World) (g : Gr) (a : GA) (vs : List PV) (r : Int) (h : w.heap.size + 1 < B) : OwnFrom B (OrI w g a vs r) := fun s X Y row hs hg hr =>
  ⟨hs.1, hs.2.1.grown hg (fun e => by have := (hr _ e.symm).1; omega), hs.2.2.grown hg (fun k hk => by have := (hr k hk).1; omega)⟩
theorem orX_own {B : Nat} (w : World) (g : Gr) (a : GA) (vs : List PV) (r : Int) (h : w.heap.size + 1 < B) (c : Code) : OwnFrom B (OrX w g a vs r c) := fun s X Y row hs hg hr =>
  ⟨hs.1, hs.2.1.grown hg (fun e => by have := (hr _ e.symm).1; omega), hs.2.2.grown hg (fun k hk => by have := (hr k hk).1; omega)⟩
theorem ox_ord (g : Gr) (vs : List PV) (hvs : vs.map PV.p = g.prods) (k : Nat) (hk : k ≤ vs.length) : (oxAll vs (uptoF (oxAt vs) k) = true ↔ ∀ (j : Nat) (p q : Pr), j + 1 < k → g.prods[j]? = some p → g.prods[j + 1]? = some q → p.left ≤ q.left) := by
  unfold oxAll
  rw [List.all_eq_true]
  constructor
  · intro h j p q hjk hp hq
    have hj1 : j + 1 < vs.length := by omega
    have := h (oxAt vs (j + 1)) (List.mem_map.2 ⟨j + 1, List.mem_range.2 hjk, rfl⟩)
    have hm : min (j + 1) vs.length = j + 1 := by omega
    simp only [oxOk, oxAt, hm] at this
    rw [← hvs, List.getElem?_map] at hp hq
    have hj0 : j < vs.length := by omega
    simp [hj0] at hp
    simp [hj1] at hq
    subst hp; subst hq
    simpa [List.getD_eq_getElem?_getD, hj0, hj1] using this
  · intro h y hy
    unfold uptoF at hy
    obtain ⟨i, hi, rfl⟩ := List.mem_map.1 hy
    have hi := List.mem_range.1 hi
    have hm : min i vs.length = i := by omega
    cases i with
    | zero => simp [oxOk, oxAt]
    | succ j =>
      have hj0 : j < vs.length := by omega
      have hj1 : j + 1 < vs.length := by omega
      have := h j vs[j].p vs[j + 1].p hi (by rw [← hvs]; simp [hj0]) (by rw [← hvs]; simp [hj1])
      simp only [oxOk, oxAt, hm]
      simpa [List.getD_eq_getElem?_getD, hj0, hj1] using this

set_option maxRecDepth 100000 in
set_option maxHeartbeats 8000000 in
theorem ordered_any (g : Gr) (a : GA) (w : World) (hg : GrAt w w.heap.size g a) (hs : Small g) :
    Calls Tryz.prog 46 #[gval g a] w fun e w' => e = .returned (.int .i64 (if ordB g = false then 9 else 0)) ∧ Below w.heap.size w w' := by
  obtain ⟨ta, tc, na, nc, pa, pc⟩ := a
  obtain ⟨R, hR⟩ : ∃ R : Int, R = if ordB g = false then 9 else 0 := ⟨_, rfl⟩
  rw [← hR]
  replace hR := Lib.hid hR
  have hs3 := hs.p
  clear hs
  obtain ⟨vs, hvs1, hvs2, hvs3⟩ := hg.prods.vals
  have hvl : vs.length = g.prods.length := by rw [← hvs1]; simp
  have hG0 := GB.start hg
  clear hg hvs3
  have hO := Lib.hid (ord_iff g)
  have hX := Lib.hid (ox_ord g vs hvs1)
  have hPr := Lib.hid (fun w => prods_any g ⟨ta, tc, na, nc, pa, pc⟩ w)
  have hVp := Lib.hid (show ∀ j, j < vs.length → ∃ p, g.prods[j]? = some p ∧ (vs.getD j default).p.left = p.left from fun j hj => ⟨vs[j].p, by rw [← hvs1]; simp [hj], by simp [List.getD_eq_getElem?_getD, hj]⟩)
  clear hvs1
  unfold gval at *
  unfold gcells at *
  dsimp only at *
  refine (callsIn_wide (n := 6)).1 ?_
  refine callsIn_of_wp_marks Tryz.func46 rfl trivial ?_ rfl
  simp only [Tryz.ntmps46, List.size_toArray, List.length_cons, List.length_nil, Nat.reduceAdd, Nat.reduceSub, Array.replicate_succ, Array.replicate_zero, List.push_toArray, List.append_toArray, List.nil_append, List.cons_append]
  replace hvl := Lib.hid hvl
  gi_wp2_with (refine ⟨trivial, ?_⟩; gi_at_call 64; refine (callsIn_wide.2 (hPr.out _)).mono ?_; rintro e w2 ⟨B, rfl, hB1, hB2, hB3⟩)
  have bR : Blk w2 (w.heap.size + 1) 29 #[.int .i64 0] := (Blk.newAt _ _ _ _ (by simp)).step hB3
  have hG := (hG0.alloc _).step hB3
  have hw2 := bR.lt
  clear hG0
  refine wpIn_rangeFunc_ownH (F := Fence.wide) rfl (by omega) (gf := 93) (lb := #[.pointer (some ⟨B, 0, none⟩)]) rfl trivial (enters_of Tryz.func93 (by kernel_rfl) rfl)
    (allg_stops (oxAt vs) encO 5 (by omega) B w.heap.size pa g.prods.length pc vs (by omega) (fun k hk => by have := hvl.out; show encP (min k vs.length, vs.getD k default) = _; rw [show min k vs.length = k by omega]) w2 hB2 hG.2.2.size hB1 (hvs2.below hG.2.2)) belowK_t (belowK_b hG.2.2.size) (Below.refl _ _) (fun _ => rfl)
    (OrI w g ⟨ta, tc, na, nc, pa, pc⟩ vs 0) (OrX w g ⟨ta, tc, na, nc, pa, pc⟩ vs 9) (orI_own w g _ _ 0 hw2) (orX_own w g _ _ 9 hw2)
    ⟨rfl, bR, hG⟩
    (fun x a' W => ∃ Bx, w.heap.size + 1 < Bx ∧ Blk W Bx 37 #[.int .i64 x.1.2.p.left, .slice x.1.2.ra x.1.2.p.right.length x.1.2.rc] ∧ ∃ (u0 u5 u6 u7 u8 u9 u10 u11 u12 u13 u14 u15 u16 u17 u18 u19 u20 u21 u22 : Value), a' = { tmps := #[u0, .pointer (some ⟨w.heap.size, 0, none⟩), .pointer (some ⟨w.heap.size + 1, 0, none⟩), .int .i64 (x.1.1 : Int), .pointer (some ⟨Bx, 0, none⟩), u5, u6, u7, u8, u9, u10, u11, u12, u13, u14, u15, u16, u17, u18, u19, u20, u21, u22], defers := [] })
    (fun x a' _ X Y row hs hg hr => by obtain ⟨Bx, h1, h2, h3⟩ := hs; exact ⟨Bx, h1, blk_own Bx 37 (fun (_ : Unit) => #[.int .i64 x.1.2.p.left, .slice x.1.2.ra x.1.2.p.right.length x.1.2.rc]) () X Y row h2 hg (fun r e => (hr r e).2), h3⟩)
    ?assign ?body ?done ?stop
  case assign =>
    rintro l pre x W K ⟨hp, bR1, hG1⟩ hK
    dsimp only [encO, encP]
    gi_wp2
    exact hK _ _ ((KeepsOthers.alloc _ _).from _) ((Below.refl _ W).alloc hG1.2.2.size _) ⟨hp, bR1.alloc _, hG1.alloc _⟩ ⟨W.heap.size, by have := bR1.lt; omega, Blk.new W 37 _, _, _, _, _, _, _, _, _, _, _, _, _, _, _, _, _, _, _, _, rfl⟩
  case body =>
    rintro l pre x a' W hl ⟨r, hr⟩ ⟨hp, bR1, hG1⟩ ⟨Bx, hBx, bX, u0, u5, u6, u7, u8, u9, u10, u11, u12, u13, u14, u15, u16, u17, u18, u19, u20, u21, u22, rfl⟩ hlt
    have p0 := bX.cell 0
    have r0 := bR1.cell 0
    have f0 := bR1.frozen 0
    simp only [List.getElem?_toArray, List.getElem?_cons_zero, List.getElem?_cons_succ] at p0 r0
    obtain ⟨c0, c1, c2, c3, c4, c5⟩ := hG1.cells
    dsimp only at c1 c3 c5
    have hq := Lib.hid (oxAll_snoc vs pre x)
    have hp' := Lib.hid hp
    clear hp
    obtain ⟨⟨i, y⟩, hix⟩ := x
    dsimp only at hix p0 bX ⊢
    cases i with
    | zero =>
      have hqT : oxAll vs (pre ++ [⟨(0, y), hix⟩]) = true := by rw [hq.out, hp'.out]; simp [oxOk]
      replace hqT := Lib.hid hqT
      gi_wp2
      refine wpIn_region_quietR_lit rfl (by kernel_rfl) (by kernel_rfl) (by kernel_rfl) ?_
      repeat (gi_big_quiet_step (fail))
      refine wpQuietIn_nil ?_
      intro _ hw'
      obtain ⟨nq, hw''⟩ := hw'
      subst hw''
      gi_wp2
      exact ⟨keeps_below (bDrwN' W _), (bDrwN' W _).mono hG1.2.2.size, hqT.out, bR1.drewN _, hG1.drewN _⟩
    | succ j =>
      have hjn : j < g.prods.length := by have := hvl.out; omega
      obtain ⟨p, hpj, hpl⟩ := hVp.out j (by omega)
      obtain ⟨b, off, hA, hbt, z0, RA, rc, z1, hz2, hz3, hz4⟩ := hG1.2.1.prods.get hpj
      dsimp only at hA
      subst hA
      replace hpl := Lib.hid hpl
      replace hpj := Lib.hid hpj
      have zI : ((j + 1 : Nat) : Int) - 1 = (j : Int) := by omega
      have zw : IntKind.i64.wrap (j : Int) = j := IntWalk.i64_in _ (by omega)
      have z0' : (0 : Int) < ((j + 1 : Nat) : Int) := by omega
      have z2 : (0 : Int) ≤ j := by omega
      have z5 : (j : Int) < g.prods.length := by omega
      generalize p.left = pl at *
      generalize hyl : y.p.left = yl at *
      by_cases hle : yl < pl
      · have hqF : oxAll vs (pre ++ [⟨(j + 1, y), hix⟩]) = false := by
          rw [hq.out, hp'.out, Bool.true_and]
          simp only [oxOk]
          rw [show j + 1 - 1 = j from rfl, hpl.out, hyl]
          simp; omega
        replace hqF := Lib.hid hqF
        replace hyl := Lib.hid hyl
        gi_wp2
        refine wpIn_region_quietR_lit rfl (by kernel_rfl) (by kernel_rfl) (by kernel_rfl) ?_
        repeat (gi_big_quiet_step (fail))
        refine wpQuietIn_nil ?_
        intro _ hw'
        obtain ⟨nq, hw''⟩ := hw'
        subst hw''
        gi_wp2
        exact ⟨(keeps_below (bDrwN' W _)).trans ((KeepsOthers.setCell _ _ _).from _), ⟨rfl, hqF.out⟩, (bR1.drewN _).put 0 _, (hG1.drewN _).far _ _ (by simp)⟩
      · have hqT : oxAll vs (pre ++ [⟨(j + 1, y), hix⟩]) = true := by
          rw [hq.out, hp'.out, Bool.true_and]
          simp only [oxOk]
          rw [show j + 1 - 1 = j from rfl, hpl.out, hyl]
          simp; omega
        replace hqT := Lib.hid hqT
        replace hyl := Lib.hid hyl
        gi_wp2
        refine wpIn_region_quietR_lit rfl (by kernel_rfl) (by kernel_rfl) (by kernel_rfl) ?_
        repeat (gi_big_quiet_step (fail))
        refine wpQuietIn_nil ?_
        intro _ hw'
        obtain ⟨nq, hw''⟩ := hw'
        subst hw''
        gi_wp2
        exact ⟨keeps_below (bDrwN' W _), (bDrwN' W _).mono hG1.2.2.size, hqT.out, bR1.drewN _, hG1.drewN _⟩
  case done =>
    rintro D ys W hD rfl ⟨hp, bR1, hG1⟩ hK
    have hoT : ordB g = true := by
      rw [hO.out]
      intro j p q hp1 hq1
      have := (List.getElem?_eq_some_iff.1 hq1).1
      exact (hX.out g.prods.length (by have := hvl.out; omega)).1 hp j p q (by omega) hp1 hq1
    have hR3 : R = 0 := by rw [hR.out, if_neg (by rw [hoT]; simp)]
    subst hR3
    have r0 := bR1.cell 0
    have f0 := bR1.frozen 0
    simp only [List.getElem?_toArray, List.getElem?_cons_zero, List.getElem?_cons_succ] at r0
    replace hp := Lib.hid hp
    replace hoT := Lib.hid hoT
    gi_wp2
    have hK' := (KeepsOthers.setCell W ⟨w.heap.size + 1, 0, none⟩ (.int .i64 0)).same D _ hK rfl
    refine ⟨by simp, .inl ⟨_, _, rfl, run_takeDeferred hK', ?_⟩⟩
    have b2 := (bR1.put 0 (.int .i64 0)).grown (grownBy_putObj' _ D (.deferred none)) (by simp; omega)
    exact ⟨_, results_cell30 rfl _ _ _ _ rfl (b2.cell 0), rfl, (bSet hG1.2.2 _ _ (by simp <;> omega)).trans (belowK_b (w := w) (Nat.le_refl _) _ D _ _ (by omega) hK' rfl rfl)⟩
  case stop =>
    rintro D c pre W hD ⟨k, hk, rfl⟩ ⟨⟨rfl, hqF⟩, bR1, hG1⟩ hK
    have hoF : ordB g = false := by
      cases ho : ordB g with
      | false => rfl
      | true =>
        have := (hX.out k (by have := hvl.out; omega)).2 (fun j p q _ h1 h2 => (hO.out.1 ho) j p q h1 h2)
        rw [this] at hqF; cases hqF
    have hR3 : R = 9 := by rw [hR.out, if_pos hoF]
    subst hR3
    replace hqF := Lib.hid hqF
    replace hoF := Lib.hid hoF
    gi_wp2
    refine ⟨by simp, .inl ⟨_, _, rfl, run_takeDeferred hK, ?_⟩⟩
    have b2 := bR1.grown (grownBy_putObj' _ D (.deferred none)) (by simp; omega)
    exact ⟨_, results_cell30 rfl _ _ _ _ rfl (b2.cell 0), rfl, hG1.2.2.trans (belowK_b (w := w) (Nat.le_refl _) _ D _ _ (by omega) hK rfl rfl)⟩
end Go.Proofs.YtlngbphchhbpbaaGreat

/- grammar.Check. -/
namespace Go.Proofs.YtlngbphchhbpbaaGreat
open Go.ChangeShapes Go.WideShapes Go.ChangeAt Go.RowKit
set_option linter.unusedVariables false

/-- the six questions, in their order -/
def stepE (g : Gr) : Nat → Int
  | 0 => if fullB g = false then 6 else 0
  | 1 => if shortB g = true then 5 else if nameB g = false then 12 else 0
  | 2 => if ((g.toks ++ [g.sep]) ++ g.names).Nodup then 0 else 8
  | 3 => if symB g = false then 14 else 0
  | 4 => if ordB g = false then 9 else 0
  | _ => if compB g = false then 7 else 0

theorem small_not_cap (s : ByteArray) (h1 : smallB s = true) (h2 : capB s = true) : False := by
  unfold smallB at h1; unfold capB at h2
  simp only [Bool.and_eq_true, decide_eq_true_eq] at h1 h2
  omega

theorem diff_of_name (g : Gr) (h : nameB g = true) : (((g.toks ++ [g.sep]) ++ g.names).Nodup ↔ diffB g = true) := by
  unfold nameB at h
  unfold diffB
  rw [Bool.and_eq_true, List.all_eq_true, List.all_eq_true] at h
  rw [List.nodup_append]
  simp only [Bool.and_eq_true, decide_eq_true_eq]
  constructor
  · intro hh; exact ⟨hh.1, hh.2.1⟩
  · intro hh; exact ⟨hh.1, hh.2, fun a ha b hb e => small_not_cap a (h.1 a ha) (by rw [e]; exact h.2 b hb)⟩

theorem gchk_step (g : Gr) (hk : ¬ (g.k < 1 ∨ 4 < g.k)) (j : Nat) (hj : j < 6) (h0 : ∀ i, i < j → stepE g i = 0) (h1 : stepE g j ≠ 0) : gchk g = stepE g j := by
  have a0 := fun h => h0 0 h
  have a1 := fun h => h0 1 h
  have a2 := fun h => h0 2 h
  have a3 := fun h => h0 3 h
  have a4 := fun h => h0 4 h
  unfold gchk
  rw [if_neg hk]
  have hd := diff_of_name g
  have e4 : nameB g = true → (diffB g = false ↔ ¬ ((g.toks ++ [g.sep]) ++ g.names).Nodup) := fun h => by rw [hd h]; simp
  simp only [List.append_assoc, List.cons_append, List.nil_append] at e4
  clear hd
  rcases (show j = 0 ∨ j = 1 ∨ j = 2 ∨ j = 3 ∨ j = 4 ∨ j = 5 by omega) with rfl | rfl | rfl | rfl | rfl | rfl <;>
    simp [stepE] at a0 a1 a2 a3 a4 h1 ⊢ <;> (cases hsh : shortB g <;> cases hnm : nameB g <;> simp_all)

theorem gchk_last (g : Gr) (hk : ¬ (g.k < 1 ∨ 4 < g.k)) (h0 : ∀ i, i < 6 → stepE g i = 0) : gchk g = 0 := by
  have a0 := h0 0 (by omega)
  have a1 := h0 1 (by omega)
  have a2 := h0 2 (by omega)
  have a3 := h0 3 (by omega)
  have a4 := h0 4 (by omega)
  have a5 := h0 5 (by omega)
  unfold gchk
  rw [if_neg hk]
  have hd := diff_of_name g
  have e4 : nameB g = true → (diffB g = false ↔ ¬ ((g.toks ++ [g.sep]) ++ g.names).Nodup) := fun h => by rw [hd h]; simp
  simp only [List.append_assoc, List.cons_append, List.nil_append] at e4
  clear hd
  simp [stepE] at a0 a1 a2 a3 a4 a5 ⊢
  cases hsh : shortB g <;> cases hnm : nameB g <;> simp_all

theorem zeros_succ {f : Nat → Int} {n : Nat} (h : ∀ i, i < n → f i = 0) (h2 : f n = 0) : ∀ i, i < n + 1 → f i = 0 := fun i hi => by
  rcases Nat.lt_succ_iff_lt_or_eq.1 hi with h3 | rfl
  · exact h i h3
  · exact h2

def chkFuns : Array Value := #[.func (.func 42) #[] #[], .func (.func 43) #[] #[], .func (.func 44) #[] #[], .func (.func 45) #[] #[], .func (.func 46) #[] #[], .func (.func 47) #[] #[]]

set_option maxHeartbeats 4000000 in
theorem gcheck_any (g : Gr) (a : GA) (w : World) (hg : GrAt w w.heap.size g a) (hs : Small g) : Calls Tryz.prog 27 #[gval g a] w fun e w' => e = .returned (.int .i64 (gchk g)) ∧ Below w.heap.size w w' := by
  obtain ⟨ta, tc, na, nc, pa, pc⟩ := a
  obtain ⟨R, hR⟩ : ∃ R : Int, R = gchk g := ⟨_, rfl⟩
  rw [← hR]
  replace hR := Lib.hid hR
  have hG0 := GB.start hg
  have hS := Lib.hid (gchk_step g)
  have hL := Lib.hid (gchk_last g)
  have hA := Lib.hid (fun W (h : GrAt W W.heap.size g ⟨ta, tc, na, nc, pa, pc⟩) => show Calls Tryz.prog 42 #[gval g ⟨ta, tc, na, nc, pa, pc⟩] W fun e w' => e = .returned (.int .i64 (stepE g 0)) ∧ Below W.heap.size W w' from many_any g ⟨ta, tc, na, nc, pa, pc⟩ W h hs)
  have hB := Lib.hid (fun W (h : GrAt W W.heap.size g ⟨ta, tc, na, nc, pa, pc⟩) => show Calls Tryz.prog 43 #[gval g ⟨ta, tc, na, nc, pa, pc⟩] W fun e w' => e = .returned (.int .i64 (stepE g 1)) ∧ Below W.heap.size W w' from named_any g ⟨ta, tc, na, nc, pa, pc⟩ W h hs)
  have hC := Lib.hid (fun W (h : GrAt W W.heap.size g ⟨ta, tc, na, nc, pa, pc⟩) (h1 : stepE g 1 = 0) => show Calls Tryz.prog 44 #[gval g ⟨ta, tc, na, nc, pa, pc⟩] W fun e w' => e = .returned (.int .i64 (stepE g 2)) ∧ Below W.heap.size W w' from different_any g ⟨ta, tc, na, nc, pa, pc⟩ W h hs (fun h0 => by simp [stepE, shortB, h0] at h1))
  have hD := Lib.hid (fun W (h : GrAt W W.heap.size g ⟨ta, tc, na, nc, pa, pc⟩) => show Calls Tryz.prog 45 #[gval g ⟨ta, tc, na, nc, pa, pc⟩] W fun e w' => e = .returned (.int .i64 (stepE g 3)) ∧ Below W.heap.size W w' from symbols_any g ⟨ta, tc, na, nc, pa, pc⟩ W h hs)
  have hE := Lib.hid (fun W (h : GrAt W W.heap.size g ⟨ta, tc, na, nc, pa, pc⟩) => show Calls Tryz.prog 46 #[gval g ⟨ta, tc, na, nc, pa, pc⟩] W fun e w' => e = .returned (.int .i64 (stepE g 4)) ∧ Below W.heap.size W w' from ordered_any g ⟨ta, tc, na, nc, pa, pc⟩ W h hs)
  have hF := Lib.hid (fun W (h : GrAt W W.heap.size g ⟨ta, tc, na, nc, pa, pc⟩) => show Calls Tryz.prog 47 #[gval g ⟨ta, tc, na, nc, pa, pc⟩] W fun e w' => e = .returned (.int .i64 (stepE g 5)) ∧ Below W.heap.size W w' from complete_any g ⟨ta, tc, na, nc, pa, pc⟩ W h hs)
  clear hg hs
  unfold gval at *
  unfold gcells at hA hB hC hD hE hF hG0 ⊢
  dsimp only at *
  go_enter Tryz.func27, Tryz.ntmps27
  go_wp2_with fail
  go_step3
  go_upto_region 1 with (fail)
  obtain ⟨W, hW⟩ : ∃ W, W = w.alloc (.cells #[.int .i64 g.k, .slice ta g.toks.length tc, .string g.sep, .slice na g.names.length nc, .int .i64 g.start, .slice pa g.prods.length pc] 25) := ⟨_, rfl⟩
  rw [← hW] at hG0 ⊢
  clear hW
  obtain ⟨c0, c1, c2, c3, c4, c5⟩ := hG0.cells
  dsimp only at c1 c3 c5
  by_cases k1 : g.k < 1
  · have hR1 : R = 2 := hR.out.trans (gchk_1 (.inl k1))
    subst hR1
    go_wp2_with fail
    try rw [Exit.noGoto_ret]
    go_ret
    exact ⟨rfl, hG0.2.2⟩
  by_cases k2 : 4 < g.k
  · have hR1 : R = 2 := hR.out.trans (gchk_1 (.inr k2))
    subst hR1
    go_wp2_with fail
    try rw [Exit.noGoto_ret]
    go_ret
    exact ⟨rfl, hG0.2.2⟩
  have hk : ¬ (g.k < 1 ∨ 4 < g.k) := by omega
  replace hk := Lib.hid hk
  obtain ⟨B, hB0⟩ : ∃ B, B = W.heap.size := ⟨_, rfl⟩
  have hbF : Blk (W.alloc (.cells chkFuns 52)) B 52 chkFuns := Blk.newAt _ _ _ _ hB0
  have hG := hG0.alloc (.cells chkFuns 52)
  have hBw : w.heap.size < B := by rw [hB0]; exact hG0.lt
  clear hG0
  unfold chkFuns at hbF hG
  replace hB0 := Lib.hid hB0
  go_wp2_with fail
  go_step3
  go_wp2_with fail
  rw [← hB0.out]
  clear hB0 c0 c1 c2 c3 c4 c5
  go_loopg [15, 2] 6 (fun gk s15 s2 wr => ∃ j : Nat, s15 = .int .i64 j ∧ s2 = .int .i64 0 ∧ j + gk = 6 ∧ GB w g ⟨ta, tc, na, nc, pa, pc⟩ wr ∧ Blk wr B 52 #[.func (.func 42) #[] #[], .func (.func 43) #[] #[], .func (.func 44) #[] #[], .func (.func 45) #[] #[], .func (.func 46) #[] #[], .func (.func 47) #[] #[]] ∧ ∀ i, i < j → stepE g i = 0)
  case atStart => exact ⟨0, rfl, rfl, rfl, hG, hbF, by intro i h; omega⟩
  case round =>
    clear hG hbF
    obtain ⟨j, rfl, rfl, hj, hG, hbF, h0⟩ := hrel
    replace h0 := Lib.hid h0
    have cB0 := hbF.cell 0
    have cB1 := hbF.cell 1
    have cB2 := hbF.cell 2
    have cB3 := hbF.cell 3
    have cB4 := hbF.cell 4
    have cB5 := hbF.cell 5
    simp only [List.getElem?_toArray, List.getElem?_cons_zero, List.getElem?_cons_succ] at cB0 cB1 cB2 cB3 cB4 cB5
    obtain ⟨c0, c1, c2, c3, c4, c5⟩ := hG.cells
    dsimp only at c1 c3 c5
    by_cases hj6 : j = 6
    · subst hj6
      have hR3 : R = 0 := hR.out.trans (hL.out hk.out h0.out)
      subst hR3
      go_wp2_with fail
      try rw [Exit.noGoto_ret]
      go_ret
      exact ⟨rfl, hG.2.2⟩
    rcases (show j = 0 ∨ j = 1 ∨ j = 2 ∨ j = 3 ∨ j = 4 ∨ j = 5 by omega) with rfl | rfl | rfl | rfl | rfl | rfl
    · obtain ⟨E, hE0⟩ : ∃ E, E = stepE g 0 := ⟨_, rfl⟩
      have hc := Lib.hid (hA.out wr (hG.2.1.mono hG.2.2.size))
      rw [← hE0] at hc
      replace hE0 := Lib.hid hE0
      by_cases hz : E = 0
      · have hzz := Lib.hid (hE0.out.symm.trans hz)
        subst hz
        go_wp2_with (go_at_call 42; refine hc.out.mono ?_; rintro e w3 ⟨rfl, hb3⟩)
        go_roundg (6 - (0 + 1))
        case measure => omega
        case rel => exact ⟨0 + 1, by go_num, rfl, by omega, hG.step hb3, hbF.step hb3, zeros_succ h0.out hzz.out⟩
      · have hR3 : R = E := by rw [hR.out, hS.out hk.out 0 (by omega) h0.out (by rw [← hE0.out]; exact hz), ← hE0.out]
        subst hR3
        have hzb : (R == 0) = false := by simpa using hz
        go_wp2_with (go_at_call 42; refine hc.out.mono ?_; rintro e w3 ⟨rfl, hb3⟩)
        try rw [Exit.noGoto_ret]
        go_ret
        exact ⟨rfl, (hG.step hb3).2.2⟩
    · obtain ⟨E, hE0⟩ : ∃ E, E = stepE g 1 := ⟨_, rfl⟩
      have hc := Lib.hid (hB.out wr (hG.2.1.mono hG.2.2.size))
      rw [← hE0] at hc
      replace hE0 := Lib.hid hE0
      by_cases hz : E = 0
      · have hzz := Lib.hid (hE0.out.symm.trans hz)
        subst hz
        go_wp2_with (go_at_call 43; refine hc.out.mono ?_; rintro e w3 ⟨rfl, hb3⟩)
        go_roundg (6 - (1 + 1))
        case measure => omega
        case rel => exact ⟨1 + 1, by go_num, rfl, by omega, hG.step hb3, hbF.step hb3, zeros_succ h0.out hzz.out⟩
      · have hR3 : R = E := by rw [hR.out, hS.out hk.out 1 (by omega) h0.out (by rw [← hE0.out]; exact hz), ← hE0.out]
        subst hR3
        have hzb : (R == 0) = false := by simpa using hz
        go_wp2_with (go_at_call 43; refine hc.out.mono ?_; rintro e w3 ⟨rfl, hb3⟩)
        try rw [Exit.noGoto_ret]
        go_ret
        exact ⟨rfl, (hG.step hb3).2.2⟩
    · obtain ⟨E, hE0⟩ : ∃ E, E = stepE g 2 := ⟨_, rfl⟩
      have hc := Lib.hid (hC.out wr (hG.2.1.mono hG.2.2.size) (h0.out 1 (by omega)))
      rw [← hE0] at hc
      replace hE0 := Lib.hid hE0
      by_cases hz : E = 0
      · have hzz := Lib.hid (hE0.out.symm.trans hz)
        subst hz
        go_wp2_with (go_at_call 44; refine hc.out.mono ?_; rintro e w3 ⟨rfl, hb3⟩)
        go_roundg (6 - (2 + 1))
        case measure => omega
        case rel => exact ⟨2 + 1, by go_num, rfl, by omega, hG.step hb3, hbF.step hb3, zeros_succ h0.out hzz.out⟩
      · have hR3 : R = E := by rw [hR.out, hS.out hk.out 2 (by omega) h0.out (by rw [← hE0.out]; exact hz), ← hE0.out]
        subst hR3
        have hzb : (R == 0) = false := by simpa using hz
        go_wp2_with (go_at_call 44; refine hc.out.mono ?_; rintro e w3 ⟨rfl, hb3⟩)
        try rw [Exit.noGoto_ret]
        go_ret
        exact ⟨rfl, (hG.step hb3).2.2⟩
    · obtain ⟨E, hE0⟩ : ∃ E, E = stepE g 3 := ⟨_, rfl⟩
      have hc := Lib.hid (hD.out wr (hG.2.1.mono hG.2.2.size))
      rw [← hE0] at hc
      replace hE0 := Lib.hid hE0
      by_cases hz : E = 0
      · have hzz := Lib.hid (hE0.out.symm.trans hz)
        subst hz
        go_wp2_with (go_at_call 45; refine hc.out.mono ?_; rintro e w3 ⟨rfl, hb3⟩)
        go_roundg (6 - (3 + 1))
        case measure => omega
        case rel => exact ⟨3 + 1, by go_num, rfl, by omega, hG.step hb3, hbF.step hb3, zeros_succ h0.out hzz.out⟩
      · have hR3 : R = E := by rw [hR.out, hS.out hk.out 3 (by omega) h0.out (by rw [← hE0.out]; exact hz), ← hE0.out]
        subst hR3
        have hzb : (R == 0) = false := by simpa using hz
        go_wp2_with (go_at_call 45; refine hc.out.mono ?_; rintro e w3 ⟨rfl, hb3⟩)
        try rw [Exit.noGoto_ret]
        go_ret
        exact ⟨rfl, (hG.step hb3).2.2⟩
    · obtain ⟨E, hE0⟩ : ∃ E, E = stepE g 4 := ⟨_, rfl⟩
      have hc := Lib.hid (hE.out wr (hG.2.1.mono hG.2.2.size))
      rw [← hE0] at hc
      replace hE0 := Lib.hid hE0
      by_cases hz : E = 0
      · have hzz := Lib.hid (hE0.out.symm.trans hz)
        subst hz
        go_wp2_with (go_at_call 46; refine hc.out.mono ?_; rintro e w3 ⟨rfl, hb3⟩)
        go_roundg (6 - (4 + 1))
        case measure => omega
        case rel => exact ⟨4 + 1, by go_num, rfl, by omega, hG.step hb3, hbF.step hb3, zeros_succ h0.out hzz.out⟩
      · have hR3 : R = E := by rw [hR.out, hS.out hk.out 4 (by omega) h0.out (by rw [← hE0.out]; exact hz), ← hE0.out]
        subst hR3
        have hzb : (R == 0) = false := by simpa using hz
        go_wp2_with (go_at_call 46; refine hc.out.mono ?_; rintro e w3 ⟨rfl, hb3⟩)
        try rw [Exit.noGoto_ret]
        go_ret
        exact ⟨rfl, (hG.step hb3).2.2⟩
    · obtain ⟨E, hE0⟩ : ∃ E, E = stepE g 5 := ⟨_, rfl⟩
      have hc := Lib.hid (hF.out wr (hG.2.1.mono hG.2.2.size))
      rw [← hE0] at hc
      replace hE0 := Lib.hid hE0
      by_cases hz : E = 0
      · have hzz := Lib.hid (hE0.out.symm.trans hz)
        subst hz
        go_wp2_with (go_at_call 47; refine hc.out.mono ?_; rintro e w3 ⟨rfl, hb3⟩)
        go_roundg (6 - (5 + 1))
        case measure => omega
        case rel => exact ⟨5 + 1, by go_num, rfl, by omega, hG.step hb3, hbF.step hb3, zeros_succ h0.out hzz.out⟩
      · have hR3 : R = E := by rw [hR.out, hS.out hk.out 5 (by omega) h0.out (by rw [← hE0.out]; exact hz), ← hE0.out]
        subst hR3
        have hzb : (R == 0) = false := by simpa using hz
        go_wp2_with (go_at_call 47; refine hc.out.mono ?_; rintro e w3 ⟨rfl, hb3⟩)
        try rw [Exit.noGoto_ret]
        go_ret
        exact ⟨rfl, (hG.step hb3).2.2⟩
end Go.Proofs.YtlngbphchhbpbaaGreat

/- The kit: Mod, At, OwnTexts, OwnInts. -/
namespace Go.Proofs.YtlngbphchhbpbaaGreat
open Go.ChangeShapes Go.WideShapes Go.ChangeAt Go.RowKit
set_option linter.unusedVariables false

theorem mod_lo (a m : Int) (hm : 0 < m) (h : a.tmod m < 0) : a.tmod m + m = a % m := by
  have h1 := (Int.tmod_eq_emod : a.tmod m = _)
  have h2 := Int.emod_nonneg a (by omega : m ≠ 0)
  have h3 := Int.emod_lt_of_pos a hm
  split at h1 <;> omega
theorem mod_hi (a m : Int) (hm : 0 < m) (h : ¬ a.tmod m < 0) : a.tmod m = a % m := by
  have h1 := (Int.tmod_eq_emod : a.tmod m = _)
  have h2 := Int.emod_nonneg a (by omega : m ≠ 0)
  have h3 := Int.emod_lt_of_pos a hm
  split at h1 <;> omega
theorem mod_bd (a m : Int) (hm : 0 < m) : -m < a.tmod m ∧ a.tmod m < m := by
  have h1 := (Int.tmod_eq_emod : a.tmod m = _)
  have h2 := Int.emod_nonneg a (by omega : m ≠ 0)
  have h3 := Int.emod_lt_of_pos a hm
  split at h1 <;> omega

def RetS (w : World) (l : List ByteArray) (e : Ending) (w' : World) : Prop := ∃ v, e = .returned v ∧ Own1 w' w.heap.size 9 v (strs l) ∧ Below w.heap.size w w'
end Go.Proofs.YtlngbphchhbpbaaGreat

/- Grammars out of numbers, plainly; what a right grammar gives. -/
namespace Go.Proofs.YtlngbphchhbpbaaGreat
set_option linter.unusedVariables false

/-- a grammar that is right, as the sets use it -/
structure GOk (g : Gr) (k : Nat) : Prop where
  hk : g.k = (k : Int)
  k1 : 1 ≤ k
  k4 : k ≤ 4
  tk : 1 ≤ g.toks.length ∧ g.toks.length ≤ 8
  nm : 1 ≤ g.names.length ∧ g.names.length ≤ 8
  pl : g.prods.length ≤ 24
  st : 16 ≤ g.start ∧ g.start < 16 + (g.names.length : Int)
  pr : ∀ p ∈ g.prods, (16 ≤ p.left ∧ p.left < 16 + (g.names.length : Int)) ∧ p.right.length ≤ 6 ∧ ∀ s ∈ p.right, (0 ≤ s ∧ s < g.toks.length) ∨ (16 ≤ s ∧ s < 16 + (g.names.length : Int))
theorem fullB_iff (g : Gr) : fullB g = true ↔ g.toks.length ≤ 8 ∧ g.names.length ≤ 8 ∧ g.prods.length ≤ 24 ∧ ∀ p ∈ g.prods, p.right.length ≤ 6 := by
  simp [fullB]
theorem shortB_iff (g : Gr) : shortB g = false ↔ 1 ≤ g.toks.length ∧ 1 ≤ g.names.length := by
  unfold shortB
  rw [Bool.or_eq_false_iff, decide_eq_false_iff_not, decide_eq_false_iff_not]
  omega
theorem symB_iff (g : Gr) : symB g = true ↔ (16 ≤ g.start ∧ g.start < 16 + (g.names.length : Int)) ∧ ∀ p ∈ g.prods, (16 ≤ p.left ∧ p.left < 16 + (g.names.length : Int)) ∧ ∀ s ∈ p.right, (0 ≤ s ∧ s < (g.toks.length : Int)) ∨ (16 ≤ s ∧ s < 16 + (g.names.length : Int)) := by
  unfold symB ntB tmB
  rw [Bool.and_eq_true, decide_eq_true_iff, List.all_eq_true]
  refine and_congr Iff.rfl (forall_congr' fun p => imp_congr Iff.rfl ?_)
  rw [Bool.and_eq_true, decide_eq_true_iff, List.all_eq_true]
  refine and_congr Iff.rfl (forall_congr' fun s => imp_congr Iff.rfl ?_)
  rw [Bool.or_eq_true, decide_eq_true_iff, decide_eq_true_iff]
theorem gchk_iff (g : Gr) : gchk g = 0 ↔ (1 ≤ g.k ∧ g.k ≤ 4) ∧ fullB g = true ∧ shortB g = false ∧ nameB g = true ∧ diffB g = true ∧ symB g = true ∧ ordB g = true ∧ compB g = true := by
  unfold gchk
  by_cases h1 : g.k < 1 ∨ 4 < g.k
  · rw [if_pos h1]; constructor
    · intro h; cases h
    · rintro ⟨⟨a, b⟩, _⟩; omega
  · rw [if_neg h1]
    have h1' : 1 ≤ g.k ∧ g.k ≤ 4 := by omega
    cases fullB g <;> cases shortB g <;> cases nameB g <;> cases diffB g <;> cases symB g <;> cases ordB g <;> cases compB g <;> simp [h1']
theorem gok_of {g : Gr} (h : gchk g = 0) : GOk g g.k.toNat := by
  obtain ⟨⟨h1, h2⟩, h3, h4, _, _, h5, _, _⟩ := (gchk_iff g).1 h
  obtain ⟨f1, f2, f3, f4⟩ := (fullB_iff g).1 h3
  obtain ⟨s1, s2⟩ := (shortB_iff g).1 h4
  obtain ⟨y1, y2⟩ := (symB_iff g).1 h5
  exact ⟨by omega, by omega, by omega, ⟨s1, f1⟩, ⟨s2, f2⟩, f3, y1, fun p hp => ⟨(y2 p hp).1, f4 p hp, (y2 p hp).2⟩⟩

/-- number i, made small -/
def numA (l : List Int) (i : Nat) : Int := l.getD i 0 % 1073741824
theorem numA_bd (l : List Int) (i : Nat) : 0 ≤ numA l i ∧ numA l i < 1073741824 := by unfold numA; omega
def symA (t m z : Int) : Int := if z % 5 < 3 then z % t else 16 + z % m
def digA (y : Int) (s : Nat) : Int := y / 4 / (16 ^ s : Nat) % 16
def rightA (t m y : Int) : List Int := (List.range (y % 4).toNat).map fun s => symA t m (digA y s)
def prA (l : List Int) (t m : Int) (i j : Nat) : Pr := ⟨16 + (i : Int), rightA t m (numA l (4 + 3 * i + j))⟩
def addA (l : List Int) (t m : Int) (i : Nat) (ps : List Pr) (j : Nat) : List Pr := if ps.length < 7 then ps ++ [prA l t m i j] else ps
def rowA (l : List Int) (t m : Int) (i : Nat) (ps : List Pr) : List Pr := (List.range ((numA l (1 + i) % 3).toNat + 1)).foldl (addA l t m i) ps
def prodsA (l : List Int) (t m : Int) (n : Nat) : List Pr := (List.range n).foldl (fun ps i => rowA l t m i ps) []
def nameA (i : Nat) : ByteArray := ⟨#[UInt8.ofNat (83 + i)]⟩
def toksA (t : Nat) : List ByteArray := [(⟨#[97]⟩ : ByteArray), ⟨#[98]⟩].take t
def tA (l : List Int) : Nat := 1 + (numA l 0 / 2 % 2).toNat
def mA (l : List Int) : Nat := 1 + (numA l 0 / 4 % 3).toNat
def anyG (l : List Int) : Gr := ⟨1 + numA l 0 % 2, toksA (tA l), ⟨#[122]⟩, (List.range (mA l)).map nameA, 16, prodsA l (tA l) (mA l) (mA l)⟩

theorem tA_bd (l : List Int) : tA l = 1 ∨ tA l = 2 := by unfold tA; omega
theorem mA_bd (l : List Int) : mA l = 1 ∨ mA l = 2 ∨ mA l = 3 := by unfold mA; omega
theorem toksA_len (t : Nat) (h : t = 1 ∨ t = 2) : (toksA t).length = t := by rcases h with rfl | rfl <;> rfl

/-- a production made of numbers is right -/
def PrRight (t m : Nat) (p : Pr) : Prop := p.right.length ≤ 3 ∧ ∀ s ∈ p.right, (0 ≤ s ∧ s < (t : Int)) ∨ (16 ≤ s ∧ s < 16 + (m : Int))
theorem symA_right (t m : Nat) (ht : 1 ≤ t) (hm : 1 ≤ m) (z : Int) (hz : 0 ≤ z) : (0 ≤ symA t m z ∧ symA t m z < (t : Int)) ∨ (16 ≤ symA t m z ∧ symA t m z < 16 + (m : Int)) := by
  unfold symA
  split
  · left; exact ⟨Int.emod_nonneg _ (by omega), Int.emod_lt_of_pos _ (by omega)⟩
  · right
    have := Int.emod_nonneg z (show (m : Int) ≠ 0 by omega)
    have := Int.emod_lt_of_pos z (show (0 : Int) < m by omega)
    omega
theorem prA_right (l : List Int) (t m : Nat) (ht : 1 ≤ t) (hm : 1 ≤ m) (i j : Nat) : PrRight t m (prA l t m i j) := by
  refine ⟨by simp only [prA, rightA, List.length_map, List.length_range]; omega, ?_⟩
  intro s hs
  simp only [prA, rightA, List.mem_map] at hs
  obtain ⟨d, _, rfl⟩ := hs
  exact symA_right t m ht hm _ (by unfold digA; omega)
/-- what holds of the productions when i nonterminals have theirs -/
structure RowsA (t m i : Nat) (ps : List Pr) : Prop where
  right : ∀ p ∈ ps, PrRight t m p
  left : ∀ p ∈ ps, 16 ≤ p.left ∧ p.left < 16 + (i : Int)
  asc : ps.Pairwise fun p q => p.left ≤ q.left
  all : ∀ j : Nat, j < i → ∃ p ∈ ps, p.left = 16 + (j : Int)
  len : ps.length ≤ 7
theorem addA_facts (l : List Int) (t m : Nat) (ht : 1 ≤ t) (hm : 1 ≤ m) (i : Nat) {ps : List Pr} (h1 : ∀ p ∈ ps, PrRight t m p) (h2 : ∀ p ∈ ps, 16 ≤ p.left ∧ p.left < 16 + ((i + 1 : Nat) : Int)) (h3 : ps.Pairwise fun p q => p.left ≤ q.left) (h5 : ps.length ≤ 7) (j : Nat) :
    (∀ p ∈ addA l t m i ps j, PrRight t m p) ∧ (∀ p ∈ addA l t m i ps j, 16 ≤ p.left ∧ p.left < 16 + ((i + 1 : Nat) : Int)) ∧ (addA l t m i ps j).Pairwise (fun p q => p.left ≤ q.left) ∧ (addA l t m i ps j).length ≤ 7 ∧ (∀ p ∈ ps, p ∈ addA l t m i ps j) ∧ (addA l t m i ps j).length ≤ ps.length + 1 := by
  unfold addA
  split
  · rename_i h
    refine ⟨?_, ?_, ?_, by simp; omega, fun p hp => List.mem_append_left _ hp, by simp⟩
    · intro p hp
      rcases List.mem_append.1 hp with h | h
      · exact h1 p h
      · simp at h; subst h; exact prA_right l t m ht hm i j
    · intro p hp
      rcases List.mem_append.1 hp with h | h
      · exact h2 p h
      · simp at h; subst h; simp only [prA]; omega
    · rw [List.pairwise_append]
      refine ⟨h3, List.pairwise_singleton _ _, fun p hp q hq => ?_⟩
      simp at hq; subst hq
      have := h2 p hp
      simp only [prA]; omega
  · exact ⟨h1, h2, h3, h5, fun p hp => hp, by omega⟩
theorem foldA_facts (l : List Int) (t m : Nat) (ht : 1 ≤ t) (hm : 1 ≤ m) (i : Nat) : ∀ (js : List Nat) {ps : List Pr} (h1 : ∀ p ∈ ps, PrRight t m p) (h2 : ∀ p ∈ ps, 16 ≤ p.left ∧ p.left < 16 + ((i + 1 : Nat) : Int)) (h3 : ps.Pairwise fun p q => p.left ≤ q.left) (h5 : ps.length ≤ 7),
    (∀ p ∈ js.foldl (addA l t m i) ps, PrRight t m p) ∧ (∀ p ∈ js.foldl (addA l t m i) ps, 16 ≤ p.left ∧ p.left < 16 + ((i + 1 : Nat) : Int)) ∧ (js.foldl (addA l t m i) ps).Pairwise (fun p q => p.left ≤ q.left) ∧ (js.foldl (addA l t m i) ps).length ≤ 7 ∧ (∀ p ∈ ps, p ∈ js.foldl (addA l t m i) ps) ∧ (js.foldl (addA l t m i) ps).length ≤ ps.length + js.length
  | [], ps, h1, h2, h3, h5 => ⟨h1, h2, h3, h5, fun p hp => hp, by simp⟩
  | j :: js, ps, h1, h2, h3, h5 => by
    obtain ⟨a1, a2, a3, a4, a5, a6⟩ := addA_facts l t m ht hm i h1 h2 h3 h5 j
    obtain ⟨b1, b2, b3, b4, b5, b6⟩ := foldA_facts l t m ht hm i js a1 a2 a3 a4
    refine ⟨b1, b2, b3, b4, fun p hp => b5 p (a5 p hp), ?_⟩
    simp only [List.foldl_cons, List.length_cons]
    omega
theorem rowA_len (l : List Int) (t m : Nat) (ht : 1 ≤ t) (hm : 1 ≤ m) (i : Nat) {ps : List Pr} (h : RowsA t m i ps) : (rowA l t m i ps).length ≤ ps.length + 3 := by
  obtain ⟨_, _, _, _, _, b6⟩ := foldA_facts l t m ht hm i (List.range ((numA l (1 + i) % 3).toNat + 1)) h.right (fun p hp => by have := h.left p hp; omega) h.asc h.len
  rw [List.length_range] at b6
  unfold rowA; omega
theorem rowA_facts (l : List Int) (t m : Nat) (ht : 1 ≤ t) (hm : 1 ≤ m) (i : Nat) {ps : List Pr} (h : RowsA t m i ps) (h6 : ps.length ≤ 6) : RowsA t m (i + 1) (rowA l t m i ps) := by
  obtain ⟨b1, b2, b3, b4, b5, b6⟩ := foldA_facts l t m ht hm i (List.range ((numA l (1 + i) % 3).toNat + 1)) h.right (fun p hp => by have := h.left p hp; omega) h.asc h.len
  refine ⟨b1, b2, b3, fun j hj => ?_, b4⟩
  by_cases hji : j < i
  · obtain ⟨p, hp, e⟩ := h.all j hji
    exact ⟨p, b5 p hp, e⟩
  · have : j = i := by omega
    subst this
    unfold rowA
    rw [List.range_succ_eq_map, List.foldl_cons]
    have ha : addA l t m j ps 0 = ps ++ [prA l t m j 0] := by unfold addA; rw [if_pos (by omega)]
    obtain ⟨a1, a2, a3, a4, _, _⟩ := addA_facts l t m ht hm j h.right (fun p hp => by have := h.left p hp; omega) h.asc h.len 0
    obtain ⟨_, _, _, _, c5, _⟩ := foldA_facts l t m ht hm j ((List.range (numA l (1 + j) % 3).toNat).map Nat.succ) a1 a2 a3 a4
    exact ⟨prA l t m j 0, c5 _ (by rw [ha]; simp), rfl⟩
theorem prodsA_facts (l : List Int) (t m : Nat) (ht : 1 ≤ t) (hm : 1 ≤ m) : ∀ n, n ≤ 3 → RowsA t m n (prodsA l t m n) ∧ (prodsA l t m n).length ≤ 3 * n
  | 0, _ => ⟨⟨by simp [prodsA], by simp [prodsA], by simp [prodsA], by omega, by simp [prodsA]⟩, by simp [prodsA]⟩
  | n + 1, h => by
    obtain ⟨h1, h2⟩ := prodsA_facts l t m ht hm n (by omega)
    have e : prodsA l t m (n + 1) = rowA l t m n (prodsA l t m n) := by simp [prodsA, List.range_succ]
    rw [e]
    have := rowA_len l t m ht hm n h1
    exact ⟨rowA_facts l t m ht hm n h1 (by omega), by omega⟩
theorem ordB_asc {g : Gr} (h : g.prods.Pairwise fun p q => p.left ≤ q.left) : ordB g = true := by
  unfold ordB
  rw [List.all_eq_true]
  intro i hi
  have hi := List.mem_range.1 hi
  by_cases h0 : i = 0
  · simp [h0]
  · have := List.pairwise_iff_getElem.1 h (i - 1) i (by omega) hi (by omega)
    simp [List.getD_eq_getElem?_getD, hi, show i - 1 < g.prods.length by omega, this]
theorem namesA_ok (t m : Nat) (ht : t = 1 ∨ t = 2) (hm : m = 1 ∨ m = 2 ∨ m = 3) : nameB ⟨1, toksA t, ⟨#[122]⟩, (List.range m).map nameA, 16, []⟩ = true ∧ diffB ⟨1, toksA t, ⟨#[122]⟩, (List.range m).map nameA, 16, []⟩ = true := by
  rcases ht with rfl | rfl <;> rcases hm with rfl | rfl | rfl <;> exact ⟨by decide +kernel, by decide +kernel⟩
/-- a grammar made of numbers is right -/
theorem anyG_ok (l : List Int) : gchk (anyG l) = 0 := by
  obtain ⟨⟨r1, r2, r3, r4, r5⟩, _⟩ := prodsA_facts l (tA l) (mA l) (by unfold tA; omega) (by unfold mA; omega) (mA l) (by unfold mA; omega)
  have ht := tA_bd l
  have hm := mA_bd l
  have hn := numA_bd l 0
  have hts := toksA_len (tA l) ht
  have hml : ((anyG l).names.length : Int) = (mA l : Int) := by simp [anyG]
  have htl : ((anyG l).toks.length : Int) = (tA l : Int) := by simp [anyG, hts]
  rw [gchk_iff]
  refine ⟨by simp only [anyG]; omega, ?_, ?_, ?_, ?_, ?_, ?_, ?_⟩
  · rw [fullB_iff]
    refine ⟨by omega, by omega, by simp only [anyG]; omega, fun p hp => ?_⟩
    have := (r1 p hp).1
    omega
  · rw [shortB_iff]; omega
  · have e : nameB (anyG l) = nameB ⟨1, toksA (tA l), ⟨#[122]⟩, (List.range (mA l)).map nameA, 16, []⟩ := rfl
    rw [e]
    exact (namesA_ok _ _ ht hm).1
  · have e : diffB (anyG l) = diffB ⟨1, toksA (tA l), ⟨#[122]⟩, (List.range (mA l)).map nameA, 16, []⟩ := rfl
    rw [e]
    exact (namesA_ok _ _ ht hm).2
  · rw [symB_iff, hml, htl]
    refine ⟨by simp only [anyG]; omega, fun p hp => ⟨?_, (r1 p hp).2⟩⟩
    have := r2 p hp
    omega
  · exact ordB_asc r3
  · unfold compB
    rw [List.all_eq_true]
    intro i hi
    have hi := List.mem_range.1 hi
    obtain ⟨p, hp, e⟩ := r4 i (by omega)
    rw [List.any_eq_true]
    exact ⟨p, hp, decide_eq_true e⟩
end Go.Proofs.YtlngbphchhbpbaaGreat

/- derive.Sentences: the walk. -/
namespace Go.Proofs.YtlngbphchhbpbaaGreat
open Go.ChangeShapes Go.WideShapes Go.ChangeAt Go.RowKit
set_option linter.unusedVariables false

def SetsO (W : World) (base bo n : Nat) (ss : List (List (List Int))) : Prop :=
  ∃ (cs : Array Value) (mbs : List Nat), Blk W bo 55 cs ∧ cs.size = n ∧ mbs.length = ss.length ∧ mbs.Nodup ∧ (∀ m ∈ mbs, base ≤ m ∧ m < W.heap.size) ∧
    ∀ (i m : Nat) (s : List (List Int)), mbs[i]? = some m → ss[i]? = some s → cs[i]? = some (.map (some m)) ∧ MapK textKey W m s
theorem SetsO.step {W W' : World} {base bo n : Nat} {ss : List (List (List Int))} (h : SetsO W base bo n ss) (hb : Below W.heap.size W W') : SetsO W' base bo n ss := by
  obtain ⟨cs, mbs, h1, h2, h3, h4, h5, h6⟩ := h
  exact ⟨cs, mbs, h1.step hb, h2, h3, h4, fun m hm => ⟨(h5 m hm).1, Nat.lt_of_lt_of_le (h5 m hm).2 hb.size⟩, fun i m s a b => ⟨(h6 i m s a b).1, (h6 i m s a b).2.step hb⟩⟩
theorem SetsO.put {W : World} {base bo n : Nat} {ss : List (List (List Int))} (h : SetsO W base bo n ss) {g : Nat} {t : TypeId} {cs' : Array Value} (q : Blk W g t cs') (hg : g ≠ bo) (i : Nat) (v : Value) : SetsO (W.setCell ⟨g, i, none⟩ v) base bo n ss := by
  obtain ⟨cs, mbs, h1, h2, h3, h4, h5, h6⟩ := h
  refine ⟨cs, mbs, h1.far (Ne.symm hg) v, h2, h3, h4, fun m hm => ?_, fun j m s a b => ⟨(h6 j m s a b).1, ?_⟩⟩
  · have := h5 m hm; simpa using this
  · have hm := (h6 j m s a b).2
    exact hm.grown (setCell_grown W g i v) (by simpa using mapk_blk hm q)
theorem SetsO.push {W : World} {base bo n : Nat} {ss : List (List (List Int))} (h : SetsO W base bo n ss) (hn : ss.length < n) (hb : base ≤ W.heap.size) :
    SetsO ((W.alloc (.map #[] 0)).setCell ⟨bo, ss.length, none⟩ (.map (some W.heap.size))) base bo n (ss ++ [[]]) := by
  obtain ⟨cs, mbs, h1, h2, h3, h4, h5, h6⟩ := h
  have hlt := h1.lt
  have hbo : W.heap.size ≠ bo := by omega
  refine ⟨cs.setIfInBounds ss.length (.map (some W.heap.size)), mbs ++ [W.heap.size], (h1.alloc _).put _ _, by simpa using h2, by simp [h3], ?_, ?_, ?_⟩
  · rw [List.nodup_append]
    refine ⟨h4, by simp, fun a ha b hb' => ?_⟩
    simp at hb'; subst hb'
    have := (h5 a ha).2
    omega
  · intro m hm
    rcases List.mem_append.1 hm with hm | hm
    · have := h5 m hm; simp; omega
    · simp at hm; subst hm; simp; omega
  · intro i m s hmi hsi
    by_cases hi : i < ss.length
    · rw [List.getElem?_append_left (by omega)] at hmi hsi
      obtain ⟨a, b⟩ := h6 i m s hmi hsi
      refine ⟨by rw [Array.getElem?_setIfInBounds_ne (by omega)]; exact a, ?_⟩
      have b2 := b.step (w' := W.alloc (.map #[] 0)) (bAlc (Below.refl _ _) _)
      exact b2.grown (setCell_grown _ bo _ _) (by simpa using mapk_blk b h1)
    · have hi2 : i = ss.length := by have := (List.getElem?_eq_some_iff.1 hsi).1; simp at this; omega
      subst hi2
      rw [← h3] at hmi
      simp at hmi hsi
      subst hmi; subst hsi
      refine ⟨by rw [Array.getElem?_setIfInBounds_self]; simp [h2, hn], ?_⟩
      exact (mapk_new textKey W W.heap.size rfl).grown (setCell_grown _ bo _ _) (by simpa using hbo)


theorem SetsO.toM {W : World} {base bo n : Nat} {ss : List (List (List Int))} (h : SetsO W base bo n ss) : ∃ mbs, SetsM W bo n mbs ss ∧ mbs.Nodup ∧ ∀ m ∈ mbs, base ≤ m ∧ m < W.heap.size := by
  obtain ⟨cs, mbs, h1, h2, h3, h4, h5, h6⟩ := h
  exact ⟨mbs, ⟨cs, h1, h2, h3, h6⟩, h4, h5⟩
theorem SetsO.blk {W : World} {base bo n : Nat} {ss : List (List (List Int))} (h : SetsO W base bo n ss) {i : Nat} (hi : i < n) : (∃ v, W.cell? ⟨bo, i, none⟩ = some v) ∧ W.frozen? ⟨bo, i, none⟩ = false ∧ bo < W.heap.size := by
  obtain ⟨cs, mbs, h1, h2, h3, h4, h5, h6⟩ := h
  refine ⟨⟨cs[i]'(by omega), ?_⟩, h1.frozen i, h1.lt⟩
  rw [h1.cell]; simp [h2, hi]
theorem SetsO.start {W : World} {base bo n : Nat} {cs : Array Value} (h : Blk W bo 55 cs) (hn : cs.size = n) : SetsO W base bo n [] :=
  ⟨cs, [], h, hn, rfl, List.nodup_nil, by simp, by simp⟩
theorem GB.low {w : World} {g : Gr} {a : GA} {W W' : World} {lo : Nat} (h : GB w g a W) (hlo : w.heap.size < lo) (hb : Below lo W W') : GB w g a W' :=
  ⟨h.1.below hb hlo, h.2.1.below (hb.mono (by omega)), h.2.2.trans (hb.mono (by omega))⟩
theorem small_of {g : Gr} (h : gchk g = 0) : Small g := by
  have := gok_of h
  exact ⟨by have := this.tk; omega, by have := this.nm; omega, by have := this.pl; omega, fun p hp => by have := (this.pr p hp).2.1; omega⟩
theorem info66 : (Tryz.prog.info? 55).map (fun i => (i.zero, i.size, i.bytes)) = some (some (.map none), 1, 8) := by kernel_rfl
theorem under65 : Tryz.prog.underlying 54 = some (.slice 55) := by kernel_rfl
theorem snd_start (ps : List Pr) (most n : Nat) : SndS ps most (setsF (List.replicate n [])) := by
  intro a x hx
  unfold setsF at hx
  split at hx
  · cases hx
  · rw [List.getD_eq_getElem?_getD, List.getElem?_replicate] at hx
    split at hx <;> simp at hx
/-- how many rounds there may still be -/
def measS (n : Nat) (ss : List (List (List Int))) (lg gr : Bool) : Nat := if lg = true ∨ gr = false then 0 else n * 600 + 1 - tot ss
/-- the strings of the start, in order -/
def SSet (g : Gr) (most : Nat) (L : List (List Int)) : Prop := AscT L ∧ ∀ x, x ∈ L ↔ Yld g.prods g.start x ∧ x.length ≤ most
/-- what Sentences hands back -/
def RetSn (g : Gr) (most : Nat) (w : World) (e : Ending) (w' : World) : Prop :=
  Below w.heap.size w w' ∧ ((Big g.toks.length most ∧ e = .returned (.tuple #[.slice none 0 0, .int .i64 19])) ∨ ∃ v L addr, e = .returned (.tuple #[v, .int .i64 0]) ∧ SSet g most L ∧ OwnTT w' w.heap.size v L addr)

set_option maxRecDepth 100000 in
set_option maxHeartbeats 4000000 in
theorem sentences_any (g : Gr) (a : GA) (most : Nat) (w : World) (hg : GrAt w w.heap.size g a) (hok : gchk g = 0) (hm12 : most ≤ 12) : Calls Tryz.prog 14 #[gval g a, .int .i64 most] w (RetSn g most w) := by
  obtain ⟨ta, tc, na, nc, pa, pc⟩ := a
  have hG0 := GB.start hg
  have hC := Lib.hid (fun (W : World) (h : GrAt W W.heap.size g ⟨ta, tc, na, nc, pa, pc⟩) => gcheck_any g ⟨ta, tc, na, nc, pa, pc⟩ W h (small_of hok))
  rw [hok] at hC
  have hk := gok_of hok
  obtain ⟨i66, hi66, hq0, hq1, hq2⟩ := info_parts info66
  obtain ⟨n, hn⟩ : ∃ n, n = g.names.length := ⟨_, rfl⟩
  obtain ⟨m, hm⟩ : ∃ m, m = g.prods.length := ⟨_, rfl⟩
  have hn8 : n ≤ 8 := by rw [hn]; exact hk.nm.2
  have hm24 : m ≤ 24 := by rw [hm]; exact hk.pl
  replace hk := Lib.hid hk
  clear hg hok
  unfold gval at *
  unfold gcells at *
  dsimp only at *
  rw [← hn, ← hm] at hG0 hC ⊢
  replace hn := Lib.hid hn
  replace hm := Lib.hid hm
  have hzm : (0 : Int) ≤ most := by omega
  have hzm2 : (most : Int) ≤ 12 := by omega
  have hzn : (0 : Int) ≤ n := by omega
  go_enter Tryz.func14, Tryz.ntmps14
  go_upto_region 1 with (fail)
  have qm0 : Blk ((w.alloc (.cells #[.int .i64 g.k, .slice ta g.toks.length tc, .string g.sep, .slice na n nc, .int .i64 g.start, .slice pa m pc] 25)).alloc (.cells #[.int .i64 most] 3)) (w.heap.size + 1) 3 #[.int .i64 most] := Blk.newAt _ _ _ _ (by simp)
  have hG1 := hG0.alloc (.cells #[.int .i64 most] 3)
  clear hG0
  generalize (w.alloc (.cells #[.int .i64 g.k, .slice ta g.toks.length tc, .string g.sep, .slice na n nc, .int .i64 g.start, .slice pa m pc] 25)).alloc (.cells #[.int .i64 most] 3) = w1 at *
  obtain ⟨c0, c1, c2, c3, c4, c5⟩ := hG1.cells
  dsimp only at c1 c3 c5
  rw [← hn.out] at c3
  rw [← hm.out] at c5
  go_upto_region 2 with (go_at_call 27; refine (hC.out _ (hG1.2.1.mono hG1.2.2.size)).mono ?_; rintro e w2 ⟨rfl, hb2⟩)
  have hG2 := hG1.step hb2
  have qm := qm0.step hb2
  clear hG1 qm0 c0 c1 c2 c3 c4 c5 hb2 hC
  obtain ⟨c0, c1, c2, c3, c4, c5⟩ := hG2.cells
  dsimp only at c1 c3 c5
  rw [← hn.out] at c3
  have d0 : w2.cell? ⟨w.heap.size + 1, 0, none⟩ = some (.int .i64 most) := qm.cell 0
  have hlt2 := qm.lt
  have hz1 : ¬ (12 : Int) < most := by omega
  go_upto_region 6 with (fail)
  clear d0
  go_upto_region 7 with (at_make; refine wpList_make_row _ rfl _ _ 54 rfl 55 i66 (.map none) under65 hi66 hq0 hq1 rfl _ _ n rfl rfl (by rw [hq2]; omega) (by omega) ?_)
  have hG3 := (hG2.alloc (.cells (madeCells #[.map none] n) 55)).alloc (.cells #[.slice (some ⟨w2.heap.size, 0, none⟩) n n] 54)
  have qm3 := (qm.alloc (.cells (madeCells #[.map none] n) 55)).alloc (.cells #[.slice (some ⟨w2.heap.size, 0, none⟩) n n] 54)
  have qs3 : Blk ((w2.alloc (.cells (madeCells #[.map none] n) 55)).alloc (.cells #[.slice (some ⟨w2.heap.size, 0, none⟩) n n] 54)) (w2.heap.size + 1) 54 #[.slice (some ⟨w2.heap.size, 0, none⟩) n n] := Blk.newAt _ _ _ _ (by simp)
  have hS3 : SetsO ((w2.alloc (.cells (madeCells #[.map none] n) 55)).alloc (.cells #[.slice (some ⟨w2.heap.size, 0, none⟩) n n] 54)) (w2.heap.size + 1 + 1) w2.heap.size n [] := SetsO.start ((Blk.new w2 55 _).alloc _) (by simp [madeCells])
  have hz3 : ((w2.alloc (.cells (madeCells #[.map none] n) 55)).alloc (.cells #[.slice (some ⟨w2.heap.size, 0, none⟩) n n] 54)).heap.size = w2.heap.size + 1 + 1 := by simp
  replace hz3 := Lib.hid hz3
  clear hG2 qm c0 c1 c2 c3 c4 c5
  generalize (w2.alloc (.cells (madeCells #[.map none] n) 55)).alloc (.cells #[.slice (some ⟨w2.heap.size, 0, none⟩) n n] 54) = w3 at *
  generalize w2.heap.size = bo at *
  have e0 : w3.cell? ⟨bo + 1, 0, none⟩ = some (.slice (some ⟨bo, 0, none⟩) n n) := qs3.cell 0
  go_wp2_with fail
  clear e0
  have hz4 := hz3.out
  have hz4' : bo + 1 + 1 ≤ w3.heap.size := by omega
  clear hz4
  go_loopg [31] n (fun gk s31 wr => ∃ i : Nat, s31 = .int .i64 i ∧ i + gk = n ∧ SetsO wr (bo + 1 + 1) bo n (List.replicate i []) ∧ GB w g ⟨ta, tc, na, nc, pa, pc⟩ wr ∧ Blk wr (w.heap.size + 1) 3 #[.int .i64 most] ∧ Blk wr (bo + 1) 54 #[.slice (some ⟨bo, 0, none⟩) n n] ∧ bo + 1 + 1 ≤ wr.heap.size)
  case atStart => exact ⟨0, rfl, by omega, hS3, hG3, qm3, qs3, hz4'⟩
  case round =>
    clear hS3 hG3 qm3 qs3 hz4' hz3
    obtain ⟨i, rfl, hi, hS, hG, qm, qs, hz⟩ := hrel
    replace hi := Lib.hid hi
    have hmm := @run_makeMap Tryz.prog
    by_cases hin : i < n
    · obtain ⟨⟨cv, hcv⟩, hfz, hlt⟩ := hS.blk hin
      have hfz' : (wr.alloc (.map #[] 0)).frozen? ⟨bo, i, none⟩ = false := by
        obtain ⟨cs, mbs, h1, _⟩ := hS
        exact (h1.alloc _).frozen i
      have hcv' : (wr.alloc (.map #[] 0)).cell? ⟨bo, i, none⟩ = some cv := cell_later (bAlc (Below.refl _ _) _) hcv
      have hzi : (0 : Int) ≤ i := by omega
      have hzin : (i : Int) < n := by omega
      have e0 : wr.cell? ⟨bo + 1, 0, none⟩ = some (.slice (some ⟨bo, 0, none⟩) n n) := qs.cell 0
      go_wp2_with fail
      go_roundg (n - (i + 1))
      case measure => have := hi.out; omega
      case rel =>
        rw [← World.setCell_alloc_past _ _ _ _ hlt]
        have h1 := hS.push (by simp; omega) (by omega)
        rw [List.length_replicate, ← List.replicate_succ'] at h1
        exact ⟨i + 1, by go_num, by have := hi.out; omega, h1, (hG.alloc _).far _ _ (by simp; omega), (qm.alloc _).far (by simp; omega) _, (qs.alloc _).far (by simp) _, by simp; omega⟩
    · have hik : i = n := by have := hi.out; omega
      obtain ⟨mbs, hM, hnd, hml⟩ := hS.toM
      rw [hik] at hM
      clear hS hmm
      replace hik := Lib.hid hik
      go_upto_region 13 with (fail)
      have qm4 := (qm.alloc (.cells #[.bool true] 4)).alloc (.cells #[.bool false] 4)
      have qs4 := (qs.alloc (.cells #[.bool true] 4)).alloc (.cells #[.bool false] 4)
      have hM4 : SetsM ((wr.alloc (.cells #[.bool true] 4)).alloc (.cells #[.bool false] 4)) bo n mbs (List.replicate n []) := (hM.step (bAlc (Below.refl _ _) _)).step (bAlc (Below.refl _ _) _)
      have hG4 := (hG.alloc (.cells #[.bool true] 4)).alloc (.cells #[.bool false] 4)
      have qg4 : Blk ((wr.alloc (.cells #[.bool true] 4)).alloc (.cells #[.bool false] 4)) wr.heap.size 4 #[.bool true] := (Blk.new _ _ _).alloc _
      have ql4 : Blk ((wr.alloc (.cells #[.bool true] 4)).alloc (.cells #[.bool false] 4)) (wr.heap.size + 1) 4 #[.bool false] := Blk.newAt _ _ _ _ (by simp)
      have hGS : GS (w.heap.size + 1) (w.heap.size + 1) (bo + 1) bo (wr.heap.size + 1) wr.heap.size n most mbs (List.replicate n []) false true ((wr.alloc (.cells #[.bool true] 4)).alloc (.cells #[.bool false] 4)) :=
        ⟨qm4, qs4, hM4, ql4, qg4, by omega, hnd, by simp, by omega, by omega, fun m hm => by have := (hml m hm).1; omega⟩
      clear qm qs hM hG qm4 qs4 hM4 qg4 ql4 hml hnd
      generalize (wr.alloc (.cells #[.bool true] 4)).alloc (.cells #[.bool false] 4) = W13 at *
      generalize wr.heap.size = Bg at *
      go_wp2_with fail
      go_loopg [40] (n * 600 + 1) (fun gk s40 wr => ∃ (ss : List (List (List Int))) (lg gr : Bool), GS (w.heap.size + 1) (w.heap.size + 1) (bo + 1) bo (Bg + 1) Bg n most mbs ss lg gr wr ∧ GB w g ⟨ta, tc, na, nc, pa, pc⟩ wr ∧ Hid (gk = measS n ss lg gr) ∧ Hid (SndS g.prods most (setsF ss)) ∧ Hid (lg = true → Big g.toks.length most) ∧ Hid (lg = false → (∀ s ∈ ss, s.length ≤ 600) ∧ (gr = false → ClsS g.prods most (setsF ss))))
      case atStart => exact ⟨List.replicate n [], false, true, hGS, hG4, Lib.hid (by simp [measS, tot]), Lib.hid (snd_start _ _ _), Lib.hid (fun h => by cases h), Lib.hid (fun _ => ⟨fun s hs => by have := (List.mem_replicate.1 hs).2; subst this; simp, fun h => by cases h⟩)⟩
      case round =>
        clear hGS hG4
        obtain ⟨ss, lg, gr, hGS, hG, hgk, hsnd, hbig, hfit⟩ := hrel
        have k9 := hGS.2.2.2.2.1.cell 0
        have k10 := hGS.2.2.2.1.cell 0
        simp only [List.getElem?_toArray, List.getElem?_cons_zero] at k9 k10
        cases lg with
        | true =>
          have hb := Lib.hid (hbig.out rfl)
          cases gr with
          | true =>
            go_wp2_with fail
            go_ret2
            exact ⟨hG.2.2, .inl ⟨hb.out, rfl⟩⟩
          | false =>
            go_wp2_with fail
            go_ret2
            exact ⟨hG.2.2, .inl ⟨hb.out, rfl⟩⟩
        | false =>
          cases gr with
          | false =>
            have hcls := Lib.hid ((hfit.out rfl).2 rfl)
            have hst := hk.out.st
            rw [← hn.out] at hst
            obtain ⟨j, hj⟩ := Int.eq_ofNat_of_zero_le (show 0 ≤ g.start - 16 by omega)
            have hjn : j < n := by omega
            have hssn : ss.length = n := hGS.2.2.2.2.2.2.2.1
            obtain ⟨mb, hmb, z0, hMb, hne⟩ := hGS.2.2.1.get (i := j) (by omega)
            have hT : Hid (setsF ss g.start = ss.getD j []) := Lib.hid (by rw [setsF_at (by omega), show (g.start - 16).toNat = j by omega])
            have hTl : (ss.getD j []).length ≤ 600 := by
              rw [List.getD_eq_getElem?_getD, List.getElem?_eq_getElem (by omega)]
              exact (hfit.out rfl).1 _ (List.getElem_mem _)
            have hSet := Lib.hid (fun (x : List Int) => sets_yld hsnd.out hcls.out g.start x)
            generalize ss.getD j [] = T at *
            have k7 : wr.cell? ⟨bo + 1, 0, none⟩ = some (.slice (some ⟨bo, 0, none⟩) n n) := hGS.2.1.cell 0
            obtain ⟨c0, c1, c2, c3, c4, c5⟩ := hG.cells
            have hzj : (0 : Int) ≤ j := by omega
            have hzjn : (j : Int) < n := by omega
            have hsrt := Lib.hid (sorted_any mb T wr hMb (by omega))
            have hbw := Lib.hid hG.2.2
            clear c0 c1 c2 c3 c5 hGS hG hMb hne hst hmb hssn
            go_wp2_with (go_at_call 32; refine hsrt.out.mono ?_; rintro e w5 ⟨v, L, addr, rfl, hA, hmem, hown, hb5⟩)
            go_ret2
            refine ⟨bStep hbw.out hb5, .inr ⟨v, L, addr, rfl, ⟨hA, fun x => ?_⟩, hown.mono hbw.out.size⟩⟩
            rw [hmem x, ← hT.out]
            exact hSet.out x
          | true =>
            have hfit0 := Lib.hid (hfit.out rfl).1
            clear hfit hbig
            have f1 := hGS.2.2.2.2.1.frozen 0
            have f2 := hGS.2.2.2.2.1.lt
            obtain ⟨c0, c1, c2, c3, c4, c5⟩ := hG.cells
            dsimp only at c5
            rw [← hm.out] at c5
            clear c0 c1 c2 c3 c4
            go_upto_region 16 with (fail)
            have hGS2 := hGS.setG false
            have hG2 := hG.far ⟨Bg, 0, none⟩ (.bool false) (show w.heap.size < Bg by omega)
            have hgk1 : Hid (0 < gk) := Lib.hid (by
              have h1 := hgk.out
              have h2 := tot_le 600 ss hfit0.out
              rw [hGS.2.2.2.2.2.2.2.1] at h2
              simp [measS] at h1
              omega)
            clear hGS hG k9 k10 f1 f2 c5
            generalize wr.setCell ⟨Bg, 0, none⟩ (.bool false) = W15 at *
            obtain ⟨c0, c1, c2, c3, c4, c5⟩ := hG2.cells
            dsimp only at c5
            rw [← hm.out] at c5
            clear c0 c1 c2 c3 c4
            go_wp2_with fail
            clear c5
            have hG2' := hG2
            have hGS2' := hGS2
            go_loopg [48] m (fun gk2 s48 wr => ∃ (i : Nat) (ss2 : List (List (List Int))) (lg2 gr2 : Bool), s48 = .int .i64 i ∧ i + gk2 = m ∧ GS (w.heap.size + 1) (w.heap.size + 1) (bo + 1) bo (Bg + 1) Bg n most mbs ss2 lg2 gr2 wr ∧ GB w g ⟨ta, tc, na, nc, pa, pc⟩ wr ∧ Hid (SndS g.prods most (setsF ss2)) ∧ Hid (lg2 = true → Big g.toks.length most) ∧
              Hid (lg2 = false → (∀ s ∈ ss2, s.length ≤ 600) ∧ ((gr2 = false ∧ ss2 = ss ∧ ∀ p ∈ g.prods.take i, ∀ x, Cat (setsF ss) p.right x → x.length ≤ most → x ∈ setsF ss p.left) ∨ (gr2 = true ∧ tot ss < tot ss2))))
            case atStart => exact ⟨0, ss, false, false, rfl, by omega, hGS2', hG2', hsnd, Lib.hid (fun h => by cases h), Lib.hid (fun _ => ⟨hfit0.out, .inl ⟨rfl, rfl, by simp⟩⟩)⟩
            case round =>
              clear hGS2 hG2 hGS2' hG2'
              obtain ⟨i, ss2, lg2, gr2, rfl, hi, hGS, hG, hsnd2, hbig2, hfit2⟩ := hrel
              replace hi := Lib.hid hi
              by_cases hin : i < m
              · have hil : i < g.prods.length := by have := hm.out; omega
                have hxi : g.prods[i]? = some g.prods[i] := List.getElem?_eq_getElem hil
                obtain ⟨b, off, rfl, hbt, y0, RA, rc, y1, hRd, hrl, hrm⟩ := hG.2.1.prods.get hxi
                have hpm := List.getElem_mem hil
                have htk : g.prods.take (i + 1) = g.prods.take i ++ [g.prods[i]] := List.take_succ_eq_append_getElem hil
                have hok := hk.out.pr _ hpm
                generalize g.prods[i] = p at *
                obtain ⟨pl, pr⟩ := p
                dsimp only at y0 y1 hRd hrl hok
                replace hxi := Lib.hid hxi
                replace htk := Lib.hid htk
                replace hpm := Lib.hid hpm
                replace hok := Lib.hid hok
                have hzi : (0 : Int) ≤ i := by omega
                have hzim : (i : Int) < m := by omega
                have hmul : (i : Int) * 2 ≤ 100 := by omega
                go_upto_region 19 with (fail)
                have hGS3 := hGS.step (bAlc (Below.refl _ _) (.cells #[.int .i64 pl, .slice RA pr.length rc] 37))
                have hG3 := hG.alloc (.cells #[.int .i64 pl, .slice RA pr.length rc] 37)
                have qp : Blk (wr.alloc (.cells #[.int .i64 pl, .slice RA pr.length rc] 37)) wr.heap.size 37 #[.int .i64 pl, .slice RA pr.length rc] := Blk.new _ _ _
                have hRd3 : Rd1 (wr.alloc (.cells #[.int .i64 pl, .slice RA pr.length rc] 37)) (w.heap.size + 1) RA pr.length (ints pr) := (hRd.below ((bAlc (Below.refl _ _) (.cells #[.int .i64 pl, .slice RA pr.length rc] 37)).mono hG.2.2.size)).mono (by omega)
                have hlo3 := hG3.1.lt
                clear hGS hG hRd y0 y1
                generalize wr.alloc (.cells #[.int .i64 pl, .slice RA pr.length rc] 37) = W18 at *
                generalize wr.heap.size = Bp at *
                have k10 := hGS3.2.2.2.1.cell 0
                have p0 := qp.cell 0
                have p1 := qp.cell 1
                simp only [List.getElem?_toArray, List.getElem?_cons_zero, List.getElem?_cons_succ] at k10 p0 p1
                cases lg2 with
                | true =>
                  have hb2 := Lib.hid (hbig2.out rfl)
                  clear hbig2 hfit2
                  go_wp2_with fail
                  go_roundg (m - (i + 1))
                  case measure => have := hi.out; omega
                  case rel => exact ⟨i + 1, ss2, true, gr2, by go_num, by have := hi.out; omega, hGS3, hG3, hsnd2, Lib.hid (fun _ => hb2.out), Lib.hid (fun h => by cases h)⟩
                | false =>
                  obtain ⟨hf2, hD2⟩ := hfit2.out rfl
                  replace hf2 := Lib.hid hf2
                  replace hD2 := Lib.hid hD2
                  clear hbig2 hfit2
                  have hgrow := Lib.hid (grow_any g.prods ⟨pl, pr⟩ g.toks.length most n (w.heap.size + 1) (w.heap.size + 1) (bo + 1) bo (Bg + 1) Bg mbs ss2 gr2 RA rc W18 hpm.out (by rw [hn.out]; exact hok.out.1) (by rw [hn.out]; exact hok.out.2.2) hok.out.2.1 hk.out.tk.2 hn8 hm12
                    (fun q hq u hu h => by
                      rcases (hk.out.pr q hq).2.2 u hu with h' | h'
                      · exact h'
                      · omega) hGS3 hRd3 hlo3 hrl hrm hsnd2.out hf2.out)
                  dsimp only at hgrow
                  go_wp2_with (go_at_call 29; refine hgrow.out.mono ?_; rintro e w5 ⟨ss3, lg3, gr3, rfl, hGS5, hb5, hsnd3, hbig3, hfit3⟩)
                  have hG5 := hG3.low (Nat.lt_succ_self _) hb5
                  replace hsnd3 := Lib.hid hsnd3
                  replace hbig3 := Lib.hid hbig3
                  go_roundg (m - (i + 1))
                  case measure => have := hi.out; omega
                  case rel => exact ⟨i + 1, ss3, lg3, gr3, by go_num, by have := hi.out; omega, hGS5, hG5, hsnd3, hbig3, Lib.hid (fun hl => by
                    obtain ⟨a1, a2⟩ := hfit3 hl
                    refine ⟨a1, ?_⟩
                    rcases hD2.out with ⟨b1, b2, b3⟩ | ⟨b1, b2⟩
                    · rcases a2 with ⟨d1, d2, d3⟩ | ⟨d1, d2⟩
                      · left
                        refine ⟨by rw [d1, b1], by rw [d2, b2], fun q hq => ?_⟩
                        rw [htk.out] at hq
                        rcases List.mem_append.1 hq with hq | hq
                        · exact b3 q hq
                        · have : q = ⟨pl, pr⟩ := by simpa using hq
                          subst this
                          rw [b2] at d3
                          exact d3
                      · right; exact ⟨d1, by rw [b2] at d2; exact d2⟩
                    · rcases a2 with ⟨d1, d2, d3⟩ | ⟨d1, d2⟩
                      · right; exact ⟨by rw [d1, b1], by rw [d2]; exact b2⟩
                      · right; exact ⟨d1, by omega⟩)⟩
              · have him : i = m := by have := hi.out; omega
                have hssn : ss2.length = n := hGS.2.2.2.2.2.2.2.1
                replace him := Lib.hid him
                replace hssn := Lib.hid hssn
                go_wp2_with fail
                go_roundg (measS n ss2 lg2 gr2)
                case measure =>
                  have h0 := hgk1.out
                  have h1 := hgk.out
                  unfold measS at h1 ⊢
                  rw [if_neg (by simp)] at h1
                  split
                  · exact h0
                  · rename_i hne
                    have e1 : lg2 = false := by cases lg2 <;> simp at hne ⊢
                    have e2 : gr2 = true := by cases gr2 <;> simp [e1] at hne ⊢
                    obtain ⟨a1, a2⟩ := hfit2.out e1
                    have h2 := tot_le 600 ss2 a1
                    rw [hssn.out] at h2
                    rcases a2 with ⟨b1, _⟩ | ⟨_, b2⟩
                    · rw [e2] at b1; cases b1
                    · omega
                case rel => exact ⟨ss2, lg2, gr2, hGS, hG, Lib.hid rfl, hsnd2, hbig2, Lib.hid (fun h => ⟨(hfit2.out h).1, fun hg => by
                    rcases (hfit2.out h).2 with ⟨b1, b2, b3⟩ | ⟨b1, _⟩
                    · rw [b2]
                      intro p hp x h1 h2
                      exact b3 p (by rw [him.out, hm.out, List.take_of_length_le (Nat.le_refl _)]; exact hp) x h1 h2
                    · rw [hg] at b1; cases b1⟩)⟩
end Go.Proofs.YtlngbphchhbpbaaGreat

/- reach.sum, reach.filled. -/
namespace Go.Proofs.YtlngbphchhbpbaaGreat
open Go.ChangeShapes Go.WideShapes Go.ChangeAt Go.RowKit
set_option linter.unusedVariables false

/-- the greatest number: a cost that is none -/
def Non : Int := 9223372036854775807
/-- costs together -/
def satA (a b : Int) : Int := if a + b ≤ Non then a + b else Non
theorem satA_bd {a b : Int} (ha : 0 ≤ a) (hb : 0 ≤ b) : 0 ≤ satA a b ∧ satA a b ≤ Non := by unfold satA Non; split <;> omega
theorem sum_any (a b : Int) (w : World) (ha : 0 ≤ a ∧ a ≤ Non) (hb : 0 ≤ b ∧ b ≤ Non) : Calls Tryz.prog 55 #[.int .i64 a, .int .i64 b] w fun e w' => e = .returned (.int .i64 (satA a b)) ∧ w = w' := by
  have hr : ∀ r : Int, r = satA a b → Ending.returned (.int .i64 r) = .returned (.int .i64 (satA a b)) := fun r h => by rw [h]
  replace hr := Lib.hid hr
  unfold Non at ha hb
  obtain ⟨ha0, ha1⟩ := ha
  obtain ⟨hb0, hb1⟩ := hb
  by_cases h1 : a = 9223372036854775807
  · subst h1
    have hz : satA 9223372036854775807 b = 9223372036854775807 := by unfold satA Non; split <;> omega
    rw [hz]
    clear hz hr
    go_enter Tryz.func55, Tryz.ntmps55
    go_wp2_with fail
    go_ret
    exact ⟨rfl, rfl⟩
  · have h1b : (a == 9223372036854775807) = false := by simpa using h1
    by_cases h2 : b = 9223372036854775807
    · subst h2
      have hz : satA a 9223372036854775807 = 9223372036854775807 := by unfold satA Non; split <;> omega
      rw [hz]
      clear hz hr
      go_enter Tryz.func55, Tryz.ntmps55
      go_wp2_with fail
      go_ret
      exact ⟨rfl, rfl⟩
    · have h2b : (b == 9223372036854775807) = false := by simpa using h2
      have hw : IntKind.i64.wrap (9223372036854775807 - b) = 9223372036854775807 - b := IntWalk.i64_in _ (by omega)
      by_cases h3 : 9223372036854775807 - b < a
      · have hz : satA a b = 9223372036854775807 := by unfold satA Non; rw [if_neg (by omega)]
        rw [hz]
        clear hz hr
        go_enter Tryz.func55, Tryz.ntmps55
        go_wp2_with fail
        go_ret
        exact ⟨rfl, rfl⟩
      · have hz : satA a b = a + b := by unfold satA Non; rw [if_pos (by omega)]
        rw [hz]
        clear hz hr
        have hw2 : IntKind.i64.wrap (a + b) = a + b := IntWalk.i64_in _ (by omega)
        go_enter Tryz.func55, Tryz.ntmps55
        go_wp2_with fail
        go_ret
        exact ⟨rfl, rfl⟩
/-- the first i of n cells are x, the others z -/
def fil (z x : Value) (n i : Nat) : Array Value := (List.replicate i x ++ List.replicate (n - i) z).toArray
theorem fil_start (z x : Value) (n : Nat) : madeCells #[z] n = fil z x n 0 := by
  unfold madeCells fil
  apply Array.ext'
  simp
  apply List.ext_getElem?
  intro i
  by_cases h : i < n
  · simp [h, Nat.mod_one]
  · simp [h]
theorem fil_size (z x : Value) (n i : Nat) (h : i ≤ n) : (fil z x n i).size = n := by simp [fil]; omega
theorem fil_next (z x : Value) (n i : Nat) (h : i < n) : (fil z x n i).setIfInBounds i x = fil z x n (i + 1) := by
  unfold fil
  apply Array.ext'
  simp only [List.setIfInBounds_toArray]
  rw [List.set_append_right _ _ (by simp), List.length_replicate, Nat.sub_self]
  obtain ⟨m, hm⟩ : ∃ m, n - i = m + 1 := ⟨n - i - 1, by omega⟩
  rw [hm, List.replicate_succ, List.set_cons_zero, show n - (i + 1) = m by omega, List.replicate_succ', List.append_assoc]
  rfl
theorem fil_end (z x : Value) (n : Nat) : fil z x n n = (List.replicate n x).toArray := by simp [fil]
theorem info2 : (Tryz.prog.info? 2).map (fun i => (i.zero, i.size, i.bytes)) = some (some (.int .i64 0), 1, 8) := by kernel_rfl
theorem under92 : Tryz.prog.underlying 66 = some (.slice 2) := by kernel_rfl
set_option maxHeartbeats 1000000 in
theorem filled_any (n : Nat) (x : Int) (w : World) (hn1 : 1 ≤ n) (hn : n ≤ 1000) : Calls Tryz.prog 52 #[.int .i64 n, .int .i64 x] w fun e w' => e = .returned (.slice (some ⟨w.heap.size, 0, none⟩) n n) ∧ Blk w' w.heap.size 3 (List.replicate n (.int .i64 x)).toArray ∧ Below w.heap.size w w' := by
  obtain ⟨i3, hi3, hq0, hq1, hq2⟩ := info_parts info3
  have hz0 : (0 : Int) ≤ n := by omega
  go_enter Tryz.func52, Tryz.ntmps52
  go_upto_region 2 with (at_make; refine wpList_make_row _ rfl _ _ 26 rfl 3 i3 (.int .i64 0) under22 hi3 hq0 hq1 rfl _ _ n rfl rfl (by rw [hq2]; omega) (by omega) ?_)
  rw [fil_start _ (.int .i64 x)]
  have q0 : Blk (w.alloc (.cells (fil (.int .i64 0) (.int .i64 x) n 0) 3)) w.heap.size 3 (fil (.int .i64 0) (.int .i64 x) n 0) := Blk.new _ _ _
  have hb0 : Below w.heap.size w (w.alloc (.cells (fil (.int .i64 0) (.int .i64 x) n 0) 3)) := bAlc (Below.refl _ _) _
  generalize w.alloc (.cells (fil (.int .i64 0) (.int .i64 x) n 0) 3) = w1 at *
  go_wp2_with fail
  go_loopg [11] n (fun gk s11 wr => ∃ i : Nat, s11 = .int .i64 i ∧ i + gk = n ∧ Blk wr w.heap.size 3 (fil (.int .i64 0) (.int .i64 x) n i) ∧ Below w.heap.size w wr)
  case atStart => exact ⟨0, rfl, by omega, q0, hb0⟩
  case round =>
    clear q0 hb0
    obtain ⟨i, rfl, hi, q, hb⟩ := hrel
    replace hi := Lib.hid hi
    by_cases hin : i < n
    · have hz1 : (i : Int) < n := by omega
      have hz2 : (0 : Int) ≤ i := by omega
      have hs := fil_size (.int .i64 0) (.int .i64 x) n i (by omega)
      have x0 : wr.cell? ⟨w.heap.size, i, none⟩ = some ((fil (.int .i64 0) (.int .i64 x) n i)[i]'(by omega)) := by rw [q.cell]; exact Array.getElem?_eq_getElem _
      have x1 := q.frozen i
      have q2 := q.put i (.int .i64 x)
      rw [fil_next _ _ _ _ hin] at q2
      have hb2 := bSet hb ⟨w.heap.size, i, none⟩ (.int .i64 x) (Nat.le_refl _)
      generalize (fil (.int .i64 0) (.int .i64 x) n i)[i]'(by omega) = y at x0
      replace hs := Lib.hid hs
      clear q hb
      go_wp2_with fail
      go_roundg (n - (i + 1))
      case measure => have := hi.out; omega
      case rel => exact ⟨i + 1, by go_num, by have := hi.out; omega, q2, hb2⟩
    · have hin2 : i = n := by have := hi.out; omega
      subst hin2
      rw [fil_end] at q
      go_wp2_with fail
      go_ret
      exact ⟨rfl, q, hb⟩
set_option maxHeartbeats 1000000 in
theorem filled2_any (n : Nat) (x : Int) (w : World) (hn1 : 1 ≤ n) (hn : n ≤ 1000) : Calls Tryz.prog 53 #[.int .i64 n, .int .i64 x] w fun e w' => e = .returned (.slice (some ⟨w.heap.size, 0, none⟩) n n) ∧ Blk w' w.heap.size 2 (List.replicate n (.int .i64 x)).toArray ∧ Below w.heap.size w w' := by
  obtain ⟨i3, hi3, hq0, hq1, hq2⟩ := info_parts info2
  have hz0 : (0 : Int) ≤ n := by omega
  go_enter Tryz.func53, Tryz.ntmps53
  go_upto_region 2 with (at_make; refine wpList_make_row _ rfl _ _ 66 rfl 2 i3 (.int .i64 0) under92 hi3 hq0 hq1 rfl _ _ n rfl rfl (by rw [hq2]; omega) (by omega) ?_)
  rw [fil_start _ (.int .i64 x)]
  have q0 : Blk (w.alloc (.cells (fil (.int .i64 0) (.int .i64 x) n 0) 2)) w.heap.size 2 (fil (.int .i64 0) (.int .i64 x) n 0) := Blk.new _ _ _
  have hb0 : Below w.heap.size w (w.alloc (.cells (fil (.int .i64 0) (.int .i64 x) n 0) 2)) := bAlc (Below.refl _ _) _
  generalize w.alloc (.cells (fil (.int .i64 0) (.int .i64 x) n 0) 2) = w1 at *
  go_wp2_with fail
  go_loopg [11] n (fun gk s11 wr => ∃ i : Nat, s11 = .int .i64 i ∧ i + gk = n ∧ Blk wr w.heap.size 2 (fil (.int .i64 0) (.int .i64 x) n i) ∧ Below w.heap.size w wr)
  case atStart => exact ⟨0, rfl, by omega, q0, hb0⟩
  case round =>
    clear q0 hb0
    obtain ⟨i, rfl, hi, q, hb⟩ := hrel
    replace hi := Lib.hid hi
    by_cases hin : i < n
    · have hz1 : (i : Int) < n := by omega
      have hz2 : (0 : Int) ≤ i := by omega
      have hs := fil_size (.int .i64 0) (.int .i64 x) n i (by omega)
      have x0 : wr.cell? ⟨w.heap.size, i, none⟩ = some ((fil (.int .i64 0) (.int .i64 x) n i)[i]'(by omega)) := by rw [q.cell]; exact Array.getElem?_eq_getElem _
      have x1 := q.frozen i
      have q2 := q.put i (.int .i64 x)
      rw [fil_next _ _ _ _ hin] at q2
      have hb2 := bSet hb ⟨w.heap.size, i, none⟩ (.int .i64 x) (Nat.le_refl _)
      generalize (fil (.int .i64 0) (.int .i64 x) n i)[i]'(by omega) = y at x0
      replace hs := Lib.hid hs
      clear q hb
      go_wp2_with fail
      go_roundg (n - (i + 1))
      case measure => have := hi.out; omega
      case rel => exact ⟨i + 1, by go_num, by have := hi.out; omega, q2, hb2⟩
    · have hin2 : i = n := by have := hi.out; omega
      subst hin2
      rw [fil_end] at q
      go_wp2_with fail
      go_ret
      exact ⟨rfl, q, hb⟩
end Go.Proofs.YtlngbphchhbpbaaGreat

/- Costs of derivations, plainly. -/
namespace Go.Proofs.YtlngbphchhbpbaaGreat
set_option linter.unusedVariables false

/-- what a form costs, by the costs of the nonterminals -/
def costF (t : Int) (out : List Int) : Int → List Int → Int
  | c, [] => c
  | c, s :: f => costF t out (satA c (if s < 16 then t else out.getD (s - 16).toNat 0)) f
/-- the costs of derivations: each production costs 'it', each terminal t -/
inductive Dc (ps : List Pr) (it t : Int) : List Int → Int → Prop
  | nil : Dc ps it t [] 0
  | term (s : Int) (f : List Int) (c : Int) (h : s < 16) (ht : t < Non) (hf : Dc ps it t f c) : Dc ps it t (s :: f) (t + c)
  | nont (p : Pr) (f : List Int) (c d : Int) (hp : p ∈ ps) (h : 16 ≤ p.left) (hc : Dc ps it t p.right c) (hf : Dc ps it t f d) : Dc ps it t (p.left :: f) (it + c + d)
/-- what a nonterminal may cost -/
def Yc (ps : List Pr) (it t : Int) (a : Int) (c : Int) : Prop := ∃ p ∈ ps, p.left = a ∧ ∃ d, Dc ps it t p.right d ∧ c = it + d
/-- numbers that are costs -/
def InB (out : List Int) : Prop := ∀ v ∈ out, 0 ≤ v ∧ v ≤ Non
theorem InB.get {out : List Int} (h : InB out) (i : Nat) : 0 ≤ out.getD i 0 ∧ out.getD i 0 ≤ Non := by
  rw [List.getD_eq_getElem?_getD]
  cases hh : out[i]? with
  | none => simp [Non]
  | some v => exact h v (List.mem_of_getElem? hh)
theorem costF_bd {t : Int} {out : List Int} (ht : 0 ≤ t ∧ t ≤ Non) (ho : InB out) : ∀ (f : List Int) (c : Int), 0 ≤ c ∧ c ≤ Non → 0 ≤ costF t out c f ∧ costF t out c f ≤ Non
  | [], c, h => h
  | s :: f, c, h => by
    unfold costF
    refine costF_bd ht ho f _ (satA_bd h.1 ?_)
    split
    · exact ht.1
    · exact (ho.get _).1
theorem satA_le {a b : Int} : satA a b ≤ a + b := by unfold satA; split <;> omega
theorem satA_lt {a b : Int} (h : satA a b < Non) : satA a b = a + b := by unfold satA at h ⊢; split <;> simp_all
theorem satA_mono {a b a' b' : Int} (h1 : a ≤ a') (h2 : b ≤ b') : satA a b ≤ satA a' b' := by unfold satA; split <;> split <;> omega
theorem satA_ge {a b : Int} (ha : 0 ≤ a ∧ a ≤ Non) (hb : 0 ≤ b ∧ b ≤ Non) : a ≤ satA a b ∧ b ≤ satA a b := by unfold satA; split <;> omega
theorem costF_ge {t : Int} {out : List Int} (ht : 0 ≤ t ∧ t ≤ Non) (ho : InB out) : ∀ (f : List Int) (c : Int), 0 ≤ c ∧ c ≤ Non → c ≤ costF t out c f
  | [], c, h => Int.le_refl _
  | s :: f, c, h => by
    have hx : 0 ≤ (if s < 16 then t else out.getD (s - 16).toNat 0) ∧ (if s < 16 then t else out.getD (s - 16).toNat 0) ≤ Non := by
      split
      · exact ht
      · exact ho.get _
    have h1 := satA_ge h hx
    have h2 := costF_ge ht ho f (satA c (if s < 16 then t else out.getD (s - 16).toNat 0)) ⟨by omega, (satA_bd h.1 hx.1).2⟩
    unfold costF
    omega
/-- a cost that is one: the symbols' costs are, and it is a derivation's -/
theorem costF_snd {ps : List Pr} {it t : Int} {out : List Int} (ht : 0 ≤ t ∧ t ≤ Non) (ho : InB out) (hs : ∀ a : Int, 16 ≤ a → out.getD (a - 16).toNat 0 < Non → (a - 16).toNat < out.length → Yc ps it t a (out.getD (a - 16).toNat 0)) :
    ∀ (f : List Int) (c : Int), (∀ s ∈ f, s < 16 ∨ (16 ≤ s ∧ (s - 16).toNat < out.length)) → 0 ≤ c ∧ c ≤ Non → costF t out c f < Non → ∃ d, Dc ps it t f d ∧ costF t out c f = c + d
  | [], c, _, h, _ => ⟨0, .nil, by simp [costF]⟩
  | s :: f, c, hf, h, hlt => by
    have hx : 0 ≤ (if s < 16 then t else out.getD (s - 16).toNat 0) ∧ (if s < 16 then t else out.getD (s - 16).toNat 0) ≤ Non := by
      split
      · exact ht
      · exact ho.get _
    have hx1 := satA_bd h.1 hx.1
    unfold costF at hlt ⊢
    have h1 := costF_ge ht ho f _ hx1
    have h2 := satA_ge h hx
    have h3 := satA_lt (show satA c (if s < 16 then t else out.getD (s - 16).toNat 0) < Non by omega)
    obtain ⟨d, hd, he⟩ := costF_snd ht ho hs f _ (fun s hs => hf s (List.mem_cons_of_mem _ hs)) hx1 hlt
    by_cases h16 : s < 16
    · rw [if_pos h16] at h1 h2 h3 he hlt ⊢
      exact ⟨t + d, .term s f d h16 (by omega) hd, by rw [he, h3]; omega⟩
    · rw [if_neg h16] at h1 h2 h3 he hlt ⊢
      obtain ⟨p, hp, hpl, e, hde, hce⟩ := hs s (by omega) (by omega) (by
        rcases hf s List.mem_cons_self with h | h
        · omega
        · exact h.2)
      refine ⟨it + e + d, ?_, by rw [he, h3, hce]; omega⟩
      have := Dc.nont p f e d hp (by omega) hde hd
      rwa [hpl] at this
/-- a derivation's cost is at least what the nonterminals' costs say -/
theorem costF_low {ps : List Pr} {it t : Int} {out : List Int} (hit : 0 ≤ it ∧ it ≤ Non) (ht : 0 ≤ t ∧ t ≤ Non) (ho : InB out) (hc : ∀ p ∈ ps, out.getD (p.left - 16).toNat 0 ≤ costF t out it p.right) {f : List Int} {d : Int} (h : Dc ps it t f d) : ∀ c, 0 ≤ c → costF t out c f ≤ c + d := by
  induction h with
  | nil => intro c _; simp [costF]
  | term s f d h16 _ _ ih =>
    intro c hc0
    unfold costF
    rw [if_pos h16]
    have h1 := satA_le (a := c) (b := t)
    have h2 := ih (satA c t) (satA_bd hc0 ht.1).1
    omega
  | nont p f d e hp h16 hd _ ih1 ih2 =>
    intro c hc0
    unfold costF
    rw [if_neg (by omega)]
    have h1 := satA_le (a := c) (b := out.getD (p.left - 16).toNat 0)
    have h2 := ih2 (satA c (out.getD (p.left - 16).toNat 0)) (satA_bd hc0 (ho.get _).1).1
    have h3 := hc p hp
    have h4 := ih1 it hit.1
    omega
/-- the numbers of the costs that are there -/
def cnt (out : List Int) : Nat := (out.filter fun v => decide (v < Non)).length
def sumI (out : List Int) : Nat := (out.map Int.toNat).sum
end Go.Proofs.YtlngbphchhbpbaaGreat

/- Least costs and least lengths, plainly. -/
namespace Go.Proofs.YtlngbphchhbpbaaGreat
set_option linter.unusedVariables false

theorem sumI_set : ∀ (l : List Int) (j : Nat) (c v : Int), l[j]? = some v → 0 ≤ c → c < v → sumI (l.set j c) < sumI l
  | [], j, c, v, h, _, _ => by simp at h
  | a :: l, 0, c, v, h, h0, h1 => by
    simp at h; subst h
    simp [sumI]; omega
  | a :: l, j + 1, c, v, h, h0, h1 => by
    have := sumI_set l j c v (by simpa using h) h0 h1
    simp [sumI] at this ⊢; omega
/-- numbers of costs -/
def cntN (out : List Int) : Nat := out.countP fun v => decide (v < Non)
theorem cntN_le (out : List Int) : cntN out ≤ out.length := List.countP_le_length
theorem cntN_new {out : List Int} {j : Nat} {c : Int} (h : out[j]? = some Non) (hc : c < Non) : cntN (out.set j c) = cntN out + 1 := by
  obtain ⟨h1, h2⟩ := List.getElem?_eq_some_iff.1 h
  unfold cntN
  rw [List.countP_set h1, h2]
  simp [hc]
theorem cntN_old {out : List Int} {j : Nat} {c v : Int} (h : out[j]? = some v) (hv : v < Non) (hc : c < Non) : cntN (out.set j c) = cntN out := by
  obtain ⟨h1, h2⟩ := List.getElem?_eq_some_iff.1 h
  have : 0 < cntN out := by
    unfold cntN
    rw [List.countP_pos_iff]
    exact ⟨v, List.mem_of_getElem? h, by simpa using hv⟩
  unfold cntN at this ⊢
  rw [List.countP_set h1, h2]
  simp [hc, hv]
  omega
/-- costs that are there are small -/
def BdI (out : List Int) : Prop := ∀ v ∈ out, v < Non → v ≤ ((7 ^ cntN out : Nat) : Int)
theorem costF_up {t : Int} {out : List Int} (ht : 0 ≤ t ∧ t ≤ Non) (ho : InB out) (M : Int) : ∀ (f : List Int) (c : Int), 0 ≤ c → (∀ s ∈ f, (if s < 16 then t else out.getD (s - 16).toNat 0) ≤ M) → costF t out c f ≤ c + f.length * M
  | [], c, _, _ => by simp [costF]
  | s :: f, c, hc, h => by
    unfold costF
    have hx : 0 ≤ (if s < 16 then t else out.getD (s - 16).toNat 0) := by
      split
      · exact ht.1
      · exact (ho.get _).1
    have h1 := h s List.mem_cons_self
    have h2 := costF_up ht ho M f (satA c (if s < 16 then t else out.getD (s - 16).toNat 0)) (satA_bd hc hx).1 (fun s hs => h s (List.mem_cons_of_mem _ hs))
    have h3 := satA_le (a := c) (b := if s < 16 then t else out.getD (s - 16).toNat 0)
    have h4 : ((s :: f).length : Int) * M = f.length * M + M := by
      rw [List.length_cons, show ((f.length + 1 : Nat) : Int) = (f.length : Int) + 1 by omega, Int.add_mul, Int.one_mul]
    omega
theorem costF_parts {t : Int} {out : List Int} (ht : 0 ≤ t ∧ t ≤ Non) (ho : InB out) : ∀ (f : List Int) (c : Int), 0 ≤ c ∧ c ≤ Non → costF t out c f < Non → ∀ s ∈ f, (if s < 16 then t else out.getD (s - 16).toNat 0) < Non
  | [], c, _, _ => fun s hs => by cases hs
  | s :: f, c, h, hlt => by
    have hx : 0 ≤ (if s < 16 then t else out.getD (s - 16).toNat 0) ∧ (if s < 16 then t else out.getD (s - 16).toNat 0) ≤ Non := by
      split
      · exact ht
      · exact ho.get _
    have hx1 := satA_bd h.1 hx.1
    unfold costF at hlt
    have h1 := costF_ge ht ho f _ hx1
    have h2 := satA_ge h hx
    intro u hu
    rcases List.mem_cons.1 hu with rfl | hu
    · omega
    · exact costF_parts ht ho f _ hx1 hlt u hu
/-- the state of the rounds -/
structure CoS (ps : List Pr) (n : Nat) (it t : Int) (out : List Int) : Prop where
  len : out.length = n
  inb : InB out
  bd : BdI out
  snd : ∀ a : Int, 16 ≤ a → out.getD (a - 16).toNat 0 < Non → (a - 16).toNat < out.length → Yc ps it t a (out.getD (a - 16).toNat 0)
theorem CoS.start (ps : List Pr) (n : Nat) (it t : Int) : CoS ps n it t (List.replicate n Non) := by
  refine ⟨by simp, fun v hv => ?_, fun v hv h => ?_, fun a ha h hl => ?_⟩
  · have := (List.mem_replicate.1 hv).2; subst this; unfold Non; omega
  · have := (List.mem_replicate.1 hv).2; omega
  · rw [List.length_replicate] at hl
    rw [List.getD_eq_getElem?_getD, List.getElem?_replicate, if_pos hl] at h
    simp at h
/-- what a grammar's productions are -/
def PsOK (ps : List Pr) (n : Nat) : Prop := ∀ p ∈ ps, (16 ≤ p.left ∧ p.left < 16 + (n : Int)) ∧ p.right.length ≤ 6 ∧ ∀ s ∈ p.right, s < 16 ∨ (16 ≤ s ∧ s < 16 + (n : Int))
theorem CoS.step {ps : List Pr} {n : Nat} {it t : Int} {out : List Int} (h : CoS ps n it t out) (hps : PsOK ps n) (hit : 0 ≤ it ∧ it ≤ 1) (ht : 0 ≤ t ∧ (t ≤ 1 ∨ t = Non)) {p : Pr} (hp : p ∈ ps) (hlt : costF t out it p.right < out.getD (p.left - 16).toNat 0) :
    CoS ps n it t (out.set (p.left - 16).toNat (costF t out it p.right)) := by
  obtain ⟨hl, hr6, hsy⟩ := hps p hp
  have hitN : 0 ≤ it ∧ it ≤ Non := by unfold Non; omega
  have htN : 0 ≤ t ∧ t ≤ Non := by unfold Non at ht ⊢; omega
  have hj : (p.left - 16).toNat < out.length := by rw [h.len]; omega
  have hv : out[(p.left - 16).toNat]? = some (out.getD (p.left - 16).toNat 0) := by rw [List.getD_eq_getElem?_getD, List.getElem?_eq_getElem hj]; rfl
  have hvb := h.inb.get (p.left - 16).toNat
  have hcb := costF_bd htN h.inb p.right it hitN
  have hcN : costF t out it p.right < Non := by omega
  have hpow : (1 : Int) ≤ ((7 ^ cntN out : Nat) : Int) := by have := Nat.pow_pos (n := cntN out) (show 0 < 7 by omega); omega
  have hup : costF t out it p.right ≤ it + p.right.length * ((7 ^ cntN out : Nat) : Int) := by
    refine costF_up htN h.inb _ p.right it hit.1 fun s hs => ?_
    have hlt2 := costF_parts htN h.inb p.right it hitN hcN s hs
    split at hlt2
    · rename_i h16; rw [if_pos h16]; omega
    · rename_i h16
      rw [if_neg h16]
      have hsn : (s - 16).toNat < out.length := by
        rw [h.len]
        rcases hsy s hs with h' | h' <;> omega
      refine h.bd _ ?_ hlt2
      rw [List.getD_eq_getElem?_getD, List.getElem?_eq_getElem hsn]
      exact List.getElem_mem _
  have h7 : costF t out it p.right ≤ ((7 ^ (cntN out + 1) : Nat) : Int) := by
    have hmul : (p.right.length : Int) * ((7 ^ cntN out : Nat) : Int) ≤ 6 * ((7 ^ cntN out : Nat) : Int) := Int.mul_le_mul_of_nonneg_right (by omega) (by omega)
    have hpw : ((7 ^ (cntN out + 1) : Nat) : Int) = 7 * ((7 ^ cntN out : Nat) : Int) := by rw [Nat.pow_succ]; omega
    omega
  refine ⟨by rw [List.length_set]; exact h.len, fun v hv' => ?_, fun v hv' hvN => ?_, fun a ha hlt' hal => ?_⟩
  · rcases List.mem_or_eq_of_mem_set hv' with h' | rfl
    · exact h.inb v h'
    · exact hcb
  · by_cases hnew : out.getD (p.left - 16).toNat 0 = Non
    · rw [hnew] at hv
      rw [cntN_new hv hcN]
      rcases List.mem_or_eq_of_mem_set hv' with h' | rfl
      · have := h.bd v h' hvN
        have hpw : ((7 ^ (cntN out + 1) : Nat) : Int) = 7 * ((7 ^ cntN out : Nat) : Int) := by rw [Nat.pow_succ]; omega
        omega
      · exact h7
    · rw [cntN_old hv (by omega) hcN]
      rcases List.mem_or_eq_of_mem_set hv' with h' | rfl
      · exact h.bd v h' hvN
      · have := h.bd _ (List.mem_of_getElem? hv) (by omega)
        omega
  · rw [List.length_set] at hal
    by_cases e : (p.left - 16).toNat = (a - 16).toNat
    · rw [List.getD_eq_getElem?_getD, e, List.getElem?_set_self (by omega)] at hlt' ⊢
      obtain ⟨d, hd, he⟩ := costF_snd (ps := ps) (it := it) htN h.inb h.snd p.right it (fun s hs => by
        rcases hsy s hs with h' | h'
        · exact .inl h'
        · exact .inr ⟨h'.1, by rw [h.len]; omega⟩) hitN hcN
      exact ⟨p, hp, by omega, d, hd, he⟩
    · rw [List.getD_eq_getElem?_getD, List.getElem?_set_ne e, ← List.getD_eq_getElem?_getD] at hlt' ⊢
      exact h.snd a ha hlt' hal
/-- no production makes a cost less -/
def ClC (ps : List Pr) (it t : Int) (out : List Int) : Prop := ∀ p ∈ ps, out.getD (p.left - 16).toNat 0 ≤ costF t out it p.right
theorem CoS.low {ps : List Pr} {n : Nat} {it t : Int} {out : List Int} (h : CoS ps n it t out) (hc : ClC ps it t out) (hit : 0 ≤ it ∧ it ≤ 1) (ht : 0 ≤ t ∧ (t ≤ 1 ∨ t = Non)) {a c : Int} (hy : Yc ps it t a c) : out.getD (a - 16).toNat 0 ≤ c := by
  have hitN : 0 ≤ it ∧ it ≤ Non := by unfold Non; omega
  have htN : 0 ≤ t ∧ t ≤ Non := by unfold Non at ht ⊢; omega
  obtain ⟨p, hp, rfl, d, hd, rfl⟩ := hy
  have h1 := hc p hp
  have h2 := costF_low hitN htN h.inb hc hd it hit.1
  omega
theorem CoS.small {ps : List Pr} {n : Nat} {it t : Int} {out : List Int} (h : CoS ps n it t out) (hn : n ≤ 8) {v : Int} (hv : v ∈ out) (hN : v < Non) : v ≤ 5764801 := by
  have h1 := h.bd v hv hN
  have h2 : 7 ^ cntN out ≤ 7 ^ 8 := Nat.pow_le_pow_right (by omega) (by have := cntN_le out; rw [h.len] at this; omega)
  have h3 : (7 : Nat) ^ 8 = 5764801 := by decide
  omega
theorem CoS.fin {ps : List Pr} {n : Nat} {it t : Int} {out : List Int} (h : CoS ps n it t out) (hps : PsOK ps n) (hn : n ≤ 8) (hc : ClC ps it t out) (hit : 0 ≤ it ∧ it ≤ 1) (ht : 0 ≤ t ∧ (t ≤ 1 ∨ t = Non)) {f : List Int} {d : Int} (hd : Dc ps it t f d) :
    ∀ s ∈ f, (if s < 16 then t else out.getD (s - 16).toNat 0) ≤ 5764801 := by
  have hitN : 0 ≤ it ∧ it ≤ Non := by unfold Non; omega
  have htN : 0 ≤ t ∧ t ≤ Non := by unfold Non at ht ⊢; omega
  induction hd with
  | nil => intro s hs; cases hs
  | term s f c h16 htt _ ih =>
    intro u hu
    rcases List.mem_cons.1 hu with rfl | hu
    · rw [if_pos h16]
      rcases ht.2 with h' | h'
      · omega
      · omega
    · exact ih u hu
  | nont p f c d hp h16 _ _ ih1 ih2 =>
    intro u hu
    rcases List.mem_cons.1 hu with rfl | hu
    · rw [if_neg (by omega)]
      have h1 := hc p hp
      have h2 := costF_up htN h.inb 5764801 p.right it hit.1 ih1
      have h3 := (hps p hp).2.1
      have h4 : (p.right.length : Int) * 5764801 ≤ 6 * 5764801 := Int.mul_le_mul_of_nonneg_right (by omega) (by omega)
      have hj : (p.left - 16).toNat < out.length := by rw [h.len]; have := (hps p hp).1; omega
      refine h.small hn ?_ (by unfold Non; omega)
      rw [List.getD_eq_getElem?_getD, List.getElem?_eq_getElem hj]
      exact List.getElem_mem _
    · exact ih2 u hu
/-- the least costs: Non where there is none -/
structure LeC (ps : List Pr) (n : Nat) (it t : Int) (out : List Int) : Prop where
  len : out.length = n
  inb : InB out
  small : ∀ v ∈ out, v < Non → v ≤ 5764801
  snd : ∀ a : Int, 16 ≤ a → a < 16 + (n : Int) → out.getD (a - 16).toNat 0 < Non → Yc ps it t a (out.getD (a - 16).toNat 0)
  low : ∀ a c : Int, Yc ps it t a c → out.getD (a - 16).toNat 0 ≤ c ∧ out.getD (a - 16).toNat 0 < Non
theorem CoS.toLe {ps : List Pr} {n : Nat} {it t : Int} {out : List Int} (h : CoS ps n it t out) (hps : PsOK ps n) (hn : n ≤ 8) (hc : ClC ps it t out) (hit : 0 ≤ it ∧ it ≤ 1) (ht : 0 ≤ t ∧ (t ≤ 1 ∨ t = Non)) : LeC ps n it t out := by
  refine ⟨h.len, h.inb, fun v hv hN => h.small hn hv hN, fun a h1 h2 h3 => h.snd a h1 h3 (by rw [h.len]; omega), fun a c hy => ⟨h.low hc hit ht hy, ?_⟩⟩
  obtain ⟨p, hp, rfl, d, hd, rfl⟩ := hy
  have htN : 0 ≤ t ∧ t ≤ Non := by unfold Non at ht ⊢; omega
  have h1 := hc p hp
  have h2 := costF_up htN h.inb 5764801 p.right it hit.1 (h.fin hps hn hc hit ht hd)
  have h3 := (hps p hp).2.1
  have h4 : (p.right.length : Int) * 5764801 ≤ 6 * 5764801 := Int.mul_le_mul_of_nonneg_right (by omega) (by omega)
  unfold Non
  omega
/-- least lengths: -1 where there is none -/
structure LenL (ps : List Pr) (n : Nat) (L : List Int) : Prop where
  len : L.length = n
  bd : ∀ v ∈ L, v = -1 ∨ (0 ≤ v ∧ v ≤ 5764801)
  snd : ∀ a : Int, 16 ≤ a → a < 16 + (n : Int) → 0 ≤ L.getD (a - 16).toNat 0 → ∃ x, Yld ps a x ∧ (x.length : Int) = L.getD (a - 16).toNat 0
  low : ∀ (a : Int) (x : List Int), Yld ps a x → 0 ≤ L.getD (a - 16).toNat 0 ∧ L.getD (a - 16).toNat 0 ≤ x.length
theorem dc_of {ps : List Pr} {f x : List Int} (h : Der ps f x) : Dc ps 0 1 f x.length := by
  induction h with
  | nil => exact .nil
  | term s f w h _ ih => have := Dc.term s f _ h (by unfold Non; omega) ih; rwa [show ((s :: w).length : Int) = 1 + w.length by simp; omega]
  | nont p f u w hp h _ _ ihu ihw => have := Dc.nont p f _ _ hp h ihu ihw; rwa [show ((u ++ w).length : Int) = 0 + u.length + w.length by simp]
theorem of_dc {ps : List Pr} {f : List Int} {c : Int} (h : Dc ps 0 1 f c) : ∃ x, Der ps f x ∧ (x.length : Int) = c := by
  induction h with
  | nil => exact ⟨[], .nil, rfl⟩
  | term s f c h _ _ ih =>
    obtain ⟨x, h1, h2⟩ := ih
    exact ⟨s :: x, .term s f x h h1, by simp; omega⟩
  | nont p f c d hp h _ _ ih1 ih2 =>
    obtain ⟨x, h1, h2⟩ := ih1
    obtain ⟨y, h3, h4⟩ := ih2
    exact ⟨x ++ y, .nont p f x y hp h h1 h3, by simp; omega⟩
theorem yc_iff {ps : List Pr} {a c : Int} : Yc ps 0 1 a c ↔ ∃ x, Yld ps a x ∧ (x.length : Int) = c := by
  constructor
  · rintro ⟨p, hp, h1, d, hd, rfl⟩
    obtain ⟨x, h2, h3⟩ := of_dc hd
    exact ⟨x, ⟨p, hp, h1, h2⟩, by omega⟩
  · rintro ⟨x, ⟨p, hp, h1, h2⟩, rfl⟩
    exact ⟨p, hp, h1, _, dc_of h2, by omega⟩
/-- the numbers of costs -/
def choS (o : Int) (out : List Int) : List Int := out.map fun v => if v = Non then o else v
theorem choS_get (o : Int) (out : List Int) {i : Nat} (h : i < out.length) : (choS o out).getD i 0 = if out.getD i 0 = Non then o else out.getD i 0 := by
  simp [choS, List.getD_eq_getElem?_getD, List.getElem?_eq_getElem h]
theorem LeC.lens {ps : List Pr} {n : Nat} {out : List Int} (h : LeC ps n 0 1 out) (hps : PsOK ps n) : LenL ps n (choS (-1) out) := by
  have hl : (choS (-1) out).length = n := by simp [choS, h.len]
  refine ⟨hl, fun v hv => ?_, fun a h1 h2 h3 => ?_, fun a x hy => ?_⟩
  · obtain ⟨u, hu, rfl⟩ := List.mem_map.1 hv
    have := h.inb u hu
    split
    · exact .inl rfl
    · exact .inr ⟨this.1, h.small u hu (by omega)⟩
  · have hi : (a - 16).toNat < out.length := by rw [h.len]; omega
    rw [choS_get _ _ hi] at h3 ⊢
    have hb := h.inb.get (a - 16).toNat
    split at h3
    · omega
    · rename_i hne
      rw [if_neg hne]
      exact yc_iff.1 (h.snd a h1 h2 (by omega))
  · have hyc : Yc ps 0 1 a x.length := yc_iff.2 ⟨x, hy, rfl⟩
    obtain ⟨h1, h2⟩ := h.low a _ hyc
    obtain ⟨p, hp, rfl, _⟩ := hy
    have hi : (p.left - 16).toNat < out.length := by rw [h.len]; have := (hps p hp).1; omega
    have hb := h.inb.get (p.left - 16).toNat
    rw [choS_get _ _ hi, if_neg (by omega)]
    exact ⟨hb.1, h1⟩
theorem lens_uniq {ps : List Pr} {n : Nat} {L M : List Int} (h : LenL ps n L) (k : LenL ps n M) : L = M := by
  apply List.ext_getElem?
  intro i
  by_cases hi : i < n
  · have e1 : L[i]? = some (L.getD i 0) := by rw [List.getD_eq_getElem?_getD, List.getElem?_eq_getElem (by rw [h.len]; exact hi)]; rfl
    have e2 : M[i]? = some (M.getD i 0) := by rw [List.getD_eq_getElem?_getD, List.getElem?_eq_getElem (by rw [k.len]; exact hi)]; rfl
    rw [e1, e2]
    congr 1
    have hia : ((16 + (i : Int)) - 16).toNat = i := by omega
    have m1 := h.bd _ (List.mem_of_getElem? e1)
    have m2 := k.bd _ (List.mem_of_getElem? e2)
    by_cases h0 : 0 ≤ L.getD i 0
    · obtain ⟨x, hx, hl⟩ := h.snd (16 + (i : Int)) (by omega) (by omega) (by rw [hia]; exact h0)
      have := k.low _ x hx
      rw [hia] at this hl
      obtain ⟨y, hy, hl2⟩ := k.snd (16 + (i : Int)) (by omega) (by omega) (by rw [hia]; exact this.1)
      have h2 := h.low _ y hy
      rw [hia] at h2 hl2
      omega
    · by_cases h1 : 0 ≤ M.getD i 0
      · obtain ⟨y, hy, hl2⟩ := k.snd (16 + (i : Int)) (by omega) (by omega) (by rw [hia]; exact h1)
        have h2 := h.low _ y hy
        rw [hia] at h2
        omega
      · omega
  · rw [List.getElem?_eq_none (by rw [h.len]; omega), List.getElem?_eq_none (by rw [k.len]; omega)]
end Go.Proofs.YtlngbphchhbpbaaGreat

/- The first one of the shortest strings, plainly. -/
namespace Go.Proofs.YtlngbphchhbpbaaGreat
set_option linter.unusedVariables false

/-- how many terminals a form derives at least -/
def lenS (L : List Int) : List Int → Int
  | [] => 0
  | s :: f => (if s < 16 then 1 else L.getD (s - 16).toNat 0) + lenS L f
/-- the symbols of a grammar -/
def SyN (n : Nat) (f : List Int) : Prop := ∀ s ∈ f, s < 16 ∨ (16 ≤ s ∧ s < 16 + (n : Int))
theorem SyN.tail {n : Nat} {s : Int} {f : List Int} (h : SyN n (s :: f)) : SyN n f := fun x hx => h x (List.mem_cons_of_mem _ hx)
/-- all nonterminals yield -/
def AllY (L : List Int) : Prop := ∀ v ∈ L, 0 ≤ v
theorem AllY.get {L : List Int} (h : AllY L) (i : Nat) : 0 ≤ L.getD i 0 := by
  rw [List.getD_eq_getElem?_getD]
  cases hh : L[i]? with
  | none => simp
  | some v => exact h v (List.mem_of_getElem? hh)
theorem lenS_pos {L : List Int} (h : AllY L) : ∀ f : List Int, 0 ≤ lenS L f
  | [] => by simp [lenS]
  | s :: f => by
    have h1 := lenS_pos h f
    have h2 := h.get (s - 16).toNat
    unfold lenS
    split <;> omega
theorem lenS_low {ps : List Pr} {n : Nat} {L : List Int} (hL : LenL ps n L) {f x : List Int} (h : Der ps f x) : lenS L f ≤ x.length := by
  induction h with
  | nil => simp [lenS]
  | term s f w h16 _ ih => unfold lenS; rw [if_pos h16, List.length_cons]; omega
  | nont p f u w hp h16 hu _ _ ih2 =>
    unfold lenS
    rw [if_neg (by omega), List.length_append]
    have := (hL.low p.left u ⟨p, hp, rfl, hu⟩).2
    omega
theorem der_app2 {ps : List Pr} {s : Int} {f u w : List Int} (h1 : Yld ps s u) (hs : 16 ≤ s) (h2 : Der ps f w) : Der ps (s :: f) (u ++ w) := by
  obtain ⟨p, hp, rfl, hd⟩ := h1
  exact .nont p f u w hp hs hd h2
theorem lenS_get {ps : List Pr} {n : Nat} {L : List Int} (hL : LenL ps n L) (hy : AllY L) : ∀ {f : List Int}, SyN n f → ∃ x, Der ps f x ∧ (x.length : Int) = lenS L f
  | [], _ => ⟨[], .nil, rfl⟩
  | s :: f, hs => by
    obtain ⟨x, h1, h2⟩ := lenS_get hL hy hs.tail
    unfold lenS
    by_cases h16 : s < 16
    · rw [if_pos h16]
      exact ⟨s :: x, .term s f x h16 h1, by rw [List.length_cons]; omega⟩
    · rw [if_neg h16]
      have hsn := hs s List.mem_cons_self
      obtain ⟨u, h3, h4⟩ := hL.snd s (by omega) (by omega) (hy.get _)
      exact ⟨u ++ x, der_app2 h3 (by omega) h1, by rw [List.length_append]; omega⟩
theorem lenS_prod {ps : List Pr} {n : Nat} {L : List Int} (hL : LenL ps n L) (hy : AllY L) (hps : PsOK ps n) {p : Pr} (hp : p ∈ ps) : L.getD (p.left - 16).toNat 0 ≤ lenS L p.right := by
  obtain ⟨x, h1, h2⟩ := lenS_get hL hy (hps p hp).2.2
  have := (hL.low p.left x ⟨p, hp, rfl, h1⟩).2
  omega
/-- what joined computes -/
def jnF (ss : List (List Int)) (ks : List Bool) : List Int → List Int → Option (List Int)
  | out, [] => some out
  | out, s :: f => if s < 16 then jnF ss ks (out ++ [s]) f else if ks.getD (s - 16).toNat false = false then none else
      if 200 < (out ++ ss.getD (s - 16).toNat []).length then none else jnF ss ks (out ++ ss.getD (s - 16).toNat []) f
/-- known strings are derived, and of the least length -/
def KnS (ps : List Pr) (L : List Int) (ss : List (List Int)) (ks : List Bool) : Prop := ∀ a : Int, 16 ≤ a → ks.getD (a - 16).toNat false = true → Yld ps a (ss.getD (a - 16).toNat []) ∧ ((ss.getD (a - 16).toNat []).length : Int) = L.getD (a - 16).toNat 0
/-- no production makes one better -/
def KnC (ps : List Pr) (L : List Int) (ss : List (List Int)) (ks : List Bool) : Prop := ∀ p ∈ ps, L.getD (p.left - 16).toNat 0 ≤ 200 → ∀ l, jnF ss ks [] p.right = some l → (l.length : Int) = L.getD (p.left - 16).toNat 0 → ks.getD (p.left - 16).toNat false = true ∧ lex l (ss.getD (p.left - 16).toNat []) ≠ -1
theorem jnF_snd {ps : List Pr} {L : List Int} {ss : List (List Int)} {ks : List Bool} (hK : KnS ps L ss ks) : ∀ {f out r : List Int}, jnF ss ks out f = some r → ∃ y, r = out ++ y ∧ Der ps f y ∧ (y.length : Int) = lenS L f
  | [], out, r, h => by
    simp [jnF] at h
    subst h
    exact ⟨[], by simp, .nil, rfl⟩
  | s :: f, out, r, h => by
    unfold jnF at h
    unfold lenS
    by_cases h16 : s < 16
    · rw [if_pos h16] at h ⊢
      obtain ⟨y, rfl, h1, h2⟩ := jnF_snd hK h
      exact ⟨s :: y, by simp, .term s f y h16 h1, by rw [List.length_cons]; omega⟩
    · rw [if_neg h16] at h ⊢
      by_cases hk : ks.getD (s - 16).toNat false = false
      · rw [if_pos hk] at h; cases h
      · rw [if_neg hk] at h
        by_cases hl : 200 < (out ++ ss.getD (s - 16).toNat []).length
        · rw [if_pos hl] at h; cases h
        · rw [if_neg hl] at h
          obtain ⟨y, rfl, h1, h2⟩ := jnF_snd hK h
          obtain ⟨h3, h4⟩ := hK s (by omega) (by simpa using hk)
          exact ⟨ss.getD (s - 16).toNat [] ++ y, by simp, der_app2 h3 (by omega) h1, by rw [List.length_append]; omega⟩
theorem lex_app : ∀ {a b : List Int} (c d : List Int), a.length = b.length → lex (a ++ c) (b ++ d) = if lex a b = 0 then lex c d else lex a b
  | [], [], c, d, _ => by simp [lex]
  | [], _ :: _, c, d, h => by simp at h
  | _ :: _, [], c, d, h => by simp at h
  | x :: a, y :: b, c, d, h => by
    have ih := lex_app (a := a) (b := b) c d (by simpa using h)
    by_cases h1 : x < y
    · have e1 : lex (x :: a) (y :: b) = -1 := by unfold lex; rw [if_pos h1]
      have e2 : lex (x :: (a ++ c)) (y :: (b ++ d)) = -1 := by unfold lex; rw [if_pos h1]
      rw [List.cons_append, List.cons_append, e2, if_neg (by rw [e1]; omega), e1]
    · by_cases h2 : y < x
      · have e1 : lex (x :: a) (y :: b) = 1 := by unfold lex; rw [if_neg h1, if_pos h2]
        have e2 : lex (x :: (a ++ c)) (y :: (b ++ d)) = 1 := by unfold lex; rw [if_neg h1, if_pos h2]
        rw [List.cons_append, List.cons_append, e2, if_neg (by rw [e1]; omega), e1]
      · have e1 : lex (x :: a) (y :: b) = lex a b := by
          show (if x < y then (-1 : Int) else if y < x then 1 else lex a b) = lex a b
          rw [if_neg h1, if_neg h2]
        have e2 : lex (x :: (a ++ c)) (y :: (b ++ d)) = lex (a ++ c) (b ++ d) := by
          show (if x < y then (-1 : Int) else if y < x then 1 else lex (a ++ c) (b ++ d)) = lex (a ++ c) (b ++ d)
          rw [if_neg h1, if_neg h2]
        rw [List.cons_append, List.cons_append, e2, ih]
        by_cases h3 : lex a b = 0
        · rw [if_pos h3, if_pos (by rw [e1]; exact h3)]
        · rw [if_neg h3, if_neg (by rw [e1]; exact h3), e1]
theorem lex_le_trans {a b c : List Int} (h1 : lex a b ≠ 1) (h2 : lex b c ≠ 1) : lex a c ≠ 1 := by
  rcases lex_vals a b with e | e | e
  · rcases lex_vals b c with e' | e' | e'
    · rw [lex_trans e e']; omega
    · rw [← lex_eq e', e]; omega
    · exact absurd e' h2
  · rw [lex_eq e]; exact h2
  · exact absurd e h1
/-- the first one of the shortest strings of a form -/
def Best (ps : List Pr) (L : List Int) (f x : List Int) : Prop := Der ps f x ∧ (x.length : Int) = lenS L f ∧ ∀ y, Der ps f y → (y.length : Int) = lenS L f → lex x y ≠ 1
theorem best_uniq {ps : List Pr} {L f x y : List Int} (h : Best ps L f x) (k : Best ps L f y) : x = y := by
  have h1 := h.2.2 y k.1 k.2.1
  have h2 := k.2.2 x h.1 h.2.1
  rw [lex_anti x y] at h2
  rcases lex_vals x y with e | e | e
  · rw [e] at h2; exact absurd rfl h2
  · exact lex_eq e
  · exact absurd e h1
theorem jnF_best {ps : List Pr} {n : Nat} {L : List Int} {ss : List (List Int)} {ks : List Bool} (hL : LenL ps n L) (hy : AllY L) (hps : PsOK ps n) (hS : KnS ps L ss ks) (hC : KnC ps L ss ks) {f x : List Int} (h : Der ps f x) :
    (x.length : Int) = lenS L f → lenS L f ≤ 200 → ∀ out : List Int, (out.length : Int) + lenS L f ≤ 200 → ∃ y, jnF ss ks out f = some (out ++ y) ∧ y.length = x.length ∧ lex y x ≠ 1 := by
  induction h with
  | nil => intro _ _ out _; exact ⟨[], by simp [jnF], rfl, by simp [lex]⟩
  | term s f w h16 hf ih =>
    intro hl h200 out ho
    unfold lenS at hl h200 ho
    rw [if_pos h16] at hl h200 ho
    rw [List.length_cons] at hl
    have hlf := lenS_pos hy f
    obtain ⟨y, h1, h2, h3⟩ := ih (by omega) (by omega) (out ++ [s]) (by rw [List.length_append, List.length_singleton]; omega)
    refine ⟨s :: y, ?_, by simp [h2], ?_⟩
    · unfold jnF
      rw [if_pos h16, h1]; simp
    · unfold lex
      rw [if_neg (by omega), if_neg (by omega)]; exact h3
  | nont p f u w hp h16 hu hf ihu ihw =>
    intro hl h200 out ho
    have hyld : Yld ps p.left u := ⟨p, hp, rfl, hu⟩
    have hlo := (hL.low p.left u hyld).2
    have hlw := lenS_low hL hf
    unfold lenS at hl h200 ho
    rw [if_neg (by omega)] at hl h200 ho
    rw [List.length_append] at hl
    have hpos := lenS_pos hy f
    have hpl := hy.get (p.left - 16).toNat
    have hru := lenS_low hL hu
    have hpr := lenS_prod hL hy hps hp
    obtain ⟨y', h1, h2, h3⟩ := ihu (by omega) (by omega) [] (by simp; omega)
    rw [List.nil_append] at h1
    obtain ⟨hk, hx⟩ := hC p hp (by omega) y' h1 (by omega)
    obtain ⟨hd, hdl⟩ := hS p.left h16 hk
    obtain ⟨y2, h4, h5, h6⟩ := ihw (by omega) (by omega) (out ++ ss.getD (p.left - 16).toNat []) (by rw [List.length_append]; omega)
    refine ⟨ss.getD (p.left - 16).toNat [] ++ y2, ?_, by rw [List.length_append, List.length_append]; omega, ?_⟩
    · unfold jnF
      rw [if_neg (by omega), if_neg (by rw [hk]; simp), if_neg (by rw [List.length_append]; omega), h4, List.append_assoc]
    · have hle : lex (ss.getD (p.left - 16).toNat []) u ≠ 1 := by
        refine lex_le_trans (b := y') ?_ h3
        rw [lex_anti y']
        rcases lex_vals y' (ss.getD (p.left - 16).toNat []) with e | e | e
        · exact absurd e hx
        · rw [e]; omega
        · rw [e]; omega
      rw [lex_app _ _ (by omega)]
      split
      · exact h6
      · exact hle
/-- joined of a form is the first one of its shortest strings -/
theorem joined_best {ps : List Pr} {n : Nat} {L : List Int} {ss : List (List Int)} {ks : List Bool} (hL : LenL ps n L) (hy : AllY L) (hps : PsOK ps n) (hS : KnS ps L ss ks) (hC : KnC ps L ss ks) {f : List Int} (hf : SyN n f) (h200 : lenS L f ≤ 200) : ∃ x, jnF ss ks [] f = some x ∧ Best ps L f x := by
  obtain ⟨z, hz, hzl⟩ := lenS_get hL hy hf
  obtain ⟨x, h1, h2, _⟩ := jnF_best hL hy hps hS hC hz hzl h200 [] (by simpa using h200)
  rw [List.nil_append] at h1
  obtain ⟨x', e, hd, hl⟩ := jnF_snd hS h1
  rw [List.nil_append] at e
  subst e
  refine ⟨x, h1, hd, hl, fun y hy1 hy2 => ?_⟩
  obtain ⟨y', h3, _, h4⟩ := jnF_best hL hy hps hS hC hy1 hy2 h200 [] (by simpa using h200)
  rw [List.nil_append, h1] at h3
  injection h3 with h3
  rw [h3]; exact h4
/-- the number of a string among those of its length -/
def rnk (l : List Int) : Nat := l.foldl (fun a c => a * 8 + c.toNat) 0
theorem rnk_fold (l : List Int) (a : Nat) : l.foldl (fun a c => a * 8 + c.toNat) a = a * 8 ^ l.length + rnk l := by
  induction l generalizing a with
  | nil => simp [rnk]
  | cons c l ih =>
    unfold rnk
    rw [List.foldl_cons, List.foldl_cons, ih, ih (0 * 8 + c.toNat), List.length_cons, Nat.pow_succ]
    rw [Nat.add_mul, Nat.zero_mul, Nat.zero_add, Nat.mul_assoc, Nat.mul_comm 8, Nat.add_assoc]
theorem rnk_cons (c : Int) (l : List Int) : rnk (c :: l) = c.toNat * 8 ^ l.length + rnk l := by
  have := rnk_fold l (0 * 8 + c.toNat)
  unfold rnk
  rw [List.foldl_cons, this]
  simp [rnk]
/-- letters below 8 -/
def Let8 (l : List Int) : Prop := ∀ c ∈ l, 0 ≤ c ∧ c < 8
theorem Let8.tail {c : Int} {l : List Int} (h : Let8 (c :: l)) : Let8 l := fun x hx => h x (List.mem_cons_of_mem _ hx)
theorem rnk_lt : ∀ {l : List Int}, Let8 l → rnk l < 8 ^ l.length
  | [], _ => by simp [rnk]
  | c :: l, h => by
    have h1 := rnk_lt h.tail
    have h2 := h c List.mem_cons_self
    rw [rnk_cons, List.length_cons, Nat.pow_succ]
    have h3 : c.toNat * 8 ^ l.length ≤ 7 * 8 ^ l.length := Nat.mul_le_mul_right _ (by omega)
    omega
theorem rnk_lex : ∀ {a b : List Int}, Let8 a → Let8 b → a.length = b.length → lex a b = -1 → rnk a < rnk b
  | [], [], _, _, _, h => by simp [lex] at h
  | [], _ :: _, _, _, h, _ => by simp at h
  | _ :: _, [], _, _, h, _ => by simp at h
  | x :: a, y :: b, ha, hb, hl, h => by
    have hl2 : a.length = b.length := by simpa using hl
    have h1 := rnk_lt ha.tail
    have hx := ha x List.mem_cons_self
    have hy := hb y List.mem_cons_self
    rw [rnk_cons, rnk_cons, ← hl2]
    unfold lex at h
    by_cases h2 : x < y
    · have h3 : (x.toNat + 1) * 8 ^ a.length ≤ y.toNat * 8 ^ a.length := Nat.mul_le_mul_right _ (by omega)
      rw [Nat.add_mul, Nat.one_mul] at h3
      omega
    · rw [if_neg h2] at h
      by_cases h3 : y < x
      · rw [if_pos h3] at h; omega
      · rw [if_neg h3] at h
        have := rnk_lex ha.tail hb.tail hl2 h
        have e : x = y := by omega
        subst e
        omega
/-- how much better the known strings can get -/
def meaK : List (List Int) → List Bool → Nat
  | s :: ss, k :: ks => (if k = true then rnk s else 8 ^ 201) + meaK ss ks
  | _, _ => 0
theorem meaK_set : ∀ (ss : List (List Int)) (ks : List Bool) (j : Nat) (l : List Int), ss.length = ks.length → j < ss.length → (ks.getD j false = false → rnk l < 8 ^ 201) → (ks.getD j false = true → rnk l < rnk (ss.getD j [])) → meaK (ss.set j l) (ks.set j true) < meaK ss ks
  | [], _, j, l, _, h, _, _ => by simp at h
  | s :: ss, [], j, l, h, _, _, _ => by simp at h
  | s :: ss, k :: ks, 0, l, _, _, h1, h2 => by
    simp only [List.set_cons_zero, meaK, if_true]
    cases k with
    | true => have := h2 (by simp); simp at this; simp; omega
    | false => have := h1 (by simp); simp at this ⊢; omega
  | s :: ss, k :: ks, j + 1, l, hl, h, h1, h2 => by
    have := meaK_set ss ks j l (by simpa using hl) (by simpa using h) (by simpa using h1) (by simpa using h2)
    simp only [List.set_cons_succ, meaK]
    omega
end Go.Proofs.YtlngbphchhbpbaaGreat

/- reach.costs: the walk. -/
namespace Go.Proofs.YtlngbphchhbpbaaGreat
open Go.ChangeShapes Go.WideShapes Go.ChangeAt Go.RowKit
set_option linter.unusedVariables false

theorem drop_cons2 {l : List Int} {i : Nat} {x : Int} (h : l[i]? = some x) : l.drop i = x :: l.drop (i + 1) := by
  obtain ⟨h1, rfl⟩ := List.getElem?_eq_some_iff.1 h
  exact List.drop_eq_getElem_cons h1
set_option maxRecDepth 100000 in
set_option maxHeartbeats 1000000 in
theorem cost1_any (pl : Int) (pr : List Int) (RA : Option Addr) (rc b1 b2 bo og n : Nat) (it t : Int) (out : List Int) (w : World) (B : Nat) (hR : Rd1 w B RA pr.length (ints pr)) (hB : B ≤ w.heap.size) (q1 : Blk w b1 2 #[.int .i64 it]) (q2 : Blk w b2 2 #[.int .i64 t]) (q3 : Blk w bo 66 #[.slice (some ⟨og, 0, none⟩) n n]) (q4 : Blk w og 2 (ints out).toArray)
    (hl : out.length = n) (hit : 0 ≤ it ∧ it ≤ Non) (ht : 0 ≤ t ∧ t ≤ Non) (ho : InB out) (hr6 : pr.length ≤ 1000) (hsy : ∀ s ∈ pr, s < 16 ∨ (16 ≤ s ∧ s < 16 + (n : Int))) (hn : n ≤ 1000) :
    Calls Tryz.prog 54 #[.agg #[.int .i64 pl, .slice RA pr.length rc], .pointer (some ⟨b1, 0, none⟩), .pointer (some ⟨b2, 0, none⟩), .pointer (some ⟨bo, 0, none⟩)] w fun e w' => e = .returned (.int .i64 (costF t out it pr)) ∧ Below w.heap.size w w' := by
  obtain ⟨R, hRR⟩ : ∃ R, R = costF t out it pr := ⟨_, rfl⟩
  obtain ⟨k, hk⟩ : ∃ k, k = pr.length := ⟨_, rfl⟩
  rw [← hRR]
  rw [← hk] at hR hr6 ⊢
  have hS := Lib.hid (fun (a b : Int) (W : World) (ha : 0 ≤ a ∧ a ≤ Non) (hb : 0 ≤ b ∧ b ≤ Non) => sum_any a b W ha hb)
  have hRR2 := Lib.hid (show costF t out it (pr.drop 0) = R from hRR.symm)
  replace ho := Lib.hid ho
  replace hsy := Lib.hid hsy
  replace ht := Lib.hid ht
  replace hl := Lib.hid hl
  replace hit := Lib.hid hit
  replace hk := Lib.hid hk
  clear hRR
  go_enter Tryz.func54, Tryz.ntmps54
  go_upto_region 1 with (fail)
  have qp := Blk.new w 37 #[.int .i64 pl, .slice RA k rc]
  have hb0 : Below w.heap.size w (w.alloc (.cells #[.int .i64 pl, .slice RA k rc] 37)) := bAlc (Below.refl _ _) _
  generalize w.alloc (.cells #[.int .i64 pl, .slice RA k rc] 37) = w1 at *
  have hR1 := hR.below (hb0.mono hB)
  have q11 := q1.step hb0
  have q21 := q2.step hb0
  have q31 := q3.step hb0
  have q41 := q4.step hb0
  have p1 := qp.cell 1
  have c1 := q11.cell 0
  have c2 := q21.cell 0
  have c3 := q31.cell 0
  simp only [List.getElem?_toArray, List.getElem?_cons_zero, List.getElem?_cons_succ] at p1 c1 c2 c3
  clear q1 q2 q3 q4 hR
  go_wp2_with fail
  clear p1
  go_loopg [6, 13] k (fun gk s6 s13 wr => ∃ (i : Nat) (c : Int), s13 = .int .i64 i ∧ s6 = .int .i64 c ∧ i + gk = k ∧ Hid (costF t out c (pr.drop i) = R) ∧ Hid (0 ≤ c ∧ c ≤ Non) ∧ w1 = wr)
  case atStart => exact ⟨0, it, rfl, rfl, by omega, hRR2, hit, rfl⟩
  case round =>
    obtain ⟨i, c, rfl, rfl, hi, hc, hcb, rfl⟩ := hrel
    replace hi := Lib.hid hi
    by_cases hin : i < k
    · have hil : i < pr.length := by have := hk.out; omega
      have hx : pr[i]? = some pr[i] := List.getElem?_eq_getElem hil
      obtain ⟨b, off, rfl, hbt, x0⟩ := hR1.get (show (ints pr)[i]? = some (.int .i64 pr[i]) by rw [ints, List.getElem?_map, hx]; rfl)
      have hdr := drop_cons2 hx
      have hsyx := hsy.out _ (List.getElem_mem hil)
      generalize pr[i] = s at *
      have hz0 : (0 : Int) ≤ i := by omega
      have hz1 : (i : Int) < k := by omega
      replace hx := Lib.hid hx
      by_cases h16 : s < 16
      · have hc2 : Hid (costF t out (satA c t) (pr.drop (i + 1)) = R) := Lib.hid (by have := hc.out; rw [hdr, costF, if_pos h16] at this; exact this)
        have hcb2 := Lib.hid (satA_bd hcb.out.1 ht.out.1)
        replace hdr := Lib.hid hdr
        go_wp2_with (go_at_call 55; refine (hS.out c t _ hcb.out ht.out).mono ?_; rintro e w2 ⟨rfl, rfl⟩)
        go_roundg (k - (i + 1))
        case measure => have := hi.out; omega
        case rel => exact ⟨i + 1, satA c t, by go_num, rfl, by have := hi.out; omega, hc2, hcb2, rfl⟩
      · have hc2 : Hid (costF t out (satA c (out.getD (s - 16).toNat 0)) (pr.drop (i + 1)) = R) := Lib.hid (by have := hc.out; rw [hdr, costF, if_neg h16] at this; exact this)
        have hog := ho.out.get (s - 16).toNat
        have hcb2 := Lib.hid (satA_bd hcb.out.1 hog.1)
        replace hdr := Lib.hid hdr
        obtain ⟨j, hj⟩ := Int.eq_ofNat_of_zero_le (show 0 ≤ s - 16 by omega)
        have hj2 : (s - 16).toNat = j := by omega
        rw [hj2] at hc2 hog hcb2
        have hjn : j < n := by omega
        have hjo : j < out.length := by have := hl.out; omega
        have hv : out[j]? = some (out.getD j 0) := by rw [List.getD_eq_getElem?_getD, List.getElem?_eq_getElem hjo]; rfl
        have y0 : w1.cell? ⟨og, j, none⟩ = some (.int .i64 (out.getD j 0)) := by
          rw [q41.cell, List.getElem?_toArray, ints, List.getElem?_map, hv]
          rfl
        generalize out.getD j 0 = v at *
        have hz2 : (0 : Int) ≤ j := by omega
        have hz3 : (j : Int) < n := by omega
        have hz4 : s ≤ 2000 := by omega
        have hz5 : ¬ s < 16 := h16
        replace hv := Lib.hid hv
        replace hog := Lib.hid hog
        clear hj2 h16 hsyx
        go_wp2_with (go_at_call 55; refine (hS.out c v _ hcb.out hog.out).mono ?_; rintro e w2 ⟨rfl, rfl⟩)
        go_roundg (k - (i + 1))
        case measure => have := hi.out; omega
        case rel => exact ⟨i + 1, satA c v, by go_num, rfl, by have := hi.out; omega, hc2, hcb2, rfl⟩
    · have hce : c = R := by have := hc.out; rwa [List.drop_eq_nil_of_le (by have := hk.out; omega), costF] at this
      subst hce
      go_wp2_with fail
      go_ret
      exact ⟨rfl, hb0⟩
end Go.Proofs.YtlngbphchhbpbaaGreat

/- reach.costs: the rounds. -/
namespace Go.Proofs.YtlngbphchhbpbaaGreat
open Go.ChangeShapes Go.WideShapes Go.ChangeAt Go.RowKit
set_option linter.unusedVariables false

/-- the state of costs -/
def CS (w : World) (g : Gr) (a : GA) (b1 b2 bo og n : Nat) (it t : Int) (out : List Int) (W : World) : Prop :=
  GB w g a W ∧ Blk W b1 2 #[.int .i64 it] ∧ Blk W b2 2 #[.int .i64 t] ∧ Blk W bo 66 #[.slice (some ⟨og, 0, none⟩) n n] ∧ Blk W og 2 (ints out).toArray ∧ (w.heap.size < og ∧ b1 < og ∧ b2 < og ∧ og < bo)
section
variable {w W W' : World} {g : Gr} {a : GA} {b1 b2 bo og n : Nat} {it t : Int} {out : List Int}
theorem CS.step (h : CS w g a b1 b2 bo og n it t out W) (hb : Below W.heap.size W W') : CS w g a b1 b2 bo og n it t out W' :=
  ⟨h.1.step hb, h.2.1.step hb, h.2.2.1.step hb, h.2.2.2.1.step hb, h.2.2.2.2.1.step hb, h.2.2.2.2.2⟩
theorem CS.set (h : CS w g a b1 b2 bo og n it t out W) (j : Nat) (c : Int) : CS w g a b1 b2 bo og n it t (out.set j c) (W.setCell ⟨og, j, none⟩ (.int .i64 c)) := by
  obtain ⟨h1, h2, h3, h4, h5, h6⟩ := h
  refine ⟨h1.far _ _ h6.1, h2.far (by simp; omega) _, h3.far (by simp; omega) _, h4.far (by simp; omega) _, ?_, h6⟩
  have := h5.put j (.int .i64 c)
  rw [List.setIfInBounds_toArray, show (ints out).set j (.int .i64 c) = ints (out.set j c) by simp [ints, List.map_set]] at this
  exact this
end
/-- what costs hands back -/
def RetCo (g : Gr) (it t : Int) (w : World) (e : Ending) (w' : World) : Prop := ∃ (out : List Int) (og : Nat), e = .returned (.slice (some ⟨og, 0, none⟩) g.names.length g.names.length) ∧ Blk w' og 2 (ints out).toArray ∧ LeC g.prods g.names.length it t out ∧ Below w.heap.size w w'
theorem psok_of {g : Gr} (h : gchk g = 0) : PsOK g.prods g.names.length := fun p hp => by
  have hk := gok_of h
  obtain ⟨h1, h2, h3⟩ := hk.pr p hp
  refine ⟨h1, h2, fun s hs => ?_⟩
  have := hk.tk
  rcases h3 s hs with h' | h'
  · left; omega
  · exact .inr h'
set_option maxRecDepth 100000 in
set_option maxHeartbeats 4000000 in
theorem costs_any (g : Gr) (a : GA) (it t : Int) (w : World) (hg : GrAt w w.heap.size g a) (hok : gchk g = 0) (hit : 0 ≤ it ∧ it ≤ 1) (ht : 0 ≤ t ∧ (t ≤ 1 ∨ t = Non)) :
    Calls Tryz.prog 34 #[gval g a, .int .i64 it, .int .i64 t] w (RetCo g it t w) := by
  obtain ⟨ta, tc, na, nc, pa, pc⟩ := a
  have hG0 := GB.start hg
  have hk := gok_of hok
  have hps := psok_of hok
  have hitN : 0 ≤ it ∧ it ≤ Non := by unfold Non; omega
  have htN : 0 ≤ t ∧ t ≤ Non := by unfold Non at ht ⊢; omega
  have hRet := Lib.hid (fun (out : List Int) (og : Nat) (w' : World) (h1 : Blk w' og 2 (ints out).toArray) (h2 : CoS g.prods g.names.length it t out) (h3 : ClC g.prods it t out) (h4 : Below w.heap.size w w') =>
    (show RetCo g it t w (.returned (.slice (some ⟨og, 0, none⟩) g.names.length g.names.length)) w' from ⟨out, og, rfl, h1, h2.toLe hps hk.nm.2 h3 hit ht, h4⟩))
  have hStp := Lib.hid (fun (out : List Int) (h : CoS g.prods g.names.length it t out) (p : Pr) (hp : p ∈ g.prods) (hlt : costF t out it p.right < out.getD (p.left - 16).toNat 0) => h.step hps hit ht hp hlt)
  have hSt0 := Lib.hid (CoS.start g.prods g.names.length it t)
  have hF := Lib.hid (fun (W : World) => filled2_any g.names.length Non W hk.nm.1 (by have := hk.nm.2; omega))
  unfold Non at hF
  obtain ⟨n, hn⟩ : ∃ n, n = g.names.length := ⟨_, rfl⟩
  obtain ⟨m, hm⟩ : ∃ m, m = g.prods.length := ⟨_, rfl⟩
  have hn8 : n ≤ 8 := by rw [hn]; exact hk.nm.2
  have hn1 : 1 ≤ n := by rw [hn]; exact hk.nm.1
  have hm24 : m ≤ 24 := by rw [hm]; exact hk.pl
  replace hps := Lib.hid hps
  replace hitN := Lib.hid hitN
  replace htN := Lib.hid htN
  clear hg hok hk hit ht
  unfold gval at *
  unfold gcells at *
  dsimp only at *
  rw [← hn] at hG0 hF hRet hStp hSt0 hps ⊢
  rw [← hm] at hG0 ⊢
  generalize hRR : RetCo g it t w = R at *
  replace hRR := Lib.hid hRR
  replace hn := Lib.hid hn
  replace hm := Lib.hid hm
  have hzn : (0 : Int) ≤ n := by omega
  go_enter Tryz.func34, Tryz.ntmps34
  go_wp2_with fail
  go_step3
  go_upto_region 1 with (fail)
  have qa : Blk (((w.alloc (.cells #[.int .i64 g.k, .slice ta g.toks.length tc, .string g.sep, .slice na n nc, .int .i64 g.start, .slice pa m pc] 25)).alloc (.cells #[.int .i64 it] 2)).alloc (.cells #[.int .i64 t] 2)) (w.heap.size + 1) 2 #[.int .i64 it] := (Blk.newAt _ _ _ _ (by simp)).alloc _
  have qb : Blk (((w.alloc (.cells #[.int .i64 g.k, .slice ta g.toks.length tc, .string g.sep, .slice na n nc, .int .i64 g.start, .slice pa m pc] 25)).alloc (.cells #[.int .i64 it] 2)).alloc (.cells #[.int .i64 t] 2)) (w.heap.size + 1 + 1) 2 #[.int .i64 t] := Blk.newAt _ _ _ _ (by simp)
  have hG1 := (hG0.alloc (.cells #[.int .i64 it] 2)).alloc (.cells #[.int .i64 t] 2)
  clear hG0
  have hz1 : (((w.alloc (.cells #[.int .i64 g.k, .slice ta g.toks.length tc, .string g.sep, .slice na n nc, .int .i64 g.start, .slice pa m pc] 25)).alloc (.cells #[.int .i64 it] 2)).alloc (.cells #[.int .i64 t] 2)).heap.size = w.heap.size + 1 + 1 + 1 := by simp
  generalize ((w.alloc (.cells #[.int .i64 g.k, .slice ta g.toks.length tc, .string g.sep, .slice na n nc, .int .i64 g.start, .slice pa m pc] 25)).alloc (.cells #[.int .i64 it] 2)).alloc (.cells #[.int .i64 t] 2) = w1 at *
  obtain ⟨c0, c1, c2, c3, c4, c5⟩ := hG1.cells
  dsimp only at c3
  rw [← hn.out] at c3
  replace hz1 := Lib.hid hz1
  clear c0 c1 c2 c4 c5
  go_upto_region 2 with (go_at_call 53; refine (hF.out _).mono ?_; rintro e w2 ⟨rfl, qo, hb2⟩)
  have hz2 := hb2.size
  have hzo := qo.lt
  have hG2 := (hG1.step hb2).alloc (.cells #[.slice (some ⟨w1.heap.size, 0, none⟩) n n] 66)
  have qa2 := (qa.step hb2).alloc (.cells #[.slice (some ⟨w1.heap.size, 0, none⟩) n n] 66)
  have qb2 := (qb.step hb2).alloc (.cells #[.slice (some ⟨w1.heap.size, 0, none⟩) n n] 66)
  have qo2 := qo.alloc (.cells #[.slice (some ⟨w1.heap.size, 0, none⟩) n n] 66)
  have qB := Blk.new w2 66 #[.slice (some ⟨w1.heap.size, 0, none⟩) n n]
  have hoi : (List.replicate n (Value.int .i64 9223372036854775807)).toArray = (ints (List.replicate n Non)).toArray := by simp [ints, Non]
  rw [hoi] at qo2
  have hCS : CS w g ⟨ta, tc, na, nc, pa, pc⟩ (w.heap.size + 1) (w.heap.size + 1 + 1) w2.heap.size w1.heap.size n it t (List.replicate n Non) (w2.alloc (.cells #[.slice (some ⟨w1.heap.size, 0, none⟩) n n] 66)) := ⟨hG2, qa2, qb2, qB, qo2, by have := hz1.out; omega⟩
  clear hG1 hG2 qa qb qo qa2 qb2 qo2 qB c3 hoi hF hz2 hzo hb2 hz1
  generalize w2.alloc (.cells #[.slice (some ⟨w1.heap.size, 0, none⟩) n n] 66) = w3 at *
  generalize w1.heap.size = og at *
  generalize w2.heap.size = bo at *
  go_wp2_with fail
  go_step3
  go_wp2_with fail
  go_loopg [] (sumI (List.replicate n Non) + 1) (fun gk wr => ∃ out : List Int, Hid (gk = sumI out + 1) ∧ Hid (CoS g.prods n it t out) ∧ CS w g ⟨ta, tc, na, nc, pa, pc⟩ (w.heap.size + 1) (w.heap.size + 1 + 1) bo og n it t out wr)
  case atStart => exact ⟨_, Lib.hid rfl, hSt0, hCS⟩
  case round =>
    clear hCS
    obtain ⟨out, hgk, hCo, hCS⟩ := hrel
    obtain ⟨c0, c1, c2, c3, c4, c5⟩ := hCS.1.cells
    dsimp only at c5
    rw [← hm.out] at c5
    clear c0 c1 c2 c3 c4
    go_wp2_with fail
    clear c5
    have hCS' := hCS
    go_loopg [20] m (fun gk2 s20 wr => ∃ i : Nat, s20 = .int .i64 i ∧ i + gk2 = m ∧ Hid (∀ p ∈ g.prods.take i, out.getD (p.left - 16).toNat 0 ≤ costF t out it p.right) ∧ CS w g ⟨ta, tc, na, nc, pa, pc⟩ (w.heap.size + 1) (w.heap.size + 1 + 1) bo og n it t out wr)
    case atStart => exact ⟨0, rfl, by omega, Lib.hid (by simp), hCS'⟩
    case round =>
      clear hCS hCS'
      obtain ⟨i, rfl, hi, hcl, hCS⟩ := hrel
      replace hi := Lib.hid hi
      by_cases hin : i < m
      · have hil : i < g.prods.length := by have := hm.out; omega
        have hxi : g.prods[i]? = some g.prods[i] := List.getElem?_eq_getElem hil
        obtain ⟨b, off, rfl, hbt, y0, RA, rc, y1, hRd, hrl, hrm⟩ := hCS.1.2.1.prods.get hxi
        have hpm := List.getElem_mem hil
        have htk : g.prods.take (i + 1) = g.prods.take i ++ [g.prods[i]] := List.take_succ_eq_append_getElem hil
        obtain ⟨hpl, hpr6, hsy⟩ := hps.out _ hpm
        generalize g.prods[i] = p at *
        obtain ⟨pl, pr⟩ := p
        dsimp only at y0 y1 hRd hrl hpl hpr6 hsy
        have hStp1 := Lib.hid (fun h => hStp.out out hCo.out ⟨pl, pr⟩ hpm h)
        dsimp only at hStp1
        replace hxi := Lib.hid hxi
        replace htk := Lib.hid htk
        replace hpm := Lib.hid hpm
        replace hsy := Lib.hid hsy
        have hzi : (0 : Int) ≤ i := by omega
        have hzim : (i : Int) < m := by omega
        have hmul : (i : Int) * 2 ≤ 100 := by omega
        go_upto_region 6 with (fail)
        have hCS3 := hCS.step (bAlc (Below.refl _ _) (.cells #[.int .i64 pl, .slice RA pr.length rc] 37))
        have qp : Blk (wr.alloc (.cells #[.int .i64 pl, .slice RA pr.length rc] 37)) wr.heap.size 37 #[.int .i64 pl, .slice RA pr.length rc] := Blk.new _ _ _
        have hRd3 : Rd1 (wr.alloc (.cells #[.int .i64 pl, .slice RA pr.length rc] 37)) w.heap.size RA pr.length (ints pr) := hRd.below ((bAlc (Below.refl _ _) (.cells #[.int .i64 pl, .slice RA pr.length rc] 37)).mono hCS.1.2.2.size)
        have hBp : bo < wr.heap.size := hCS.2.2.2.1.lt
        clear hCS hRd y0 y1
        generalize wr.alloc (.cells #[.int .i64 pl, .slice RA pr.length rc] 37) = W3 at *
        generalize wr.heap.size = Bp at *
        obtain ⟨j, hj⟩ := Int.eq_ofNat_of_zero_le (show 0 ≤ pl - 16 by omega)
        have hj2 : (pl - 16).toNat = j := by omega
        rw [hj2] at hStp1
        have hjn : j < n := by omega
        have hjo : j < out.length := by rw [hCo.out.len]; exact hjn
        have hv : out[j]? = some (out.getD j 0) := by rw [List.getD_eq_getElem?_getD, List.getElem?_eq_getElem hjo]; rfl
        have x0 : W3.cell? ⟨og, j, none⟩ = some (.int .i64 (out.getD j 0)) := by
          rw [hCS3.2.2.2.2.1.cell, List.getElem?_toArray, ints, List.getElem?_map, hv]; rfl
        have x1 := hCS3.2.2.2.2.1.frozen j
        have hE := Lib.hid (fun (q : KeptBy W3) => cost1_any pl pr RA rc (w.heap.size + 1) (w.heap.size + 1 + 1) bo og n it t out q.world w.heap.size (hRd3.below (q.kept.mono hCS3.1.2.2.size)) (hCS3.step q.kept).1.2.2.size (hCS3.step q.kept).2.1 (hCS3.step q.kept).2.2.1 (hCS3.step q.kept).2.2.2.1 (hCS3.step q.kept).2.2.2.2.1 hCo.out.len hitN.out htN.out hCo.out.inb (by omega) hsy.out (by omega))
        have hsum : Hid (∀ c : Int, 0 ≤ c → c < out.getD j 0 → sumI (out.set j c) < sumI out) := Lib.hid (fun c h0 h1 => sumI_set out j c _ hv h0 h1)
        have hcb := costF_bd htN.out hCo.out.inb pr it hitN.out
        have hcl1 : Hid (out.getD j 0 ≤ costF t out it pr → ∀ p ∈ g.prods.take (i + 1), out.getD (p.left - 16).toNat 0 ≤ costF t out it p.right) := Lib.hid (fun h p hp => by
          rw [htk.out] at hp
          rcases List.mem_append.1 hp with hp | hp
          · exact hcl.out p hp
          · have : p = ⟨pl, pr⟩ := by simpa using hp
            subst this
            show out.getD (pl - 16).toNat 0 ≤ costF t out it pr
            rw [hj2]; exact h)
        generalize out.getD j 0 = v at *
        generalize costF t out it pr = C at *
        have p0 := qp.cell 0
        have p1 := qp.cell 1
        have o0 := hCS3.2.2.2.1.cell 0
        simp only [List.getElem?_toArray, List.getElem?_cons_zero, List.getElem?_cons_succ] at p0 p1 o0
        have hzj : (0 : Int) ≤ j := by omega
        have hzjn : (j : Int) < n := by omega
        have hpl2 : pl ≤ 1000 := by omega
        replace hv := Lib.hid hv
        replace hcb := Lib.hid hcb
        clear hj2 hpl
        go_upto_region 7 with (fail)
        have k0 := cell_kept p0
        have k1 := cell_kept p1
        have k2 := cell_kept o0
        have k3 := cell_kept x0
        refine wp_region_kept (by kernel_rfl) (by kernel_rfl) ?_
        repeat (go_big_quiet_step ((go_at_call 54; exact Calls.kept_by (hE.out _))))
        refine wpQuiet_nil ?_
        rintro _ ⟨q, rfl⟩
        have hE2 := Lib.hid (fun (W : World) (h : Below q.world.heap.size q.world W) => (show Calls Tryz.prog 54 #[.agg #[.int .i64 pl, .slice RA pr.length rc], .pointer (some ⟨w.heap.size + 1, 0, none⟩), .pointer (some ⟨w.heap.size + 1 + 1, 0, none⟩), .pointer (some ⟨bo, 0, none⟩)] W fun e w' => e = .returned (.int .i64 C) ∧ Below W.heap.size W w' from hE.out ⟨W, bStep q.kept h⟩))
        have qp5 := qp.step q.kept
        have hCS5 := hCS3.step q.kept
        have p0 := cell_later q.kept p0
        have p1 := cell_later q.kept p1
        have o0 := cell_later q.kept o0
        have x0 := cell_later q.kept x0
        have x1 := hCS5.2.2.2.2.1.frozen j
        clear hE k0 k1 k2 k3 hCS3 qp hRd3
        generalize q.world = W5 at *
        by_cases hlt : C < v
        · have hCo2 := Lib.hid (hStp1.out hlt)
          have hsm := Lib.hid (hsum.out C hcb.out.1 hlt)
          have hord := hCS5.2.2.2.2.2
          go_upto_region 8 with (fail)
          have hAll := Lib.hid (fun (W : World) (h : Below W5.heap.size W5 W) => (⟨cell_later h p0, cell_later h p1, cell_later h o0⟩ : W.cell? ⟨Bp, 0, none⟩ = some (.int .i64 pl) ∧ W.cell? ⟨Bp, 1, none⟩ = some (.slice RA pr.length rc) ∧ W.cell? ⟨bo, 0, none⟩ = some (.slice (some ⟨og, 0, none⟩) n n)))
          have hAll2 := Lib.hid (fun (W : World) (h : Below W5.heap.size W5 W) => (show (W.setCell ⟨og, j, none⟩ (.int .i64 C)).cell? ⟨Bp, 0, none⟩ = some (.int .i64 pl) ∧ (W.setCell ⟨og, j, none⟩ (.int .i64 C)).cell? ⟨Bp, 1, none⟩ = some (.slice RA pr.length rc) ∧ (W.setCell ⟨og, j, none⟩ (.int .i64 C)).cell? ⟨bo, 0, none⟩ = some (.slice (some ⟨og, 0, none⟩) n n) from by
            have h1 := (qp5.step h).far (p := ⟨og, j, none⟩) (by simp; omega) (.int .i64 C)
            have h2 := ((hCS5.2.2.2.1).step h).far (p := ⟨og, j, none⟩) (by simp; omega) (.int .i64 C)
            exact ⟨h1.cell 0, h1.cell 1, h2.cell 0⟩))
          clear p0 p1 o0
          go_region_held3 (fun W => W.cell? ⟨Bp, 0, none⟩ = some (.int .i64 pl) ∧ W.cell? ⟨Bp, 1, none⟩ = some (.slice RA pr.length rc) ∧ W.cell? ⟨bo, 0, none⟩ = some (.slice (some ⟨og, 0, none⟩) n n))
            (first | (refine hAll.out _ ?_; first | assumption | exact bDrw (Below.refl _ _)) | (refine hAll2.out _ ?_; assumption))
            ((go_at_call 54; refine (hE2.out _ (by first | assumption | exact bDrw (Below.refl _ _))).mono ?_; rintro e w6 ⟨rfl, hb6⟩; have hb56 : Below W5.heap.size W5 w6 := bStep (bDrw (Below.refl _ _)) hb6; have x06 := cell_later hb56 x0; have x16 := (hCS5.step hb56).2.2.2.2.1.frozen j))
          have hCS6 := (hCS5.step hb56).set j C
          clear hAll hAll2 x0 x1 x06 x16
          go_wp2_with fail
          go_roundg (sumI (out.set j C) + 1)
          case measure => have := hgk.out; have := hsm.out; omega
          case rel => exact ⟨out.set j C, Lib.hid rfl, hCo2, hCS6⟩
        · have hcl2 := Lib.hid (hcl1.out (by omega))
          go_wp2_with fail
          go_roundg (m - (i + 1))
          case measure => have := hi.out; omega
          case rel => exact ⟨i + 1, by go_num, by have := hi.out; omega, hcl2, hCS5⟩
      · have him : i = m := by have := hi.out; omega
        have hcl2 : ClC g.prods it t out := fun p hp => hcl.out p (by rw [him, hm.out, List.take_of_length_le (Nat.le_refl _)]; exact hp)
        have o0 := hCS.2.2.2.1.cell 0
        simp only [List.getElem?_toArray, List.getElem?_cons_zero, List.getElem?_cons_succ] at o0
        have hret := Lib.hid (hRet.out out og wr hCS.2.2.2.2.1 hCo.out hcl2 hCS.1.2.2)
        replace him := Lib.hid him
        replace hcl2 := Lib.hid hcl2
        go_wp2_with fail
        try rw [Exit.noGoto_ret]
        try go_ret
        exact hret.out
end Go.Proofs.YtlngbphchhbpbaaGreat

/- The place of a form; append behind a slice without room, or an own one. -/
namespace Go.Proofs.YtlngbphchhbpbaaGreat
open Go.ChangeShapes Go.WideShapes Go.ChangeAt Go.RowKit
set_option linter.unusedVariables false

/-- the place of a form: its length, if there is none -/
def atN : List Int → Nat
  | [] => 0
  | s :: f => if 16 ≤ s then 0 else atN f + 1
theorem atN_le : ∀ f, atN f ≤ f.length
  | [] => Nat.le_refl _
  | s :: f => by
    have := atN_le f
    unfold atN
    split <;> simp <;> omega
theorem atN_lt : ∀ (f : List Int) (j : Nat) (s : Int), j < atN f → f[j]? = some s → s < 16
  | [], j, s, h, _ => by simp [atN] at h
  | a :: f, 0, s, h, e => by
    unfold atN at h
    split at h
    · omega
    · simp at e; omega
  | a :: f, j + 1, s, h, e => by
    unfold atN at h
    split at h
    · omega
    · exact atN_lt f j s (by omega) (by simpa using e)
theorem atN_at : ∀ (f : List Int) (s : Int), f[atN f]? = some s → 16 ≤ s
  | [], s, h => by simp at h
  | a :: f, s, h => by
    unfold atN at h
    split at h
    · simp at h; omega
    · exact atN_at f s (by simpa using h)
def atI (f : List Int) : Int := if atN f < f.length then atN f else -1

set_option maxHeartbeats 1000000 in
theorem place_any (A : Option Addr) (k c : Nat) (f : List Int) (w : World) (B : Nat) (hf : Rd1 w B A k (ints f)) (hk : k ≤ 1000000) : Calls Tryz.prog 48 #[.slice A k c, .func (.func 20) #[] #[]] w fun e w' => e = .returned (.int .i64 (atI f)) ∧ w = w' := by
  have hfl : f.length = k := by have := hf.1; simpa [ints] using this
  obtain ⟨R, hR⟩ : ∃ R, R = atI f := ⟨_, rfl⟩
  rw [← hR]
  replace hR := Lib.hid hR
  replace hfl := Lib.hid hfl
  have hN := Lib.hid isnt_any
  go_enter Tryz.func48, Tryz.ntmps48
  go_wp2_with fail
  go_loopg [8] k (fun gk s8 wr => ∃ i : Nat, s8 = .int .i64 i ∧ i + gk = k ∧ Hid (i ≤ atN f) ∧ w = wr)
  case atStart => exact ⟨0, rfl, by omega, Lib.hid (Nat.zero_le _), rfl⟩
  case round =>
    obtain ⟨i, rfl, hi, hat, rfl⟩ := hrel
    replace hi := Lib.hid hi
    by_cases hin : i < k
    · have hil : i < f.length := by have := hfl.out; omega
      have hx : f[i]? = some f[i] := List.getElem?_eq_getElem hil
      obtain ⟨b, off, rfl, hbt, x0⟩ := hf.get (show (ints f)[i]? = some (.int .i64 f[i]) by rw [ints, List.getElem?_map, hx]; rfl)
      generalize f[i] = s at *
      have hz0 : (0 : Int) ≤ i := by omega
      have hz1 : (i : Int) < k := by omega
      by_cases h16 : 16 ≤ s
      · have hd : decide (16 ≤ s) = true := decide_eq_true h16
        have hRi : R = i := by
          have : atN f = i := by
            rcases Nat.lt_or_ge i (atN f) with h | h
            · have := atN_lt f i s h hx; omega
            · have := hat.out; omega
          rw [hR.out]; unfold atI; rw [if_pos (by omega), this]
        subst hRi
        clear h16
        replace hx := Lib.hid hx
        go_wp2_with (go_at_call 20; refine (hN.out s _).mono ?_; rintro e w1 ⟨rfl, rfl⟩; rw [hd])
        go_ret
        exact ⟨rfl, rfl⟩
      · have hd : decide (16 ≤ s) = false := decide_eq_false h16
        have hat2 : Hid (i + 1 ≤ atN f) := Lib.hid (by
          rcases Nat.lt_or_ge i (atN f) with h | h
          · exact h
          · have e : atN f = i := by have := hat.out; omega
            have := atN_at f s (by rw [e]; exact hx)
            omega)
        clear h16
        replace hx := Lib.hid hx
        go_wp2_with (go_at_call 20; refine (hN.out s _).mono ?_; rintro e w1 ⟨rfl, rfl⟩; rw [hd])
        go_roundg (k - (i + 1))
        case measure => have := hi.out; omega
        case rel => exact ⟨i + 1, by go_num, by have := hi.out; omega, hat2, rfl⟩
    · have hRi : R = -1 := by
        rw [hR.out]; unfold atI
        rw [if_neg (by have := hat.out; have := hi.out; have := hfl.out; omega)]
      subst hRi
      go_wp2_with fail
      go_ret
      exact ⟨rfl, rfl⟩

theorem wpList_appR (w : World) {ops : Array Oper} {rest : List Oper} {o : Oper} {a : Act} {Q : Exit → Act → World → Prop} (hg : o.guard = none) (s x : Operand) (t : TypeId) (ho : o.op = .call { callee := .builtin .append, args := #[s, x], argTypes := #[t, t] })
    (v u : Value) (hs : a.eval s = v) (hx : a.eval x = u) (r : Value) (w' : World) (hrun : (Builtin.append_ #[t, t] o.type #[v, u]).run Tryz.prog w = .ok r w') (h : wpList Tryz.prog ops Q rest (a.put o.dst r) w') : wpList Tryz.prog ops Q (o :: rest) a w :=
  wpList_plain hg fun _ hK => by
    unfold Oper.wp execOp
    simp only [ho, resolve, invoke, builtin, Sem.run_bind, Sem.run_pure, Result.andThen_ok, List.map_toArray, List.map_cons, List.map_nil, hs, hx, hrun]
    exact hK _ _ h
/-- a slice of numbers that an append leaves whole: without room, or the call's own -/
def Src1 (W : World) (base : Nat) (v : Value) (l : List Int) : Prop :=
  (∃ A, v = .slice A l.length l.length ∧ Rd1 W W.heap.size A l.length (ints l)) ∨ Own1 W base 3 v (ints l)
theorem Src1.reads {W : World} {base : Nat} {v : Value} {l : List Int} (h : Src1 W base v l) (hl : l.length ≤ 1000000) : ∃ A c, v = .slice A l.length c ∧ Rd1 W W.heap.size A l.length (ints l) ∧ l.length ≤ c ∧ c ≤ maxLen := by
  rcases h with ⟨A, rfl, h⟩ | h
  · exact ⟨A, _, rfl, h, Nat.le_refl _, by unfold maxLen; omega⟩
  · obtain ⟨A, c, rfl, h1, h2, h3, _⟩ := h.reads
    have e : (ints l).length = l.length := by simp [ints]
    rw [e] at h1 h2
    rw [e]
    exact ⟨A, c, rfl, h1, h2, h3⟩
theorem app_src {W : World} {base : Nat} {v : Value} {l k : List Int} {B : Option Addr} {m c : Nat} (h : Src1 W base v l) (hb : base ≤ W.heap.size) (hk : Rd1 W W.heap.size B m (ints k)) (hlen : l.length + m ≤ 1000000) :
    ∃ v' W', (Builtin.append_ #[26, 26] 26 #[v, .slice B m c]).run Tryz.prog W = .ok v' W' ∧ Src1 W' base v' (l ++ k) ∧ Below base W W' := by
  obtain ⟨i0, hi0, hz0, hz1, hz2⟩ := info_parts info3
  have hkm : k.length = m := by have := hk.1; simpa [ints] using this
  have hle : (ints l).length = l.length := by simp [ints]
  have hke : (ints k).length = k.length := by simp [ints]
  have hap : ints (l ++ k) = ints l ++ ints k := by simp [ints]
  by_cases hm : m = 0
  · subst hm
    have : k = [] := List.eq_nil_of_length_eq_zero hkm
    subst this
    refine ⟨v, W, ?_, by rw [List.append_nil]; exact h, Below.refl _ _⟩
    have hv : ∃ A n c', v = .slice A n c' ∧ n ≤ c' := by
      obtain ⟨A, c', e, _, h2, _⟩ := h.reads (by omega)
      exact ⟨A, _, c', e, h2⟩
    obtain ⟨A, n, c', rfl, hnc⟩ := hv
    have hl : ∀ (x : Addr), (loadCells x 0).run Tryz.prog W = .ok #[] W := fun x => by simpa using run_loadCells_list (P := Tryz.prog) W x [] (by simp)
    cases A <;> cases B <;> simp [Builtin.append_, run_underlying under22, sizeOf, typeInfo, hi0, Builtin.lenOf, Builtin.firstCells, storeCells, hnc, hl]
  · obtain ⟨bb, boff, rfl, hbt, hbc⟩ : ∃ b off, B = some ⟨b, off, none⟩ ∧ b < W.heap.size ∧ ∀ (i : Nat) (v : Value), (ints k)[i]? = some v → W.cell? ⟨b, off + i, none⟩ = some v := by
      rcases hk.2 with h0 | h0
      · exact absurd h0 hm
      · exact h0
    have hnews : ∀ j u, (ints k)[j]? = some u → W.cell? ((⟨bb, boff, none⟩ : Addr).add j) = some u := by
      intro j u hu
      have hadd : (⟨bb, boff, none⟩ : Addr).add j = ⟨bb, boff + j, none⟩ := by unfold Addr.add; split <;> simp_all
      rw [hadd]
      exact hbc j u hu
    have own : ∀ v, Own1 W base 3 v (ints l) → ∃ v' W', (Builtin.append_ #[26, 26] 26 #[v, .slice (some ⟨bb, boff, none⟩) m c]).run Tryz.prog W = .ok v' W' ∧ Src1 W' base v' (l ++ k) ∧ Below base W W' := by
      intro v hown
      obtain ⟨v', w', hrun, h2, h3, h4, h5⟩ := run_append_own_at (P := Tryz.prog) W base 26 26 3 i0 (.int .i64 0) 1 8 under22 hi0 hz0 hz1 hz2 rfl (by omega) v (ints l).length (ints l) hown ⟨bb, boff, none⟩ m c (ints k) (by rw [hk.1]; omega) hnews ints_one (by unfold maxLen; omega) (by omega) hb
      refine ⟨v', w', hrun, .inr ?_, (Below.refl base W).grown h3 hb (fun j hj => (own_in hown j hj).1)⟩
      unfold Own1
      rw [hap, List.length_append, hk.1]
      exact h2
    rcases h with ⟨A, rfl, hA⟩ | hown
    · rcases A with _ | ad
      · have hl0 : l = [] := by
          rcases hA.2 with h0 | ⟨_, _, h0, _⟩
          · exact List.eq_nil_of_length_eq_zero h0
          · cases h0
        subst hl0
        exact own _ (Own1.nil W base 3)
      · have hcell : ∀ j u, (ints l)[j]? = some u → W.cell? (ad.add j) = some u := by
          intro j u hu
          have hlt := (List.getElem?_eq_some_iff.1 hu).1
          rcases hA.2 with h0 | ⟨b, off, h0, _, hc⟩
          · omega
          · cases h0
            have hadd : (⟨b, off, none⟩ : Addr).add j = ⟨b, off + j, none⟩ := by unfold Addr.add; split <;> simp_all
            rw [hadd]
            exact hc j u hu
        obtain ⟨v', w', hrun, r1, r2⟩ := run_append_arg_grows (P := Tryz.prog) W 26 26 3 i0 (.int .i64 0) 1 8 under22 hi0 hz0 hz1 hz2 rfl (by omega) ad l.length l.length (ints l) (by rw [hle]; omega) hcell ⟨bb, boff, none⟩ m c (ints k) (by rw [hk.1]; omega) hnews (by omega) (by unfold maxLen; omega) (by omega)
        refine ⟨v', w', hrun, .inr ?_, (Below.refl base W).grown r2 hb (fun j hj => by cases hj)⟩
        have r3 : w'.ownsRow base 3 1 v' (l.length + m) (ints l ++ ints k) := by
          refine ⟨r1.1, ?_⟩
          rcases r1.2 with h0 | ⟨g, cap, cur, e, h1, h2⟩
          · exact .inl h0
          · exact .inr ⟨g, cap, cur, e, by omega, h2⟩
        unfold Own1
        rw [hap, List.length_append, hk.1, hle]
        exact r3
    · exact own v hown
end Go.Proofs.YtlngbphchhbpbaaGreat
