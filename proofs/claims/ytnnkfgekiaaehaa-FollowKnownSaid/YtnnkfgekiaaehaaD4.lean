/- Walks and plain laws, part 4 of 9: the order of a set's looks: the closure of sorted; slices.SortFunc at the looks of a set; (follow.set).sorted; The looks there are; what tail computes; follow.tail; Own sets; FIRST as a predicate; One round of begins, plainly; The kit: Mod, At, OwnTexts, OwnInts; Grammars out of numbers, plainly; what a right grammar gives. Conditions: none beyond those that each theorem states. -/
import Derived.Test.YtnnkfgekiaaehaaD3
import Derived.Sort.Grow
import Derived.Shelf.SlSortCmp.NoneTotal
import Derived.Shelf.Lay
import Derived.Ground.SlsfProg
/- the order of a set's looks: the closure of sorted. -/
namespace Go.Proofs.Ytnnkfgekiaaehaa
open Go.ChangeShapes Go.WideShapes Go.ChangeAt Go.RowKit Go.Sort
set_option linter.unusedVariables false

theorem rd_look {W : World} {g : Nat} {x : Lk} {m : Int} (h : Blk W g 42 x.cells) (hx : x.right m) : Rd1 W (g + 1) (some ⟨g, 1, none⟩) x.l.length (ints x.l) := by
  refine ⟨by simp [ints], .inr ⟨g, 1, rfl, by omega, fun i v hv => ?_⟩⟩
  have hl := right_l hx
  have hi : i < x.l.length := by have := (List.getElem?_eq_some_iff.1 hv).1; simpa [ints] using this
  have h1 : x.cells[1 + i]? = some (.int .i64 (x.s i)) := Lk.cellAt x i (by omega)
  rw [h.cell (1 + i), h1, s_getD hx i]
  simp [ints, hi] at hv
  rw [← hv]
  simp [List.getD_eq_getElem?_getD, hi]
/-- grown by draws and blocks -/
def Grew (w w' : World) : Prop := ∃ (q : Nat) (os : Array Obj), w' = grow (w.drewN q) os
theorem Grew.refl (w : World) : Grew w w := ⟨0, #[], by simp [World.drewN]⟩
theorem Grew.alloc {w w' : World} (h : Grew w w') (o : Obj) : Grew w (w'.alloc o) := by
  obtain ⟨q, os, rfl⟩ := h
  exact ⟨q, os ++ #[o], by rw [alloc_eq_grow, grow_grow]⟩
theorem Grew.drew {w w' : World} (h : Grew w w') : Grew w w'.drew := by
  obtain ⟨q, os, rfl⟩ := h
  exact ⟨q + 1, os, rfl⟩
theorem Grew.below {w w' : World} (h : Grew w w') : Below w.heap.size w w' := by
  obtain ⟨q, os, rfl⟩ := h
  exact ⟨rfl, rfl, rfl, by simp [grow, World.drewN], fun k hk => by simp [grow, World.drewN, Array.getElem?_append_left hk]⟩

/-- the two looks in their boxes, inside the closure -/
def SC (w : World) (x y : Lk) (W : World) : Prop := Blk W w.heap.size 42 x.cells ∧ Blk W (w.heap.size + 1) 42 y.cells ∧ Grew w W
theorem SC.drew {w : World} {x y : Lk} {W : World} (h : SC w x y W) : SC w x y W.drew := ⟨h.1.drew, h.2.1.drew, h.2.2.drew⟩
theorem SC.alloc {w : World} {x y : Lk} {W : World} (h : SC w x y W) (o : Obj) : SC w x y (W.alloc o) := ⟨h.1.alloc _, h.2.1.alloc _, h.2.2.alloc _⟩
theorem SC.cells {w : World} {x y : Lk} {W : World} (h : SC w x y W) : W.cell? ⟨w.heap.size, 0, none⟩ = some (.int .i64 x.n) ∧ W.cell? ⟨w.heap.size + 1, 0, none⟩ = some (.int .i64 y.n) ∧ SC w x y W :=
  ⟨h.1.cell 0, h.2.1.cell 0, h⟩

theorem or2_lcmp {x y : Lk} (n m : Int) (hn : n = x.l.length) (hm : m = y.l.length) : or2 (cmpI x.l y.l) (cmp1 n m) = lcmp x y := by
  unfold or2 lcmp
  by_cases h : cmpI x.l y.l = 0
  · rw [if_pos h, h]
    have := cmpI_eq _ _ h
    rw [hn, hm, this]
    unfold cmp1; simp
  · rw [if_neg h]

set_option maxHeartbeats 2000000 in
theorem setcmp_any (x y : Lk) (w : World) (hx : x.right 8) (hy : y.right 8) : Calls Try.prog 46 #[x.v, y.v] w fun e w' => e = .returned (.int .i64 (lcmp x y)) ∧ Grew w w' := by
  have hlx := right_l hx
  have hly := right_l hy
  have h4 := Lib.hid slicescmp_any
  have h5 := Lib.hid cmp1_any
  have h6 := Lib.hid or2_any
  have hR := Lib.hid (or2_lcmp (x := x) (y := y) x.n y.n hlx.1.symm hly.1.symm)
  have hrx := Lib.hid (fun (W : World) (h : SC w x y W) => (rd_look h.1 hx).mono (B' := w.heap.size + 2) (by omega))
  have hry := Lib.hid (fun (W : World) (h : SC w x y W) => (rd_look h.2.1 hy).mono (B' := w.heap.size + 2) (by omega))
  obtain ⟨lx, hlx0⟩ : ∃ lx, lx = x.l.length := ⟨_, rfl⟩
  obtain ⟨ly, hly0⟩ : ∃ ly, ly = y.l.length := ⟨_, rfl⟩
  rw [← hlx0] at hrx hlx
  rw [← hly0] at hry hly
  have hnx : x.n = (lx : Int) := hlx.1.symm
  have hny : y.n = (ly : Int) := hly.1.symm
  have hx4 : lx ≤ 4 := hlx.2.1
  have hy4 : ly ≤ 4 := hly.2.1
  clear hlx hly hlx0 hly0 hx hy
  generalize lcmp x y = R at *
  have hS0 : SC w x y ((w.alloc (.cells x.cells 42)).alloc (.cells y.cells 42)) := ⟨(Blk.new _ _ _).alloc _, Blk.newAt _ _ _ _ (by simp), ((Grew.refl w).alloc _).alloc _⟩
  unfold Lk.v
  unfold Lk.cells at hS0
  rw [hnx] at hS0
  rw [hny] at hS0
  go_enter Try.func46, Try.ntmps46
  go_wp2_with fail
  rw [hnx, hny]
  generalize (w.alloc (.cells #[.int .i64 lx, .int .i64 x.a, .int .i64 x.b, .int .i64 x.c, .int .i64 x.d] 42)).alloc (.cells #[.int .i64 ly, .int .i64 y.a, .int .i64 y.b, .int .i64 y.c, .int .i64 y.d] 42) = W at *
  have hS1 := hS0.drew
  have hcl := Lib.hid (fun (W : World) (h : SC w x y W) => show W.cell? ⟨w.heap.size, 0, none⟩ = some (.int .i64 lx) ∧ W.cell? ⟨w.heap.size + 1, 0, none⟩ = some (.int .i64 ly) ∧ SC w x y W by rw [← hnx, ← hny]; exact h.cells)
  clear hS0
  have hb0 := Lib.hid ((Blk.newAt W.drew 3 #[.int .i64 (cmpI x.l y.l), .int .i64 (cmp1 lx ly)] W.heap.size rfl).cell 0)
  have hb1 := Lib.hid ((Blk.newAt W.drew 3 #[.int .i64 (cmpI x.l y.l), .int .i64 (cmp1 lx ly)] W.heap.size rfl).cell 1)
  rw [hnx, hny] at hR
  have hz1 : (0 : Int) ≤ lx := by omega
  have hz2 : (0 : Int) ≤ ly := by omega
  have hz3 : (lx : Int) ≤ 4 := by omega
  have hz4 : (ly : Int) ≤ 4 := by omega
  replace hnx := Lib.hid hnx
  replace hny := Lib.hid hny
  go_region_held3 (fun w' => w'.cell? ⟨w.heap.size, 0, none⟩ = some (.int .i64 lx) ∧ w'.cell? ⟨w.heap.size + 1, 0, none⟩ = some (.int .i64 ly) ∧ SC w x y w')
    ((refine hcl.out _ ?_; first | assumption | exact SC.alloc hS1 _))
    (first
      | (go_at_call 48; refine (h4.out _ _ _ _ _ _ x.l y.l _ (w.heap.size + 2) (hrx.out _ hS1) (hry.out _ hS1) (by omega) (by omega)).mono ?_; rintro e w1 ⟨rfl, rfl⟩)
      | (go_at_call 49; refine (h5.out _ _ _).mono ?_; rintro e w1 ⟨rfl, rfl⟩)
      | (go_at_call 47; refine (h6.out (cmpI x.l y.l) (cmp1 lx ly) W.heap.size _ hb0.out hb1.out).mono ?_; rintro e w1 ⟨rfl, rfl⟩; rw [hR.out]))
  all_goals
    go_wp2_with fail
    go_ret
    exact ⟨rfl, (SC.alloc hS1 _).2.2⟩
end Go.Proofs.Ytnnkfgekiaaehaa

/- slices.SortFunc at the looks of a set. -/
namespace Go.Proofs
open Go.Shelf
shelf_lay_g SlLaysF0.n6 Slsf 6 at Try 45 as Try.sortL
end Go.Proofs
namespace Go.Proofs.Ytnnkfgekiaaehaa
open Go.ChangeShapes Go.WideShapes Go.ChangeAt Go.RowKit Go.Sort Go.Shelf
set_option linter.unusedVariables false

structure RL where
  x : Lk
  h : x.right 8
instance : Inhabited RL := ⟨⟨Lk.of [], nil_right 8 (by omega)⟩⟩
def encR (x : RL) : List Value := x.x.cells.toList
def cfR (x y : RL) : Int := lcmp x.x y.x
theorem encR_len (x : RL) : (encR x).length = 5 := rfl
theorem encR_one (x : RL) : ∀ v ∈ encR x, v.oneCell' = true := by
  intro v hv
  simp [encR, Lk.cells] at hv
  rcases hv with rfl | rfl | rfl | rfl | rfl <;> rfl
theorem ltR (x y : RL) : ltOf cfR x y = decide (lcmp x.x y.x < 0) := rfl
theorem swoR : SWO (ltOf cfR) where
  irrefl x := by rw [ltR, lcmp_refl]; rfl
  trans x y z h1 h2 := by
    rw [ltR] at *
    simp at *
    have a1 : lcmp x.x y.x = -1 := by rcases lcmp_vals x.1 y.1 with h | h | h <;> omega
    have a2 : lcmp y.x z.x = -1 := by rcases lcmp_vals y.1 z.1 with h | h | h <;> omega
    rw [lcmp_trans a1 a2]; omega
  ntrans x y z h1 h2 := by
    rw [ltR] at *
    simp at *
    rcases lcmp_vals x.1 z.1 with h | h | h
    · rcases lcmp_vals x.1 y.1 with g1 | g1 | g1
      · omega
      · have := lcmp_eq x.h y.h g1; rw [this] at h; omega
      · rcases lcmp_vals y.1 z.1 with g2 | g2 | g2
        · omega
        · have := lcmp_eq y.h z.h g2; rw [← this] at h; omega
        · have e1 : lcmp y.x x.x = -1 := by rw [lcmp_anti]; omega
          have e2 : lcmp z.x y.x = -1 := by rw [lcmp_anti]; omega
          have := lcmp_trans e2 e1
          rw [lcmp_anti] at this; omega
    · omega
    · omega
theorem totR (x y : RL) (h1 : ltOf cfR x y = false) (h2 : ltOf cfR y x = false) : x = y := by
  rw [ltR] at *
  simp at h1 h2
  rw [lcmp_anti] at h2
  have e := lcmp_eq x.h y.h (by omega)
  cases x; cases y; simp only at e; subst e; rfl

/-- the looks of a list of right ones -/
def mkR : (l : List Lk) → (∀ x ∈ l, x.right 8) → List RL
  | [], _ => []
  | x :: l, h => ⟨x, h x List.mem_cons_self⟩ :: mkR l fun y hy => h y (List.mem_cons_of_mem _ hy)
theorem mkR_map : ∀ (l : List Lk) (h : ∀ x ∈ l, x.right 8), (mkR l h).map RL.x = l
  | [], _ => rfl
  | x :: l, h => by rw [mkR, List.map_cons, mkR_map l]
theorem flatR (ts : List RL) : flatK encR 5 ts.toArray = (cellsL (ts.map RL.x)).toArray := by
  apply Array.ext
  · rw [size_flatK]; simp [cellsL_len]
  · intro t h1 h2
    rw [size_flatK] at h1
    simp only [List.size_toArray] at h1
    have ht : t / 5 < ts.length := by omega
    have e1 : (flatK encR 5 ts.toArray)[t]'(by rw [size_flatK]; simpa using h1) = (encR ts.toArray[t / 5]!)[t % 5]! := by
      rw [← get_flatK encR 5 ts.toArray t (by simpa using h1), getElem!_pos]
    rw [e1]
    have hx : (ts.map RL.x)[t / 5]? = some ts[t / 5].x := by simp [ht]
    have e2 := cellsL_get (ts.map RL.x) (t / 5) ts[t / 5].x hx (t % 5) (by omega)
    rw [show t / 5 * 5 + t % 5 = t by omega] at e2
    have e3 : ts.toArray[t / 5]! = ts[t / 5] := by rw [getElem!_pos ts.toArray (t / 5) (by simpa using ht)]; simp
    rw [e3]
    have hc : t % 5 < ts[t / 5].x.cells.size := by simp [Lk.cells]; omega
    have e4 : (cellsL (ts.map RL.x))[t]? = some ((cellsL (ts.map RL.x)).toArray[t]'h2) := by simp at h2 ⊢
    rw [e4, Array.getElem?_eq_getElem hc] at e2
    injection e2 with e2
    rw [e2]
    have : (encR ts[t / 5])[t % 5]! = (encR ts[t / 5])[t % 5]'(by simpa [encR] using hc) := getElem!_pos _ _ _
    rw [this]; simp [encR]

theorem sorted_is_lset (l : List Lk) (h : ∀ x ∈ l, x.right 8) (hn : l.Nodup) : ((mkR l h).mergeSort fun x y => !(ltOf cfR) y x).map RL.x = lset l := by
  have hp := List.mergeSort_perm (mkR l h) (fun x y => !(ltOf cfR) y x)
  have hw := List.pairwise_mergeSort (le := fun x y => !(ltOf cfR) y x) (fun a b c h1 h2 => by
      simp only [Bool.not_eq_true'] at *
      exact swoR.ntrans c b a h2 h1) (fun a b => by
      cases hh : ltOf cfR b a with
      | false => simp
      | true =>
        have : ltOf cfR a b = false := by
          cases h3 : ltOf cfR a b with
          | false => rfl
          | true => have := swoR.trans _ _ _ hh h3; rw [swoR.irrefl] at this; cases this
        simp [this]) (mkR l h)
  generalize (mkR l h).mergeSort (fun x y => !(ltOf cfR) y x) = m at *
  have hpm : (m.map RL.x).Perm l := by have := hp.map RL.x; rwa [mkR_map] at this
  have hnd : (m.map RL.x).Nodup := hpm.nodup_iff.2 hn
  have hnd2 : m.Pairwise (fun x y => x.x ≠ y.x) := List.pairwise_map.1 hnd
  refine lset_of h ?_ (fun z => hpm.mem_iff)
  unfold Asc
  rw [List.pairwise_map]
  refine (hw.and hnd2).imp fun {x y} hxy => ?_
  obtain ⟨h1, h2⟩ := hxy
  rw [ltR] at h1
  simp at h1
  rcases lcmp_vals x.x y.1 with g | g | g
  · exact g
  · exact absurd (lcmp_eq x.h y.h g) h2
  · rw [lcmp_anti] at h1; omega

theorem holds_ownL {w : World} {g cap base : Nat} {l : List Lk} {cur : Array Value} (hb : w.heap[g]? = some (.cells cur 42 (0, 0))) (ht : cur.toList.take (l.length * 5) = cellsL l) : Holds id w g 0 (cellsL l).toArray := by
  intro j hj
  have hj' : j < (cellsL l).length := by simpa using hj
  have hj2 : j < l.length * 5 := by rw [← cellsL_len]; exact hj'
  refine ⟨?_, by simp [World.frozen?, hb]⟩
  have h1 : (cur.toList.take (l.length * 5))[j]? = (cellsL l)[j]? := by rw [ht]
  rw [List.getElem?_take_of_lt hj2] at h1
  simp only [World.cell?, hb, Nat.zero_add]
  simp only [Option.isSome_none, Bool.false_eq_true, if_false]
  rw [← Array.getElem?_toList, h1]
  simp [hj']

theorem aggR : ∀ w, (isAgg 42).run Try.prog w = .ok true w := fun w => by first | exact Try.isAgg42 w | rfl
theorem sizeR : ∀ w, (Go.sizeOf 42).run Try.prog w = .ok 5 w := fun w => by first | exact Try.sizeOf42 w | rfl

/-- the slice sorted -/
theorem sortfunc_any (l : List Lk) (v : Value) (base : Nat) (w : World) (hr : ∀ x ∈ l, x.right 8) (hn : l.Nodup) (hlen : l.length ≤ 1000000) (ho : OwnL w base v l) :
    Calls Try.prog 45 #[v, .func (.func 46) #[] #[]] w fun e w' => e = .returned (.tuple #[]) ∧ OwnL w' base v (lset l) ∧ w.grownBy w' v.ownBlock ∧ (lset l).length = l.length := by
  have hll : (lset l).length = l.length := by
    rw [← sorted_is_lset l hr hn, List.length_map, List.length_mergeSort]
    have := congrArg List.length (mkR_map l hr)
    simpa using this
  rcases ho.2 with ⟨rfl, h0⟩ | ⟨g, cap, cur, rfl, hbase, hb, h1, h2, h3, h4⟩
  · have hl0 : l = [] := List.eq_nil_of_length_eq_zero h0
    subst hl0
    refine (AnyF.slices_SortFunc_none Try.sortL none 0 (.func (.func 46) #[] #[]) w).mono ?_
    rintro e w' ⟨rfl, rfl⟩
    exact ⟨rfl, ho, ⟨rfl, rfl, rfl, Nat.le_refl _, fun _ _ _ => rfl⟩, hll⟩
  · have hg : g < w.heap.size := (Array.getElem?_eq_some_iff.1 hb).1
    have hH : HoldsK encR 5 w g 0 (mkR l hr).toArray := by
      unfold HoldsK
      rw [flatR, mkR_map]
      exact holds_ownL (cap := cap) (base := base) hb h4
    have hms : (mkR l hr).length = l.length := by simpa using congrArg List.length (mkR_map l hr)
    have hcmp : CmpLays Try.prog 46 #[] encR 5 cfR g 0 (mkR l hr).toArray.size w := fun m os dk _ x y => setcmp_any x.x y.x _ x.h y.h
    have eg : ∀ args w, (callFunc 46 args).run Try.prog w = .ok (.enter 46 args) w := enters_of Try.func46 (by kernel_rfl) rfl
    have hcon := AnyQ.slices_SortFunc_total Try.sortL 5 aggR sizeR encR encR_len encR_one cfR swoR 46 #[] g 0 cap (mkR l hr).toArray w eg hcmp hH hg (by simp [hms]; omega) totR
    have hs : (mkR l hr).toArray.size = l.length := by simp [hms]
    rw [hs] at hcon
    refine Calls.mono hcon ?_
    rintro e w' ⟨rfl, n, os, rfl⟩
    have e1 : (mkR l hr).toArray.toList = mkR l hr := rfl
    have e2 : flatK encR 5 ((mkR l hr).mergeSort fun x y => !(ltOf cfR) y x).toArray = (cellsL (lset l)).toArray := by rw [flatR, sorted_is_lset l hr hn]
    unfold sortWorldK putRowK
    rw [e1, e2]
    have hlc : (cellsL (lset l)).length = l.length * 5 := by rw [cellsL_len, hll]
    refine ⟨rfl, ⟨by rw [hll]; exact hlc, .inr ⟨g, cap, putCells id 0 (cellsL (lset l)).toArray cur, by rw [hll], hbase, ?_, by omega, h2, by simp [putCells, h3], ?_⟩⟩, ⟨rfl, rfl, rfl, by simp, fun k hk hne => ?_⟩, hll⟩
    · rw [heap_grow_old _ _ (by simpa using hg)]
      simp [putRow, mapBlock, Sort.ahead, Array.getElem?_modify, hb, onCells]
    · rw [hll]
      apply List.ext_getElem?
      intro j
      by_cases hj : j < l.length * 5
      · have hjc : j < cur.size := by rw [h3]; have := Nat.mul_le_mul_right 5 h1; omega
        rw [List.getElem?_take_of_lt hj, Array.getElem?_toList]
        simp [putCells, hlc, hj, hjc]
      · rw [List.getElem?_take_eq_none (by omega), List.getElem?_eq_none (by omega)]
    · rw [heap_grow_old _ _ (by simpa using hk)]
      have : g ≠ k := fun e => hne (by rw [← e]; rfl)
      simp [putRow, mapBlock, Sort.ahead, Array.getElem?_modify, this]
end Go.Proofs.Ytnnkfgekiaaehaa

/- (follow.set).sorted. -/
namespace Go.Proofs.Ytnnkfgekiaaehaa
open Go.ChangeShapes Go.WideShapes Go.ChangeAt Go.RowKit
set_option linter.unusedVariables false

theorem iter_ne {w : World} {b r : Nat} {s out : List Lk} (h : IterL w b r s out) : b ≠ r := by
  obtain ⟨es, clock, since, seen, c0, h1, _, h3, _⟩ := h
  rintro rfl
  rw [h1] at h3; cases h3
theorem IterL.step {w w' : World} {b r : Nat} {s out : List Lk} (h : IterL w b r s out) (hb : Below w.heap.size w w') : IterL w' b r s out := h.grown (grown_of_below hb) (by simp) (by simp)
theorem nodup_same {out s : List Lk} (h1 : out.Nodup) (h2 : ∀ x ∈ out, x ∈ s) (h3 : ∀ x ∈ s, x ∈ out) : ∀ z, z ∈ s ↔ z ∈ out := fun z => ⟨h3 z, h2 z⟩
theorem IterL.parts {w : World} {b r : Nat} {s out : List Lk} (h : IterL w b r s out) : out.Nodup ∧ (∀ x ∈ out, x ∈ s) ∧ s.Nodup := by
  obtain ⟨es, clock, since, seen, c0, h1, h2, h3, h4, h5, h6, h7, h8, h9⟩ := h
  exact ⟨h8, h9, h2.2.2.2.1⟩
theorem nodup_len {out s : List Lk} (h1 : out.Nodup) (h2 : ∀ x ∈ out, x ∈ s) : out.length ≤ s.length := by
  induction out generalizing s with
  | nil => simp
  | cons x out ih =>
    obtain ⟨hx, hn⟩ := List.nodup_cons.1 h1
    have hm := h2 x List.mem_cons_self
    have := ih (s := s.erase x) hn (fun y hy => (List.mem_erase_of_ne (by rintro rfl; exact hx hy)).2 (h2 y (List.mem_cons_of_mem _ hy)))
    rw [List.length_erase_of_mem hm] at this
    have : 0 < s.length := List.length_pos_of_mem hm
    simp; omega

set_option maxHeartbeats 2000000 in
theorem sorted_any (b : Nat) (s : List Lk) (w : World) (hm : MapK lookKey w b s) (hr : ∀ x ∈ s, x.right 8) (hlen : s.length ≤ 900000) : Calls Try.prog 26 #[.map (some b)] w (RetL w (lset s)) := by
  have hP := Lib.hid (fun (v : Value) (w' : World) (h1 : OwnL w' w.heap.size v (lset s)) (h2 : Below w.heap.size w w') => (show RetL w (lset s) (.returned v) w' from ⟨v, rfl, h1, h2⟩))
  have hS := Lib.hid sortfunc_any
  have hr' := Lib.hid hr
  have hb := hm.lt
  clear hr
  go_enter Try.func26, Try.ntmps26
  go_wp2_with (at_range; refine wpList_range_look _ under67 rfl _ rfl b s rfl hm ?_; intro w1 hit hb1; go_frame)
  have hsz : w.heap.size < w1.heap.size := by
    obtain ⟨es, clock, since, seen, c0, h1, _, h3, _⟩ := hit
    exact (Array.getElem?_eq_some_iff.1 h3).1
  go_loopg [3] s.length (fun gk s3 wr => ∃ out : List Lk, out.length + gk = s.length ∧ OwnL wr (w.heap.size + 1) s3 out ∧ IterL wr b w.heap.size s out ∧ Below w.heap.size w wr ∧ w.heap.size < wr.heap.size)
  case atStart => exact ⟨[], by simp, OwnL.nil _ _, hit, hb1, hsz⟩
  case round =>
    clear hit hb1 hsz
    obtain ⟨out, hlo, ho, hit, hbw, hsz⟩ := hrel
    replace hlo := Lib.hid hlo
    go_wp2_with (first
      | (at_next; refine wpList_next_look _ rfl _ rfl b w.heap.size s out rfl hit ?_ ?_)
      | go_in)
    · intro hall
      obtain ⟨hn, hsub, hns⟩ := hit.parts
      have hro : ∀ x ∈ out, x.right 8 := fun x hx => hr'.out x (hsub x hx)
      have hls : lset out = lset s := lset_same hr'.out (fun z => (nodup_same hn hsub hall z).symm)
      have hol : out.length ≤ 1000000 := by have := hlo.out; omega
      replace hls := Lib.hid hls
      go_wp2_with (go_at_call 45; refine (hS.out out u3 (w.heap.size + 1) wr hro hn hol ho).mono ?_; rintro e w3 ⟨rfl, ho3, hg3, hl3⟩)
      go_ret
      exact hP.out _ _ (hls.out ▸ ho3.mono (by omega)) (hbw.grown hg3 (by omega) (fun k hk => by have := (own_in ho k hk).1; omega))
    · intro x w2 hxs hxo hit2 hen hg2 hsz2
      have ho2 : OwnL w2 (w.heap.size + 1) u3 out := World.ownsRow.kept ho hg2 (.inr (fun e => by have := (own_in ho _ e).1; omega))
      have hb2 : Below w.heap.size w w2 := hbw.grown hg2 (by omega) (fun k hk => by cases hk; exact Nat.le_refl _)
      have hol : out.length < 1000000 := by have := hlo.out; omega
      have hlen2 := nodup_len hit2.parts.1 hit2.parts.2.1
      rw [List.length_append, List.length_singleton] at hlen2
      have hsz3 : w.heap.size < w2.heap.size := by omega
      unfold Lk.v at hen
      replace hsz2 := Lib.hid hsz2
      go_upto_region 5 with (fail)
      change Code.wp Try.prog _ _ _ (lay5 w2 x)
      have hbl := lay5_below w2 x
      have q4 := lay5_blk w2 x
      have ho3 := ho2.step hbl
      have hit3 := hit2.step hbl
      have hb3 := bStep hb2 hbl
      have hsz4 := Nat.lt_of_lt_of_le hsz3 hbl.size
      clear hen ho2 hit2 hb2 hbl hsz3
      generalize lay5 w2 x = W1 at *
      generalize w2.heap.size = B4 at *
      have d0 := q4.cell 0
      have d1 := q4.cell 1
      have d2 := q4.cell 2
      have d3 := q4.cell 3
      have d4 := q4.cell 4
      simp only [Lk.cells, List.getElem?_toArray, List.getElem?_cons_zero, List.getElem?_cons_succ] at d0 d1 d2 d3 d4
      go_wp2_with (at_builtin; refine wpList_pushL _ rfl _ _ rfl (w.heap.size + 1) _ out rfl (ho3.alloc _) _ x rfl (Blk.new _ _ _) hol (by simp; omega) ?_; intro v' w5 ho5 hg5 hat5 hb5)
      all_goals
        have hbo : ∀ k, u3.ownBlock = some k → w.heap.size + 1 ≤ k := fun k hk => (own_in ho3 k hk).1
        have hit5 : IterL w5 b w.heap.size s (out ++ [x]) := (hit3.step ((Below.refl _ _).alloc (Nat.le_refl _) _)).grown hg5 (fun e => by have := hbo _ e.symm; omega) (fun e => by have := hbo _ e.symm; omega)
        have hz5 := hg5.size
        simp only [World.size_alloc] at hz5
        go_roundg (s.length - (out.length + 1))
        case measure => have := hlo.out; omega
        case rel => exact ⟨out ++ [x], by rw [List.length_append, List.length_singleton]; omega, ho5, hit5, (bAlc hb3 _).grown hg5 (by simp; omega) (fun k hk => by have := hbo k hk; omega), by omega⟩
end Go.Proofs.Ytnnkfgekiaaehaa

/- The looks there are; what tail computes. -/
namespace Go.Proofs.Ytnnkfgekiaaehaa
open Go.ChangeShapes Go.WideShapes Go.ChangeAt Go.RowKit
set_option linter.unusedVariables false

def digs8 : List Int := [0, 1, 2, 3, 4, 5, 6, 7]
def wordsOf : Nat → List (List Int)
  | 0 => [[]]
  | n + 1 => digs8.flatMap fun a => (wordsOf n).map (a :: ·)
/-- all looks of at most four terminals of eight -/
def univ : List Lk := ((List.range 5).flatMap wordsOf).map Lk.of
theorem univ_len : univ.length = 4681 := by decide +kernel
theorem digs8_mem {v : Int} (h1 : 0 ≤ v) (h2 : v < 8) : v ∈ digs8 := by
  have : v = 0 ∨ v = 1 ∨ v = 2 ∨ v = 3 ∨ v = 4 ∨ v = 5 ∨ v = 6 ∨ v = 7 := by omega
  simpa [digs8] using this
theorem words_mem : ∀ t : List Int, (∀ v ∈ t, 0 ≤ v ∧ v < 8) → t ∈ wordsOf t.length
  | [], _ => by simp [wordsOf]
  | a :: t, h => by
    simp only [List.length_cons, wordsOf, List.mem_flatMap]
    exact ⟨a, digs8_mem (h a List.mem_cons_self).1 (h a List.mem_cons_self).2, List.mem_map.2 ⟨t, words_mem t (fun v hv => h v (List.mem_cons_of_mem _ hv)), rfl⟩⟩
theorem univ_mem {x : Lk} (h : x.right 8) : x ∈ univ := by
  obtain ⟨_, h4, ho, hv⟩ := right_l h
  rw [← ho]
  exact List.mem_map_of_mem (List.mem_flatMap.2 ⟨x.l.length, List.mem_range.2 (by omega), words_mem _ hv⟩)
theorem right_len {s : List Lk} (hn : s.Nodup) (hr : ∀ x ∈ s, x.right 8) : s.length ≤ 4681 := by
  rw [← univ_len]; exact nodup_len hn fun x hx => univ_mem (hr x hx)

theorem addL_nodup {s : List Lk} (h : s.Nodup) (z : Lk) : (addL s z).Nodup := by
  unfold addL; split
  · exact h
  · rename_i hz
    rw [List.nodup_append]
    exact ⟨h, by simp, fun a ha b hb => by simp at hb; subst hb; rintro rfl; exact hz ha⟩
theorem addAll_nodup {s : List Lk} (h : s.Nodup) (l : List Lk) : (addAll s l).Nodup := by
  induction l generalizing s with
  | nil => exact h
  | cons z l ih => exact ih (addL_nodup h z)
theorem sums_mem (k : Nat) (la lb : List Lk) (z : Lk) : z ∈ sumsJ k la lb ↔ ∃ x ∈ la, ∃ y ∈ lb, z = lplus k x y := by
  simp only [sumsJ, rowJ, List.mem_flatMap, List.mem_map]
  constructor
  · rintro ⟨x, hx, y, hy, rfl⟩; exact ⟨x, hx, y, hy, rfl⟩
  · rintro ⟨x, hx, y, hy, rfl⟩; exact ⟨x, hx, y, hy, rfl⟩

/-- right, and not longer than k -/
def Fit (k : Nat) (x : Lk) : Prop := x.right 8 ∧ x.l.length ≤ k
theorem sums_fit {k : Nat} (hk : k ≤ 4) {la lb : List Lk} (ha : ∀ x ∈ la, Fit k x) (hb : ∀ x ∈ lb, Fit k x) : ∀ z ∈ sumsJ k la lb, Fit k z := by
  intro z hz
  obtain ⟨x, hx, y, hy, rfl⟩ := (sums_mem k la lb z).1 hz
  exact ⟨lplus_right hk (ha x hx).1 (hb y hy).1, by rw [lplus_l hk, List.length_take]; omega⟩
theorem all_fit {k : Nat} {s l : List Lk} (ha : ∀ x ∈ s, Fit k x) (hb : ∀ x ∈ l, Fit k x) : ∀ z ∈ addAll s l, Fit k z := fun z hz =>
  ((addAll_mem s l z).1 hz).elim (ha z) (hb z)

/-- one symbol's looks -/
def oneL (ss : List (List Lk)) (s : Int) : List Lk := if 16 ≤ s then lset (ss.getD (s - 16).toNat []) else [Lk.of [s]]
def stepL (k : Nat) (ss : List (List Lk)) (out : List Lk) (s : Int) : List Lk := lset (addAll [] (sumsJ k out (oneL ss s)))
/-- FIRST of symbols, out of sets -/
def tailL (k : Nat) (ss : List (List Lk)) (l : List Int) : List Lk := l.foldl (stepL k ss) [Lk.of []]
theorem tailL_snoc (k : Nat) (ss : List (List Lk)) (l : List Int) (s : Int) : tailL k ss (l ++ [s]) = stepL k ss (tailL k ss l) s := by simp [tailL]

/-- a symbol that is a terminal, or a nonterminal of n -/
def SymOk (n : Nat) (s : Int) : Prop := (0 ≤ s ∧ s < 8) ∨ (16 ≤ s ∧ s < 16 + (n : Int))
def SetsFit (k : Nat) (ss : List (List Lk)) : Prop := ∀ s ∈ ss, ∀ x ∈ s, Fit k x
theorem setsFit_get {k : Nat} {ss : List (List Lk)} (h : SetsFit k ss) (i : Nat) : ∀ x ∈ ss.getD i [], Fit k x := by
  intro x hx
  rw [List.getD_eq_getElem?_getD] at hx
  cases hi : ss[i]? with
  | none => rw [hi] at hx; simp at hx
  | some s => rw [hi] at hx; exact h s (List.mem_of_getElem? hi) x hx
theorem lset_fit {k : Nat} {l : List Lk} (h : ∀ x ∈ l, Fit k x) : ∀ x ∈ lset l, Fit k x := fun x hx => h x ((lset_mem (fun y hy => (h y hy).1) x).1 hx)
theorem one_fit {k n : Nat} (hk : 1 ≤ k) {ss : List (List Lk)} (h : SetsFit k ss) {s : Int} (hs : SymOk n s) : ∀ x ∈ oneL ss s, Fit k x := by
  unfold oneL
  split
  · exact lset_fit (setsFit_get h _)
  · intro x hx
    simp at hx
    subst hx
    have hv : 0 ≤ s ∧ s < 8 := by unfold SymOk at hs; omega
    refine ⟨of_right (by omega) (by simp) (by simpa using hv), ?_⟩
    rw [l_of _ (by simp)]; simpa using hk
theorem step_fit {k n : Nat} (hk : 1 ≤ k) (hk4 : k ≤ 4) {ss : List (List Lk)} (h : SetsFit k ss) {out : List Lk} (ho : ∀ x ∈ out, Fit k x) {s : Int} (hs : SymOk n s) : ∀ x ∈ stepL k ss out s, Fit k x :=
  lset_fit (all_fit (by simp) (sums_fit hk4 ho (one_fit hk h hs)))
theorem nil_fit (k : Nat) : Fit k (Lk.of []) := ⟨nil_right 8 (by omega), by rw [l_of _ (by simp)]; simp⟩
theorem tail_fit {k n : Nat} (hk : 1 ≤ k) (hk4 : k ≤ 4) {ss : List (List Lk)} (h : SetsFit k ss) (l : List Int) (hl : ∀ s ∈ l, SymOk n s) : ∀ x ∈ tailL k ss l, Fit k x := by
  unfold tailL
  have : ∀ (l : List Int) (out : List Lk), (∀ s ∈ l, SymOk n s) → (∀ x ∈ out, Fit k x) → ∀ x ∈ l.foldl (stepL k ss) out, Fit k x := by
    intro l
    induction l with
    | nil => intro out _ ho; exact ho
    | cons s l ih => intro out hl ho; exact ih _ (fun y hy => hl y (List.mem_cons_of_mem _ hy)) (step_fit hk hk4 h ho (hl s List.mem_cons_self))
  exact this l _ hl (by intro x hx; simp at hx; subst hx; exact nil_fit k)
theorem lset_nodup {k : Nat} {l : List Lk} (h : ∀ x ∈ l, Fit k x) : (lset l).Nodup := asc_nodup (lset_asc fun x hx => (h x hx).1)
theorem fit_len {k : Nat} {s : List Lk} (hn : s.Nodup) (hr : ∀ x ∈ s, Fit k x) : s.length ≤ 4681 := right_len hn fun x hx => (hr x hx).1
theorem tail_nodup {k n : Nat} (hk : 1 ≤ k) (hk4 : k ≤ 4) {ss : List (List Lk)} (h : SetsFit k ss) (l : List Int) (hl : ∀ s ∈ l, SymOk n s) : (tailL k ss l).Nodup := by
  rcases List.eq_nil_or_concat l with rfl | ⟨l', s, rfl⟩
  · simp [tailL]
  · rw [List.concat_eq_append] at hl ⊢
    rw [tailL_snoc]
    unfold stepL
    exact lset_nodup (all_fit (by simp) (sums_fit hk4 (tail_fit hk hk4 h l' (fun y hy => hl y (List.mem_append_left _ hy))) (one_fit hk h (hl s (by simp)))))

/-- a slice of sets that reads -/
def SetsR (W : World) (B : Nat) (A : Option Addr) (n : Nat) (ss : List (List Lk)) : Prop :=
  ss.length = n ∧ (n = 0 ∨ ∃ b off, A = some ⟨b, off, none⟩ ∧ b < B ∧ ∀ (i : Nat) (s : List Lk), ss[i]? = some s → ∃ mb, mb < B ∧ W.cell? ⟨b, off + i, none⟩ = some (.map (some mb)) ∧ MapK lookKey W mb s)
theorem MapK.below {α : Type} {E : KeyEnc α} {w w' : World} {B b : Nat} {s : List α} (h : MapK E w b s) (hb : Below B w w') (hlt : b < B) : MapK E w' b s := by
  obtain ⟨es, clock, h1, h2⟩ := h
  exact ⟨es, clock, (hb.block b hlt).trans h1, h2⟩
theorem SetsR.below {W W' : World} {B : Nat} {A : Option Addr} {n : Nat} {ss : List (List Lk)} (h : SetsR W B A n ss) (hb : Below B W W') : SetsR W' B A n ss := by
  refine ⟨h.1, ?_⟩
  rcases h.2 with h0 | ⟨b, off, rfl, hlt, hc⟩
  · exact .inl h0
  · refine .inr ⟨b, off, rfl, hlt, fun i s hs => ?_⟩
    obtain ⟨mb, h1, h2, h3⟩ := hc i s hs
    exact ⟨mb, h1, (hb.cell (p := ⟨b, off + i, none⟩) hlt).trans h2, h3.below hb h1⟩
theorem rdL_one {W : World} {g : Nat} {x : Lk} (h : Blk W g 42 x.cells) : RdL W (g + 1) (some ⟨g, 0, none⟩) 1 [x] := by
  refine ⟨rfl, .inr ⟨g, 0, rfl, by omega, fun i y hy j hj => ?_⟩⟩
  have hi : i = 0 := by have := (List.getElem?_eq_some_iff.1 hy).1; simp at this; omega
  subst hi
  simp at hy
  subst hy
  rw [h.cell]; simp
theorem ownL_one {W : World} {g base : Nat} {x : Lk} (h : Blk W g 42 x.cells) (hb : base ≤ g) : OwnL W base (.slice (some ⟨g, 0, none⟩) 1 1) [x] :=
  ⟨by simp [cellsL, Lk.cells], .inr ⟨g, 1, x.cells, rfl, hb, h, Nat.le_refl _, by simp [maxLen], rfl, by simp [cellsL, Lk.cells]⟩⟩
end Go.Proofs.Ytnnkfgekiaaehaa

/- follow.tail. -/
namespace Go.Proofs.Ytnnkfgekiaaehaa
open Go.ChangeShapes Go.WideShapes Go.ChangeAt Go.RowKit
set_option linter.unusedVariables false

theorem SetsR.get {W : World} {B : Nat} {A : Option Addr} {n : Nat} {ss : List (List Lk)} (h : SetsR W B A n ss) (i : Nat) (hi : i < n) :
    ∃ b off mb, A = some ⟨b, off, none⟩ ∧ b < B ∧ mb < B ∧ W.cell? ⟨b, off + i, none⟩ = some (.map (some mb)) ∧ MapK lookKey W mb (ss.getD i []) := by
  rcases h.2 with h0 | ⟨b, off, rfl, hlt, hc⟩
  · omega
  · have hil : i < ss.length := by rw [h.1]; exact hi
    obtain ⟨mb, h1, h2, h3⟩ := hc i ss[i] (List.getElem?_eq_getElem hil)
    refine ⟨b, off, mb, rfl, hlt, h1, h2, ?_⟩
    simpa [List.getD_eq_getElem?_getD, hil] using h3

theorem one_len {k : Nat} {ss : List (List Lk)} (h : SetsFit k ss) (s : Int) : (oneL ss s).length ≤ 4681 := by
  unfold oneL
  split
  · have hgf := setsFit_get h (s - 16).toNat
    exact right_len (asc_nodup (lset_asc fun x hx => (hgf x hx).1)) (fun x hx => (lset_fit hgf x hx).1)
  · simp

set_option maxHeartbeats 4000000 in
theorem tail_any (g : Gr) (a : GA) (k : Nat) (hgk : g.k = (k : Int)) (hk1 : 1 ≤ k) (hk4 : k ≤ 4) (A : Option Addr) (n c : Nat) (ss : List (List Lk)) (B2 : Option Addr) (n2 c2 : Nat) (l : List Int) (w : World) (hg : GrAt w w.heap.size g a)
    (hS : SetsR w w.heap.size A n ss) (hfit : SetsFit k ss) (hnd : ∀ s ∈ ss, s.Nodup) (hn : n ≤ 1000000) (hl : Rd1 w w.heap.size B2 n2 (ints l)) (hn2 : n2 ≤ 1000000) (hok : ∀ s ∈ l, SymOk n s) :
    Calls Try.prog 40 #[gval g a, .slice A n c, .slice B2 n2 c2] w (RetL w (tailL k ss l)) := by
  have hP := Lib.hid (fun (v : Value) (w' : World) (h1 : OwnL w' w.heap.size v (tailL k ss l)) (h2 : Below w.heap.size w w') => (show RetL w (tailL k ss l) (.returned v) w' from ⟨v, rfl, h1, h2⟩))
  obtain ⟨ta, tc, na, nc, pa, pc⟩ := a
  have hll : l.length = n2 := by have := hl.1; simpa [ints] using this
  have hS' := Lib.hid hS
  have hl' := Lib.hid hl
  have hok' := Lib.hid hok
  have hfit' := Lib.hid hfit
  have hnd' := Lib.hid hnd
  have hG0 := GB.start hg
  have hll' := Lib.hid hll
  have hJ := Lib.hid joined_any
  have hPl := Lib.hid (fun (w : World) => show Calls Try.prog 41 #[.int .i64 g.k] w (RetP w k) by rw [hgk]; exact mkplus_any k w)
  clear hgk
  have hSo := Lib.hid sorted_any
  clear hS hl hok hfit hnd hg hll
  unfold gval at *
  unfold gcells at *
  dsimp only at *
  have hmm := @run_makeMap Try.prog
  go_enter Try.func40, Try.ntmps40
  go_wp2_with fail
  have q1 : Blk ((w.alloc (.cells #[.int .i64 g.k, .slice ta g.toks.length tc, .string g.sep, .slice na g.names.length nc, .int .i64 g.start, .slice pa g.prods.length pc] 26)).alloc (.cells #[.int .i64 0, .int .i64 0, .int .i64 0, .int .i64 0, .int .i64 0] 42)) (w.heap.size + 1) 42 (Lk.of []).cells := Blk.newAt _ _ _ _ (by simp)
  have ho1 := ownL_one (base := w.heap.size + 1) q1 (Nat.le_refl _)
  have hG1 := hG0.alloc (.cells #[.int .i64 0, .int .i64 0, .int .i64 0, .int .i64 0, .int .i64 0] 42)
  clear hG0
  go_loopg [16, 7] n2 (fun gk s16 s7 wr => ∃ (i : Nat) (cur : List Lk), s16 = .int .i64 i ∧ i + gk = n2 ∧ Hid (cur = tailL k ss (l.take i)) ∧ OwnL wr (w.heap.size + 1) s7 cur ∧ GB w g ⟨ta, tc, na, nc, pa, pc⟩ wr)
  case atStart => exact ⟨0, [Lk.of []], rfl, by omega, Lib.hid (by simp [tailL]), ho1, hG1⟩
  case round =>
    clear q1 ho1 hG1
    obtain ⟨i, cur, rfl, hi, hcur, ho, hG⟩ := hrel
    replace hi := Lib.hid hi
    by_cases hin : i < n2
    · have hil : i < l.length := by have := hll'.out; omega
      have hsi : (ints l)[i]? = some (.int .i64 l[i]) := by simp [ints, hil]
      have htk : l.take (i + 1) = l.take i ++ [l[i]] := List.take_succ_eq_append_getElem hil
      have hsm : l[i] ∈ l := List.getElem_mem hil
      have hlr : Rd1 wr w.heap.size B2 n2 (ints l) := hl'.out.below hG.2.2
      obtain ⟨lb, loff, rfl, hlb, y0⟩ := hlr.get hsi
      have hso := Lib.hid (hok'.out _ hsm)
      have hcf := Lib.hid (tail_fit hk1 hk4 hfit'.out (l.take i) (fun s hs => hok'.out s (List.mem_of_mem_take hs)))
      have hcn := Lib.hid (tail_nodup hk1 hk4 hfit'.out (l.take i) (fun s hs => hok'.out s (List.mem_of_mem_take hs)))
      rw [← hcur.out] at hcf hcn
      generalize l[i] = s at *
      have hof := Lib.hid (one_fit hk1 hfit'.out hso.out)
      have hstep : Hid (stepL k ss cur s = tailL k ss (l.take (i + 1))) := Lib.hid (by rw [htk, tailL_snoc, ← hcur.out])
      clear hlr
      replace hsi := Lib.hid hsi
      replace htk := Lib.hid htk
      replace hsm := Lib.hid hsm
      have hz1 : (0 : Int) ≤ i := by omega
      have hz2 : (i : Int) < n2 := by omega
      go_upto_region 7 with (fail)
      have hM : MapK lookKey ((wr.alloc (.map #[] 0)).alloc (.cells #[.int .i64 1, .int .i64 s, .int .i64 0, .int .i64 0, .int .i64 0] 42)) wr.heap.size [] := (mapk_new lookKey wr wr.heap.size rfl).step (bAlc (Below.refl _ _) _)
      have q1 : Blk ((wr.alloc (.map #[] 0)).alloc (.cells #[.int .i64 1, .int .i64 s, .int .i64 0, .int .i64 0, .int .i64 0] 42)) (wr.heap.size + 1) 42 (Lk.of [s]).cells := Blk.newAt _ _ _ _ (by simp)
      have hG2 := (hG.alloc (.map #[] 0)).alloc (.cells #[.int .i64 1, .int .i64 s, .int .i64 0, .int .i64 0, .int .i64 0] 42)
      have ho2 := (ho.alloc (.map #[] 0)).alloc (.cells #[.int .i64 1, .int .i64 s, .int .i64 0, .int .i64 0, .int .i64 0] 42)
      have hmb : w.heap.size < wr.heap.size := hG.lt
      clear hG ho
      generalize (wr.alloc (.map #[] 0)).alloc (.cells #[.int .i64 1, .int .i64 s, .int .i64 0, .int .i64 0, .int .i64 0] 42) = W2 at *
      generalize wr.heap.size = mb at *
      by_cases h16 : 16 ≤ s
      · have hj : (s - 16).toNat < n := by
          have := hso.out
          unfold SymOk at this
          omega
        have hsr : SetsR W2 w.heap.size A n ss := hS'.out.below hG2.2.2
        obtain ⟨sb, soff, smb, rfl, hsb, hsmb, z0, zm⟩ := hsr.get _ hj
        have hgf := Lib.hid (fun x hx => (setsFit_get hfit'.out (s - 16).toNat x hx))
        have hgn : (ss.getD (s - 16).toNat []).Nodup := by
          rw [List.getD_eq_getElem?_getD]
          cases hh : ss[(s - 16).toNat]? with
          | none => simp
          | some t => exact hnd'.out t (List.mem_of_getElem? hh)
        have hgl : (ss.getD (s - 16).toNat []).length ≤ 900000 := by have := fit_len hgn hgf.out; omega
        have hone : Hid (lset (ss.getD (s - 16).toNat []) = oneL ss s) := Lib.hid (by unfold oneL; rw [if_pos h16])
        generalize ss.getD (s - 16).toNat [] = t at *
        obtain ⟨j, hjj⟩ := Int.eq_ofNat_of_zero_le (show 0 ≤ s - 16 by omega)
        have hjn : (s - 16).toNat = j := by omega
        rw [hjn] at z0 hj
        have zI : s - 16 = (j : Int) := by omega
        have zw : IntKind.i64.wrap (j : Int) = j := IntWalk.i64_in _ (by omega)
        replace hgn := Lib.hid hgn
        clear hjj hjn hsr
        have hz5 : (j : Int) < n := by omega
        have hz6 : (0 : Int) ≤ j := by omega
        go_upto_region 9 with (go_at_call 26; refine (hSo.out smb t W2 zm (fun x hx => (hgf.out x hx).1) hgl).mono ?_; rintro e wc ⟨v3, rfl, ho3, hb3⟩; obtain ⟨A1, c1, rfl, hd1, hk3, hm3, hbb3⟩ := ho3.reads)
        rw [hone.out] at hd1 ⊢
        obtain ⟨m, hm00⟩ : ∃ m, m = (oneL ss s).length := ⟨_, rfl⟩
        rw [← hm00] at hd1 ⊢
        have hG := hG2.step hb3
        have hMm := hM.step hb3
        have ho := ho2.step hb3
        clear hG2 hM ho2 q1 hb3 ho3 hk3 z0 zm hm00
        have hm : m = (oneL ss s).length := hd1.1.symm
        have hml : m ≤ 1000000 := by
          rw [hm]; have := one_len hfit'.out s; omega
        obtain ⟨A0, c0', rfl, hd0, hk0, hm0, hbb0⟩ := ho.reads
        have hcl : cur.length ≤ 1000000 := by have := fit_len hcn.out hcf.out; omega
        obtain ⟨c0, c1', c2', c3, c4, c5⟩ := hG.cells
        replace hm := Lib.hid hm
        clear hm0
        obtain ⟨J, hJl⟩ : ∃ J, J = addAll [] (sumsJ k cur (oneL ss s)) := ⟨_, rfl⟩
        have hJf : ∀ x ∈ J, Fit k x := by rw [hJl]; exact all_fit (by simp) (sums_fit hk4 hcf.out hof.out)
        have hJn : J.length ≤ 900000 := by
          have : J.Nodup := by rw [hJl]; exact addAll_nodup (by simp) _
          have := fit_len this hJf; omega
        have hJs : Hid (lset J = tailL k ss (l.take (i + 1))) := Lib.hid (by rw [hJl, ← hstep.out]; rfl)
        replace hJl := Lib.hid hJl
        have hJf' := Lib.hid hJf
        clear hJf
        go_wp2_with (first
          | (go_at_call 41; refine (hPl.out wc).mono ?_; rintro e w4 ⟨Bk, rfl, p1, p2, p3, p4⟩)
          | (go_at_call 39; refine (hJ.out k A0 A1 cur.length m c0' c1 cur (oneL ss s) [] mb Bk w4 hk4 ((hd0.below p4).mono p4.size) ((hd1.below p4).mono p4.size) (fun x hx => (hcf.out x hx).1) (fun x hx => (hof.out x hx).1) (fun x hx => (hcf.out x hx).2) hcl hml (hMm.step p4) p1 p3).mono ?_; rintro e w5 ⟨rfl, hM5, hg5⟩; rw [← hJl.out] at hM5)
          | (go_at_call 26; refine (hSo.out mb J w5 hM5 (fun x hx => (hJf'.out x hx).1) hJn).mono ?_; rintro e w6 ⟨v6, rfl, ho6, hb6⟩))
        have hG5 := (hG.step p4).grown hg5 (fun j hj => by cases hj; exact hmb)
        go_roundg (n2 - (i + 1))
        case measure => have := hi.out; omega
        case rel => exact ⟨i + 1, lset J, by go_num, by have := hi.out; omega, hJs, ho6.mono (by have := hG5.lt; omega), hG5.step hb6⟩
      · have hone : [Lk.of [s]] = oneL ss s := by unfold oneL; rw [if_neg h16]
        have hd1 := (rdL_one q1).mono (show mb + 1 + 1 ≤ W2.heap.size by have := q1.lt; omega)
        rw [hone] at hd1
        obtain ⟨A1, hA1⟩ : ∃ A1 : Option Addr, A1 = some ⟨mb + 1, 0, none⟩ := ⟨_, rfl⟩
        obtain ⟨m, hm00⟩ : ∃ m : Nat, m = 1 := ⟨_, rfl⟩
        have hG := hG2
        have hMm := hM
        have ho := ho2
        rw [← hA1, ← hm00] at hd1
        replace hone := Lib.hid hone
        replace hA1 := Lib.hid hA1
        replace hm00 := Lib.hid hm00
        clear hG2 hM ho2 q1
        go_upto_region 9 with (fail)
        obtain ⟨wc, hwc⟩ : ∃ wc, wc = W2 := ⟨_, rfl⟩
        rw [← hwc] at hd1 hG hMm ho ⊢
        clear hwc
        have hm : m = (oneL ss s).length := hd1.1.symm
        have hml : m ≤ 1000000 := by
          rw [hm]; have := one_len hfit'.out s; omega
        obtain ⟨A0, c0', rfl, hd0, hk0, hm0, hbb0⟩ := ho.reads
        have hcl : cur.length ≤ 1000000 := by have := fit_len hcn.out hcf.out; omega
        obtain ⟨c0, c1', c2', c3, c4, c5⟩ := hG.cells
        replace hm := Lib.hid hm
        clear hm0
        obtain ⟨J, hJl⟩ : ∃ J, J = addAll [] (sumsJ k cur (oneL ss s)) := ⟨_, rfl⟩
        have hJf : ∀ x ∈ J, Fit k x := by rw [hJl]; exact all_fit (by simp) (sums_fit hk4 hcf.out hof.out)
        have hJn : J.length ≤ 900000 := by
          have : J.Nodup := by rw [hJl]; exact addAll_nodup (by simp) _
          have := fit_len this hJf; omega
        have hJs : Hid (lset J = tailL k ss (l.take (i + 1))) := Lib.hid (by rw [hJl, ← hstep.out]; rfl)
        replace hJl := Lib.hid hJl
        have hJf' := Lib.hid hJf
        clear hJf
        go_wp2_with (first
          | (go_at_call 41; refine (hPl.out wc).mono ?_; rintro e w4 ⟨Bk, rfl, p1, p2, p3, p4⟩)
          | (go_at_call 39; refine (hJ.out k A0 (some ⟨mb + 1, 0, none⟩) cur.length 1 c0' 1 cur (oneL ss s) [] mb Bk w4 hk4 ((hd0.below p4).mono p4.size) (by have := (hd1.below p4).mono p4.size; rw [hA1.out, hm00.out] at this; exact this) (fun x hx => (hcf.out x hx).1) (fun x hx => (hof.out x hx).1) (fun x hx => (hcf.out x hx).2) hcl (by omega) (hMm.step p4) p1 p3).mono ?_; rintro e w5 ⟨rfl, hM5, hg5⟩; rw [← hJl.out] at hM5)
          | (go_at_call 26; refine (hSo.out mb J w5 hM5 (fun x hx => (hJf'.out x hx).1) hJn).mono ?_; rintro e w6 ⟨v6, rfl, ho6, hb6⟩))
        have hG5 := (hG.step p4).grown hg5 (fun j hj => by cases hj; exact hmb)
        go_roundg (n2 - (i + 1))
        case measure => have := hi.out; omega
        case rel => exact ⟨i + 1, lset J, by go_num, by have := hi.out; omega, hJs, ho6.mono (by have := hG5.lt; omega), hG5.step hb6⟩
    · have hcur2 : cur = tailL k ss l := by rw [hcur.out, List.take_of_length_le (by have := hll'.out; omega)]
      replace hcur2 := Lib.hid hcur2
      go_wp2_with fail
      go_ret
      exact hP.out _ _ (hcur2.out ▸ ho.mono (by omega)) hG.2.2
end Go.Proofs.Ytnnkfgekiaaehaa

/- Own sets; FIRST as a predicate. -/
namespace Go.Proofs.Ytnnkfgekiaaehaa
open Go.ChangeShapes Go.WideShapes Go.ChangeAt Go.RowKit
set_option linter.unusedVariables false

/-- a slice of n cells, whose first places hold maps of its own with these sets -/
def SetsO (W : World) (base bo n : Nat) (ss : List (List Lk)) : Prop :=
  ∃ (cs : Array Value) (mbs : List Nat), Blk W bo 67 cs ∧ cs.size = n ∧ mbs.length = ss.length ∧ mbs.Nodup ∧ (∀ m ∈ mbs, base ≤ m ∧ m < W.heap.size) ∧
    ∀ (i m : Nat) (s : List Lk), mbs[i]? = some m → ss[i]? = some s → cs[i]? = some (.map (some m)) ∧ MapK lookKey W m s
theorem SetsO.step {W W' : World} {base bo n : Nat} {ss : List (List Lk)} (h : SetsO W base bo n ss) (hb : Below W.heap.size W W') : SetsO W' base bo n ss := by
  obtain ⟨cs, mbs, h1, h2, h3, h4, h5, h6⟩ := h
  exact ⟨cs, mbs, h1.step hb, h2, h3, h4, fun m hm => ⟨(h5 m hm).1, Nat.lt_of_lt_of_le (h5 m hm).2 hb.size⟩, fun i m s a b => ⟨(h6 i m s a b).1, (h6 i m s a b).2.step hb⟩⟩
theorem grownBy_setC (w : World) (b i : Nat) (v : Value) : w.grownBy (w.setCell ⟨b, i, none⟩ v) (some b) :=
  ⟨rfl, rfl, rfl, by simp, fun k hk hne => Below.heap_setCell w ⟨b, i, none⟩ v k (fun e => hne (by rw [e]))⟩
theorem mapk_blk {α : Type} {E : KeyEnc α} {W : World} {m g : Nat} {s : List α} {t : TypeId} {cs : Array Value} (h : MapK E W m s) (q : Blk W g t cs) : m ≠ g := by
  rintro rfl
  obtain ⟨es, clock, hb, _⟩ := h
  unfold Blk at q
  rw [hb] at q; cases q
theorem SetsO.put {W : World} {base bo n : Nat} {ss : List (List Lk)} (h : SetsO W base bo n ss) {g : Nat} {t : TypeId} {cs' : Array Value} (q : Blk W g t cs') (hg : g ≠ bo) (i : Nat) (v : Value) : SetsO (W.setCell ⟨g, i, none⟩ v) base bo n ss := by
  obtain ⟨cs, mbs, h1, h2, h3, h4, h5, h6⟩ := h
  refine ⟨cs, mbs, h1.far (Ne.symm hg) v, h2, h3, h4, fun m hm => ?_, fun j m s a b => ⟨(h6 j m s a b).1, ?_⟩⟩
  · have := h5 m hm; simpa using this
  · have hm := (h6 j m s a b).2
    exact hm.grown (grownBy_setC W g i v) (by simpa using mapk_blk hm q)
theorem SetsO.push {W : World} {base bo n : Nat} {ss : List (List Lk)} (h : SetsO W base bo n ss) (hn : ss.length < n) (hb : base ≤ W.heap.size) :
    SetsO ((W.alloc (.map #[] 0)).setCell ⟨bo, ss.length, none⟩ (.map (some W.heap.size))) base bo n (ss ++ [[]]) := by
  obtain ⟨cs, mbs, h1, h2, h3, h4, h5, h6⟩ := h
  have hlt := h1.lt
  have hbo : W.heap.size ≠ bo := by omega
  refine ⟨cs.setIfInBounds ss.length (.map (some W.heap.size)), mbs ++ [W.heap.size], (h1.alloc _).put _ _, by simpa using h2, by simp [h3], ?_, ?_, ?_⟩
  · rw [List.nodup_append]
    refine ⟨h4, by simp, fun a ha b hb' => ?_⟩
    simp at hb'; subst hb'
    have := (h5 a ha).2
    omega
  · intro m hm
    rcases List.mem_append.1 hm with hm | hm
    · have := h5 m hm; simp; omega
    · simp at hm; subst hm; simp; omega
  · intro i m s hmi hsi
    by_cases hi : i < ss.length
    · rw [List.getElem?_append_left (by omega)] at hmi hsi
      obtain ⟨a, b⟩ := h6 i m s hmi hsi
      refine ⟨by rw [Array.getElem?_setIfInBounds_ne (by omega)]; exact a, ?_⟩
      have b2 := b.step (w' := W.alloc (.map #[] 0)) (bAlc (Below.refl _ _) _)
      exact b2.grown (grownBy_setC _ bo _ _) (by simpa using mapk_blk b h1)
    · have hi2 : i = ss.length := by have := (List.getElem?_eq_some_iff.1 hsi).1; simp at this; omega
      subst hi2
      rw [← h3] at hmi
      simp at hmi hsi
      subst hmi; subst hsi
      refine ⟨by rw [Array.getElem?_setIfInBounds_self]; simp [h2, hn], ?_⟩
      exact (mapk_new lookKey W W.heap.size rfl).grown (grownBy_setC _ bo _ _) (by simpa using hbo)
theorem SetsO.get {W : World} {base bo n : Nat} {ss : List (List Lk)} (h : SetsO W base bo n ss) (i : Nat) (hi : i < ss.length) :
    ∃ m, base ≤ m ∧ m < W.heap.size ∧ W.cell? ⟨bo, i, none⟩ = some (.map (some m)) ∧ MapK lookKey W m (ss.getD i []) ∧ ∀ (W1 W' : World) (cur : List Lk), Below W.heap.size W W1 → W1.grownBy W' (some m) → MapK lookKey W' m cur → SetsO W' base bo n (ss.set i cur) := by
  obtain ⟨cs, mbs, h1, h2, h3, h4, h5, h6⟩ := h
  have him : i < mbs.length := by omega
  obtain ⟨a, b⟩ := h6 i mbs[i] ss[i] (List.getElem?_eq_getElem him) (List.getElem?_eq_getElem hi)
  obtain ⟨c, d⟩ := h5 _ (List.getElem_mem him)
  refine ⟨mbs[i], c, d, by rw [h1.cell]; exact a, by simpa [List.getD_eq_getElem?_getD, hi] using b, ?_⟩
  intro W1 W' cur hb hg hm
  have hz := hb.size
  have hz2 := hg.size
  refine ⟨cs, mbs, (h1.step hb).grown hg (by simpa using Ne.symm (mapk_blk b h1)), h2, by simpa using h3, h4, fun m hm => ⟨(h5 m hm).1, by have := (h5 m hm).2; omega⟩, ?_⟩
  intro j m s hmj hsj
  by_cases hij : i = j
  · subst hij
    rw [List.getElem?_eq_getElem him] at hmj
    injection hmj with hmj
    subst hmj
    rw [List.getElem?_set_self hi] at hsj
    injection hsj with hsj
    subst hsj
    exact ⟨a, hm⟩
  · rw [List.getElem?_set_ne hij] at hsj
    obtain ⟨a2, b2⟩ := h6 j m s hmj hsj
    refine ⟨a2, (b2.step hb).grown hg ?_⟩
    intro e
    injection e with e
    have hjm := (List.getElem?_eq_some_iff.1 hmj).1
    have e2 : mbs[j] = m := by rw [List.getElem?_eq_getElem hjm] at hmj; injection hmj
    exact hij ((List.getElem_inj h4).1 (by rw [e2, e]))
theorem SetsO.reads {W : World} {base bo n : Nat} {ss : List (List Lk)} (h : SetsO W base bo n ss) (hn : ss.length = n) : SetsR W W.heap.size (some ⟨bo, 0, none⟩) n ss := by
  obtain ⟨cs, mbs, h1, h2, h3, h4, h5, h6⟩ := h
  refine ⟨hn, .inr ⟨bo, 0, rfl, h1.lt, fun i s hs => ?_⟩⟩
  have hi := (List.getElem?_eq_some_iff.1 hs).1
  have him : i < mbs.length := by omega
  obtain ⟨a, b⟩ := h6 i mbs[i] s (List.getElem?_eq_getElem him) hs
  exact ⟨mbs[i], (h5 _ (List.getElem_mem him)).2, by rw [Nat.zero_add, h1.cell]; exact a, b⟩
theorem SetsO.nodup {W : World} {base bo n : Nat} {ss : List (List Lk)} (h : SetsO W base bo n ss) : ∀ s ∈ ss, s.Nodup := by
  obtain ⟨cs, mbs, h1, h2, h3, h4, h5, h6⟩ := h
  intro s hs
  obtain ⟨i, hi, rfl⟩ := List.getElem_of_mem hs
  have him : i < mbs.length := by omega
  obtain ⟨a, es, clock, _, _, _, _, hn, _⟩ := h6 i mbs[i] ss[i] (List.getElem?_eq_getElem him) (List.getElem?_eq_getElem hi)
  exact hn

/-- what a list of symbols may begin with -/
inductive FL (ps : List Pr) (k : Nat) : List Int → Lk → Prop
  | nil : FL ps k [] (Lk.of [])
  | term {l : List Int} {x : Lk} {s : Int} : FL ps k l x → s < 16 → FL ps k (l ++ [s]) (lplus k x (Lk.of [s]))
  | non {l : List Int} {x : Lk} {p : Pr} {y : Lk} : FL ps k l x → p ∈ ps → 16 ≤ p.left → FL ps k p.right y → FL ps k (l ++ [p.left]) (lplus k x y)
/-- what a nonterminal may begin with -/
def FN (ps : List Pr) (k : Nat) (s : Int) (y : Lk) : Prop := ∃ p ∈ ps, p.left = s ∧ FL ps k p.right y
/-- every look in the sets is a FIRST -/
def SoundF (ps : List Pr) (k : Nat) (ss : List (List Lk)) : Prop := ∀ (i : Nat) (y : Lk), y ∈ ss.getD i [] → FN ps k (16 + (i : Int)) y
/-- the sets hold what the productions give -/
def ClosedF (ps : List Pr) (k : Nat) (ss : List (List Lk)) : Prop := ∀ p ∈ ps, ∀ y ∈ tailL k ss p.right, y ∈ ss.getD (p.left - 16).toNat []

theorem step_mem {k n : Nat} (hk : 1 ≤ k) (hk4 : k ≤ 4) {ss : List (List Lk)} (hf : SetsFit k ss) {out : List Lk} (ho : ∀ x ∈ out, Fit k x) {s : Int} (hs : SymOk n s) (z : Lk) :
    z ∈ stepL k ss out s ↔ ∃ x ∈ out, ∃ y ∈ oneL ss s, z = lplus k x y := by
  unfold stepL
  rw [lset_mem (k := 8) (fun x hx => (all_fit (by simp) (sums_fit hk4 ho (one_fit hk hf hs)) x hx).1), addAll_mem, sums_mem]
  simp
theorem one_mem {k : Nat} {ss : List (List Lk)} (hf : SetsFit k ss) (s : Int) (y : Lk) : y ∈ oneL ss s ↔ (16 ≤ s ∧ y ∈ ss.getD (s - 16).toNat []) ∨ (s < 16 ∧ y = Lk.of [s]) := by
  unfold oneL
  split
  · rename_i h
    rw [lset_mem (k := 8) (fun x hx => (setsFit_get hf _ x hx).1)]
    constructor
    · intro hy; exact .inl ⟨h, hy⟩
    · rintro (⟨_, hy⟩ | ⟨h2, _⟩)
      · exact hy
      · omega
  · rename_i h
    simp only [List.mem_singleton]
    constructor
    · intro hy; exact .inr ⟨by omega, hy⟩
    · rintro (⟨h2, _⟩ | ⟨_, hy⟩)
      · omega
      · exact hy
theorem tail_sound {ps : List Pr} {k n : Nat} (hk : 1 ≤ k) (hk4 : k ≤ 4) {ss : List (List Lk)} (hf : SetsFit k ss) (hs : SoundF ps k ss) (l : List Int) (hl : ∀ s ∈ l, SymOk n s) : ∀ y ∈ tailL k ss l, FL ps k l y := by
  have : ∀ m, ∀ l : List Int, l.length = m → (∀ s ∈ l, SymOk n s) → ∀ y ∈ tailL k ss l, FL ps k l y := by
    intro m
    induction m with
    | zero =>
      intro l h0 _ y hy
      have : l = [] := List.eq_nil_of_length_eq_zero h0
      subst this
      simp [tailL] at hy
      subst hy
      exact FL.nil
    | succ m ih =>
      intro l hlm hl y hy
      rcases List.eq_nil_or_concat l with rfl | ⟨l', s, rfl⟩
      · simp at hlm
      · rw [List.concat_eq_append] at *
        have hl' : ∀ s ∈ l', SymOk n s := fun z hz => hl z (List.mem_append_left _ hz)
        rw [tailL_snoc, step_mem hk hk4 hf (tail_fit hk hk4 hf l' hl') (hl s (by simp))] at hy
        obtain ⟨x, hx, z, hz, rfl⟩ := hy
        have hx' := ih l' (by simp at hlm; exact hlm) hl' x hx
        rcases (one_mem hf s z).1 hz with ⟨h1, h2⟩ | ⟨h1, rfl⟩
        · obtain ⟨p, hp, hpl, hpy⟩ := hs _ _ h2
          have e : p.left = s := by rw [hpl]; omega
          rw [← e]
          exact FL.non hx' hp (by omega) hpy
        · exact FL.term hx' h1
  exact this _ l rfl hl
theorem tail_full {ps : List Pr} {k n : Nat} (hk : 1 ≤ k) (hk4 : k ≤ 4) {ss : List (List Lk)} (hf : SetsFit k ss) (hc : ClosedF ps k ss) (hps : ∀ p ∈ ps, ∀ s ∈ p.right, SymOk n s) {l : List Int} {y : Lk} (h : FL ps k l y) : (∀ s ∈ l, SymOk n s) → y ∈ tailL k ss l := by
  induction h with
  | nil => intro _; simp [tailL]
  | @term l x s hx hs ih =>
    intro hl
    have hl' : ∀ s ∈ l, SymOk n s := fun z hz => hl z (List.mem_append_left _ hz)
    rw [tailL_snoc, step_mem hk hk4 hf (tail_fit hk hk4 hf l hl') (hl s (by simp))]
    exact ⟨x, ih hl', _, (one_mem hf s _).2 (.inr ⟨hs, rfl⟩), rfl⟩
  | @non l x p y hx hp h16 hy ih1 ih2 =>
    intro hl
    have hl' : ∀ s ∈ l, SymOk n s := fun z hz => hl z (List.mem_append_left _ hz)
    rw [tailL_snoc, step_mem hk hk4 hf (tail_fit hk hk4 hf l hl') (hl p.left (by simp))]
    exact ⟨x, ih1 hl', _, (one_mem hf p.left _).2 (.inl ⟨h16, hc p hp y (ih2 (hps p hp))⟩), rfl⟩
/-- the sets are the FIRSTs -/
theorem first_iff {ps : List Pr} {k n : Nat} (hk : 1 ≤ k) (hk4 : k ≤ 4) {ss : List (List Lk)} (hf : SetsFit k ss) (hs : SoundF ps k ss) (hc : ClosedF ps k ss) (hps : ∀ p ∈ ps, ∀ s ∈ p.right, SymOk n s) (l : List Int) (hl : ∀ s ∈ l, SymOk n s) (y : Lk) :
    y ∈ tailL k ss l ↔ FL ps k l y := ⟨tail_sound hk hk4 hf hs l hl y, fun h => tail_full hk hk4 hf hc hps h hl⟩
end Go.Proofs.Ytnnkfgekiaaehaa

/- One round of begins, plainly. -/
namespace Go.Proofs.Ytnnkfgekiaaehaa
open Go.ChangeShapes Go.WideShapes Go.ChangeAt Go.RowKit
set_option linter.unusedVariables false

def tot (ss : List (List Lk)) : Nat := (ss.map List.length).sum
theorem tot_set : ∀ (ss : List (List Lk)) (i : Nat) (c : List Lk), i < ss.length → tot (ss.set i c) + (ss.getD i []).length = tot ss + c.length
  | [], i, c, h => by simp at h
  | s :: ss, 0, c, _ => by simp [tot]; omega
  | s :: ss, i + 1, c, h => by
    have := tot_set ss i c (by simpa using h)
    simp [tot] at this ⊢
    omega
theorem tot_le : ∀ (ss : List (List Lk)), (∀ s ∈ ss, s.length ≤ 4681) → tot ss ≤ ss.length * 4681
  | [], _ => by simp [tot]
  | s :: ss, h => by
    have h1 := h s List.mem_cons_self
    have h2 := tot_le ss fun t ht => h t (List.mem_cons_of_mem _ ht)
    simp [tot] at h2 ⊢
    omega
theorem plus_nil {k : Nat} {x : Lk} (h : Fit k x) : lplus k x (Lk.of []) = x := by
  unfold lplus
  rw [l_of [] (by simp), List.append_nil, List.take_of_length_le h.2]
  exact (right_l h.1).2.2.1
theorem sums_nil {k : Nat} {T : List Lk} (h : ∀ x ∈ T, Fit k x) : ∀ z, z ∈ sumsJ k T [Lk.of []] ↔ z ∈ T := by
  intro z
  rw [sums_mem]
  constructor
  · rintro ⟨x, hx, y, hy, rfl⟩
    simp at hy; subst hy
    rw [plus_nil (h x hx)]; exact hx
  · intro hz
    exact ⟨z, hz, _, by simp, (plus_nil (h z hz)).symm⟩
theorem set_fit {k : Nat} {ss : List (List Lk)} (h : SetsFit k ss) (i : Nat) {c : List Lk} (hc : ∀ x ∈ c, Fit k x) : SetsFit k (ss.set i c) := by
  intro s hs x hx
  rcases List.mem_or_eq_of_mem_set hs with h1 | rfl
  · exact h s h1 x hx
  · exact hc x hx
theorem getD_set (ss : List (List Lk)) (i j : Nat) (c : List Lk) (hi : i < ss.length) : (ss.set i c).getD j [] = if i = j then c else ss.getD j [] := by
  rw [List.getD_eq_getElem?_getD, List.getD_eq_getElem?_getD, List.getElem?_set]
  by_cases h : i = j
  · subst h; simp [hi]
  · simp [h]
theorem set_same (ss : List (List Lk)) (i : Nat) (h : i < ss.length) : ss.set i (ss.getD i []) = ss := by
  rw [List.getD_eq_getElem?_getD, List.getElem?_eq_getElem h]; simp
theorem set_sound {ps : List Pr} {k : Nat} {ss : List (List Lk)} (h : SoundF ps k ss) (i : Nat) (hi : i < ss.length) {c : List Lk} (hc : ∀ y ∈ c, FN ps k (16 + (i : Int)) y) : SoundF ps k (ss.set i c) := by
  intro j y hy
  rw [getD_set ss i j c hi] at hy
  split at hy
  · rename_i e; subst e; exact hc y hy
  · exact h j y hy

/-- what one production adds -/
def newS (k : Nat) (ss : List (List Lk)) (p : Pr) : List Lk := addAll (ss.getD (p.left - 16).toNat []) (sumsJ k (tailL k ss p.right) [Lk.of []])
structure RoundF (ps : List Pr) (k : Nat) (ss : List (List Lk)) (p : Pr) : Prop where
  fit : SetsFit k (ss.set (p.left - 16).toNat (newS k ss p))
  sound : SoundF ps k (ss.set (p.left - 16).toNat (newS k ss p))
  grow : (ss.getD (p.left - 16).toNat []).length ≤ (newS k ss p).length
  same : (newS k ss p).length = (ss.getD (p.left - 16).toNat []).length → ss.set (p.left - 16).toNat (newS k ss p) = ss ∧ ∀ y ∈ tailL k ss p.right, y ∈ ss.getD (p.left - 16).toNat []
  tot : Ytnnkfgekiaaehaa.tot (ss.set (p.left - 16).toNat (newS k ss p)) + (ss.getD (p.left - 16).toNat []).length = Ytnnkfgekiaaehaa.tot ss + (newS k ss p).length
theorem round_first {ps : List Pr} {k n : Nat} (hk : 1 ≤ k) (hk4 : k ≤ 4) {ss : List (List Lk)} (hn : ss.length = n) (hf : SetsFit k ss) (hs : SoundF ps k ss) {p : Pr} (hp : p ∈ ps) (hpl : 16 ≤ p.left ∧ p.left < 16 + (n : Int)) (hok : ∀ s ∈ p.right, SymOk n s) : RoundF ps k ss p := by
  have hi : (p.left - 16).toNat < ss.length := by omega
  have hT := tail_fit hk hk4 hf p.right hok
  have hTs := tail_sound hk hk4 hf hs p.right hok
  have hmem : ∀ y, y ∈ newS k ss p ↔ y ∈ ss.getD (p.left - 16).toNat [] ∨ y ∈ tailL k ss p.right := fun y => by
    unfold newS; rw [addAll_mem, sums_nil hT]
  refine ⟨set_fit hf _ fun x hx => ?_, set_sound hs _ hi fun y hy => ?_, addAll_len _ _, fun h => ?_, tot_set ss _ _ hi⟩
  · rcases (hmem x).1 hx with h | h
    · exact setsFit_get hf _ x h
    · exact hT x h
  · rcases (hmem y).1 hy with h | h
    · exact hs _ y h
    · exact ⟨p, hp, by omega, hTs y h⟩
  · obtain ⟨h1, h2⟩ := addAll_same _ _ h
    have e : newS k ss p = ss.getD (p.left - 16).toNat [] := h1
    rw [e]
    exact ⟨set_same ss _ hi, fun y hy => h2 y ((sums_nil hT y).2 hy)⟩
end Go.Proofs.Ytnnkfgekiaaehaa

/- The kit: Mod, At, OwnTexts, OwnInts. -/
namespace Go.Proofs.Ytnnkfgekiaaehaa
open Go.ChangeShapes Go.WideShapes Go.ChangeAt Go.RowKit
set_option linter.unusedVariables false

theorem mod_lo (a m : Int) (hm : 0 < m) (h : a.tmod m < 0) : a.tmod m + m = a % m := by
  have h1 := (Int.tmod_eq_emod : a.tmod m = _)
  have h2 := Int.emod_nonneg a (by omega : m ≠ 0)
  have h3 := Int.emod_lt_of_pos a hm
  split at h1 <;> omega
theorem mod_hi (a m : Int) (hm : 0 < m) (h : ¬ a.tmod m < 0) : a.tmod m = a % m := by
  have h1 := (Int.tmod_eq_emod : a.tmod m = _)
  have h2 := Int.emod_nonneg a (by omega : m ≠ 0)
  have h3 := Int.emod_lt_of_pos a hm
  split at h1 <;> omega
theorem mod_bd (a m : Int) (hm : 0 < m) : -m < a.tmod m ∧ a.tmod m < m := by
  have h1 := (Int.tmod_eq_emod : a.tmod m = _)
  have h2 := Int.emod_nonneg a (by omega : m ≠ 0)
  have h3 := Int.emod_lt_of_pos a hm
  split at h1 <;> omega

set_option maxHeartbeats 400000 in
theorem mod_any (a m : Int) (w : World) (wa : (Lit.int .i64 a).wf = true) (h1 : 1 ≤ m) (h2 : m ≤ 1099511627776) :
    Calls Try.prog 8 #[.int .i64 a, .int .i64 m] w fun e w' => e = .returned (.int .i64 (a % m)) ∧ w = w' := by
  have hb := mod_bd a m (by omega)
  have hne : ¬ m = 0 := by omega
  have hnb : (m == 0) = false := by simpa using hne
  by_cases h : a.tmod m < 0
  · have hL := Lib.hid (mod_lo a m (by omega) h)
    go_enter Try.func8, Try.ntmps8
    go_wp2_with fail
    go_ret
    exact ⟨ret_int hL.out, rfl⟩
  · have hL := Lib.hid (mod_hi a m (by omega) h)
    go_enter Try.func8, Try.ntmps8
    go_wp2_with fail
    go_ret
    exact ⟨ret_int hL.out, rfl⟩

set_option maxHeartbeats 400000 in
theorem at_any (A : Option Addr) (n c : Nat) (l : List Int) (i : Nat) (B : Nat) (w : World) (h : Rd1 w B A n (ints l)) (hn : n ≤ maxLen) (hi : i ≤ 1000000) :
    Calls Try.prog 23 #[.slice A n c, .int .i64 i] w fun e w' => e = .returned (.int .i64 (l.getD i 0)) ∧ w = w' := by
  have hl : l.length = n := by have := h.1; simpa [ints] using this
  by_cases hin : i < n
  · have hxi : (ints l)[i]? = some (.int .i64 (l.getD i 0)) := by
      have : i < l.length := by omega
      simp [ints, this]
    obtain ⟨b, off, rfl, hbt, x0⟩ := h.get hxi
    generalize l.getD i 0 = x at *
    have hz1 : (0 : Int) ≤ i := by omega
    have hz2 : (i : Int) < n := by omega
    replace hl := Lib.hid hl
    replace hxi := Lib.hid hxi
    go_enter Try.func23, Try.ntmps23
    go_wp2_with fail
    go_ret
    exact ⟨rfl, rfl⟩
  · have hx : l.getD i 0 = 0 := by simp [List.getD_eq_getElem?_getD, show l.length ≤ i by omega]
    rw [hx]
    have hz1 : (0 : Int) ≤ i := by omega
    have hz2 : (n : Int) ≤ i := by omega
    replace hl := Lib.hid hl
    replace hx := Lib.hid hx
    go_enter Try.func23, Try.ntmps23
    go_wp2_with fail
    go_ret
    exact ⟨rfl, rfl⟩

def RetS (w : World) (l : List ByteArray) (e : Ending) (w' : World) : Prop := ∃ v, e = .returned v ∧ Own1 w' w.heap.size 9 v (strs l) ∧ Below w.heap.size w w'
theorem owntexts_any (A : Option Addr) (n c : Nat) (l : List ByteArray) (w : World) (h : Rd1 w w.heap.size A n (strs l)) (hn : n ≤ 1000000) : Calls Try.prog 27 #[.slice A n c] w (RetS w l) := by
  have hP := Lib.hid (fun (v : Value) (w' : World) (h1 : Own1 w' w.heap.size 9 v (strs l)) (h2 : Below w.heap.size w w') => (show RetS w l (.returned v) w' from ⟨v, rfl, h1, h2⟩))
  have hoe := Own1.empty w w.heap.size 9 (Nat.le_refl _)
  have ha' := h.below ((Below.refl w.heap.size w).alloc (Nat.le_refl _) (.cells #[] 9))
  go_enter Try.func27, Try.ntmps27
  go_wp2_with (at_builtin; refine wpList_join1 _ rfl _ _ 23 rfl w.heap.size 9 _ 16 under23 info9 rfl _ [] rfl hoe w.heap.size A n c (strs l) rfl ha' strs_one (by simp; omega) (by omega) (by simp) ?_; intro v' w1 hown1 hg1 hat1 hb1)
  go_ret
  exact hP.out _ _ hown1 (hb1 w (bAlc (Below.refl _ _) _))
theorem ownints_any (A : Option Addr) (n c : Nat) (l : List Int) (w : World) (h : Rd1 w w.heap.size A n (ints l)) (hn : n ≤ 1000000) : Calls Try.prog 28 #[.slice A n c] w (RetI w l) := by
  have hP := Lib.hid (fun (v : Value) (w' : World) (h1 : Own1 w' w.heap.size 3 v (ints l)) (h2 : Below w.heap.size w w') => (show RetI w l (.returned v) w' from ⟨v, rfl, h1, h2⟩))
  have hoe := Own1.empty w w.heap.size 3 (Nat.le_refl _)
  have ha' := h.below ((Below.refl w.heap.size w).alloc (Nat.le_refl _) (.cells #[] 3))
  go_enter Try.func28, Try.ntmps28
  go_wp2_with (at_builtin; refine wpList_join1 _ rfl _ _ 22 rfl w.heap.size 3 _ 8 under22 info3 rfl _ [] rfl hoe w.heap.size A n c (ints l) rfl ha' ints_one (by simp; omega) (by omega) (by simp) ?_; intro v' w1 hown1 hg1 hat1 hb1)
  go_ret
  exact hP.out _ _ hown1 (hb1 w (bAlc (Below.refl _ _) _))
end Go.Proofs.Ytnnkfgekiaaehaa

/- Grammars out of numbers, plainly; what a right grammar gives. -/
namespace Go.Proofs.Ytnnkfgekiaaehaa
set_option linter.unusedVariables false

/-- a grammar that is right, as the sets use it -/
structure GOk (g : Gr) (k : Nat) : Prop where
  hk : g.k = (k : Int)
  k1 : 1 ≤ k
  k4 : k ≤ 4
  tk : 1 ≤ g.toks.length ∧ g.toks.length ≤ 8
  nm : 1 ≤ g.names.length ∧ g.names.length ≤ 8
  pl : g.prods.length ≤ 24
  st : 16 ≤ g.start ∧ g.start < 16 + (g.names.length : Int)
  pr : ∀ p ∈ g.prods, (16 ≤ p.left ∧ p.left < 16 + (g.names.length : Int)) ∧ p.right.length ≤ 6 ∧ ∀ s ∈ p.right, (0 ≤ s ∧ s < g.toks.length) ∨ (16 ≤ s ∧ s < 16 + (g.names.length : Int))
theorem fullB_iff (g : Gr) : fullB g = true ↔ g.toks.length ≤ 8 ∧ g.names.length ≤ 8 ∧ g.prods.length ≤ 24 ∧ ∀ p ∈ g.prods, p.right.length ≤ 6 := by
  simp [fullB]
theorem shortB_iff (g : Gr) : shortB g = false ↔ 1 ≤ g.toks.length ∧ 1 ≤ g.names.length := by
  unfold shortB
  rw [Bool.or_eq_false_iff, decide_eq_false_iff_not, decide_eq_false_iff_not]
  omega
theorem symB_iff (g : Gr) : symB g = true ↔ (16 ≤ g.start ∧ g.start < 16 + (g.names.length : Int)) ∧ ∀ p ∈ g.prods, (16 ≤ p.left ∧ p.left < 16 + (g.names.length : Int)) ∧ ∀ s ∈ p.right, (0 ≤ s ∧ s < (g.toks.length : Int)) ∨ (16 ≤ s ∧ s < 16 + (g.names.length : Int)) := by
  unfold symB ntB tmB
  rw [Bool.and_eq_true, decide_eq_true_iff, List.all_eq_true]
  refine and_congr Iff.rfl (forall_congr' fun p => imp_congr Iff.rfl ?_)
  rw [Bool.and_eq_true, decide_eq_true_iff, List.all_eq_true]
  refine and_congr Iff.rfl (forall_congr' fun s => imp_congr Iff.rfl ?_)
  rw [Bool.or_eq_true, decide_eq_true_iff, decide_eq_true_iff]
theorem gchk_iff (g : Gr) : gchk g = 0 ↔ (1 ≤ g.k ∧ g.k ≤ 4) ∧ fullB g = true ∧ shortB g = false ∧ nameB g = true ∧ diffB g = true ∧ symB g = true ∧ ordB g = true ∧ compB g = true := by
  unfold gchk
  by_cases h1 : g.k < 1 ∨ 4 < g.k
  · rw [if_pos h1]; constructor
    · intro h; cases h
    · rintro ⟨⟨a, b⟩, _⟩; omega
  · rw [if_neg h1]
    have h1' : 1 ≤ g.k ∧ g.k ≤ 4 := by omega
    cases fullB g <;> cases shortB g <;> cases nameB g <;> cases diffB g <;> cases symB g <;> cases ordB g <;> cases compB g <;> simp [h1']
theorem gok_of {g : Gr} (h : gchk g = 0) : GOk g g.k.toNat := by
  obtain ⟨⟨h1, h2⟩, h3, h4, _, _, h5, _, _⟩ := (gchk_iff g).1 h
  obtain ⟨f1, f2, f3, f4⟩ := (fullB_iff g).1 h3
  obtain ⟨s1, s2⟩ := (shortB_iff g).1 h4
  obtain ⟨y1, y2⟩ := (symB_iff g).1 h5
  exact ⟨by omega, by omega, by omega, ⟨s1, f1⟩, ⟨s2, f2⟩, f3, y1, fun p hp => ⟨(y2 p hp).1, f4 p hp, (y2 p hp).2⟩⟩

/-- number i, made small -/
def numA (l : List Int) (i : Nat) : Int := l.getD i 0 % 1073741824
theorem numA_bd (l : List Int) (i : Nat) : 0 ≤ numA l i ∧ numA l i < 1073741824 := by unfold numA; omega
def symA (t m z : Int) : Int := if z % 5 < 3 then z % t else 16 + z % m
def digA (y : Int) (s : Nat) : Int := y / 4 / (16 ^ s : Nat) % 16
def rightA (t m y : Int) : List Int := (List.range (y % 4).toNat).map fun s => symA t m (digA y s)
def prA (l : List Int) (t m : Int) (i j : Nat) : Pr := ⟨16 + (i : Int), rightA t m (numA l (4 + 3 * i + j))⟩
def addA (l : List Int) (t m : Int) (i : Nat) (ps : List Pr) (j : Nat) : List Pr := if ps.length < 7 then ps ++ [prA l t m i j] else ps
def rowA (l : List Int) (t m : Int) (i : Nat) (ps : List Pr) : List Pr := (List.range ((numA l (1 + i) % 3).toNat + 1)).foldl (addA l t m i) ps
def prodsA (l : List Int) (t m : Int) (n : Nat) : List Pr := (List.range n).foldl (fun ps i => rowA l t m i ps) []
def nameA (i : Nat) : ByteArray := ⟨#[UInt8.ofNat (83 + i)]⟩
def toksA (t : Nat) : List ByteArray := [(⟨#[97]⟩ : ByteArray), ⟨#[98]⟩].take t
def tA (l : List Int) : Nat := 1 + (numA l 0 / 2 % 2).toNat
def mA (l : List Int) : Nat := 1 + (numA l 0 / 4 % 3).toNat
def anyG (l : List Int) : Gr := ⟨1 + numA l 0 % 2, toksA (tA l), ⟨#[122]⟩, (List.range (mA l)).map nameA, 16, prodsA l (tA l) (mA l) (mA l)⟩

theorem tA_bd (l : List Int) : tA l = 1 ∨ tA l = 2 := by unfold tA; omega
theorem mA_bd (l : List Int) : mA l = 1 ∨ mA l = 2 ∨ mA l = 3 := by unfold mA; omega
theorem toksA_len (t : Nat) (h : t = 1 ∨ t = 2) : (toksA t).length = t := by rcases h with rfl | rfl <;> rfl

/-- a production made of numbers is right -/
def PrRight (t m : Nat) (p : Pr) : Prop := p.right.length ≤ 3 ∧ ∀ s ∈ p.right, (0 ≤ s ∧ s < (t : Int)) ∨ (16 ≤ s ∧ s < 16 + (m : Int))
theorem symA_right (t m : Nat) (ht : 1 ≤ t) (hm : 1 ≤ m) (z : Int) (hz : 0 ≤ z) : (0 ≤ symA t m z ∧ symA t m z < (t : Int)) ∨ (16 ≤ symA t m z ∧ symA t m z < 16 + (m : Int)) := by
  unfold symA
  split
  · left; exact ⟨Int.emod_nonneg _ (by omega), Int.emod_lt_of_pos _ (by omega)⟩
  · right
    have := Int.emod_nonneg z (show (m : Int) ≠ 0 by omega)
    have := Int.emod_lt_of_pos z (show (0 : Int) < m by omega)
    omega
theorem prA_right (l : List Int) (t m : Nat) (ht : 1 ≤ t) (hm : 1 ≤ m) (i j : Nat) : PrRight t m (prA l t m i j) := by
  refine ⟨by simp only [prA, rightA, List.length_map, List.length_range]; omega, ?_⟩
  intro s hs
  simp only [prA, rightA, List.mem_map] at hs
  obtain ⟨d, _, rfl⟩ := hs
  exact symA_right t m ht hm _ (by unfold digA; omega)
/-- what holds of the productions when i nonterminals have theirs -/
structure RowsA (t m i : Nat) (ps : List Pr) : Prop where
  right : ∀ p ∈ ps, PrRight t m p
  left : ∀ p ∈ ps, 16 ≤ p.left ∧ p.left < 16 + (i : Int)
  asc : ps.Pairwise fun p q => p.left ≤ q.left
  all : ∀ j : Nat, j < i → ∃ p ∈ ps, p.left = 16 + (j : Int)
  len : ps.length ≤ 7
theorem addA_facts (l : List Int) (t m : Nat) (ht : 1 ≤ t) (hm : 1 ≤ m) (i : Nat) {ps : List Pr} (h1 : ∀ p ∈ ps, PrRight t m p) (h2 : ∀ p ∈ ps, 16 ≤ p.left ∧ p.left < 16 + ((i + 1 : Nat) : Int)) (h3 : ps.Pairwise fun p q => p.left ≤ q.left) (h5 : ps.length ≤ 7) (j : Nat) :
    (∀ p ∈ addA l t m i ps j, PrRight t m p) ∧ (∀ p ∈ addA l t m i ps j, 16 ≤ p.left ∧ p.left < 16 + ((i + 1 : Nat) : Int)) ∧ (addA l t m i ps j).Pairwise (fun p q => p.left ≤ q.left) ∧ (addA l t m i ps j).length ≤ 7 ∧ (∀ p ∈ ps, p ∈ addA l t m i ps j) ∧ (addA l t m i ps j).length ≤ ps.length + 1 := by
  unfold addA
  split
  · rename_i h
    refine ⟨?_, ?_, ?_, by simp; omega, fun p hp => List.mem_append_left _ hp, by simp⟩
    · intro p hp
      rcases List.mem_append.1 hp with h | h
      · exact h1 p h
      · simp at h; subst h; exact prA_right l t m ht hm i j
    · intro p hp
      rcases List.mem_append.1 hp with h | h
      · exact h2 p h
      · simp at h; subst h; simp only [prA]; omega
    · rw [List.pairwise_append]
      refine ⟨h3, List.pairwise_singleton _ _, fun p hp q hq => ?_⟩
      simp at hq; subst hq
      have := h2 p hp
      simp only [prA]; omega
  · exact ⟨h1, h2, h3, h5, fun p hp => hp, by omega⟩
theorem foldA_facts (l : List Int) (t m : Nat) (ht : 1 ≤ t) (hm : 1 ≤ m) (i : Nat) : ∀ (js : List Nat) {ps : List Pr} (h1 : ∀ p ∈ ps, PrRight t m p) (h2 : ∀ p ∈ ps, 16 ≤ p.left ∧ p.left < 16 + ((i + 1 : Nat) : Int)) (h3 : ps.Pairwise fun p q => p.left ≤ q.left) (h5 : ps.length ≤ 7),
    (∀ p ∈ js.foldl (addA l t m i) ps, PrRight t m p) ∧ (∀ p ∈ js.foldl (addA l t m i) ps, 16 ≤ p.left ∧ p.left < 16 + ((i + 1 : Nat) : Int)) ∧ (js.foldl (addA l t m i) ps).Pairwise (fun p q => p.left ≤ q.left) ∧ (js.foldl (addA l t m i) ps).length ≤ 7 ∧ (∀ p ∈ ps, p ∈ js.foldl (addA l t m i) ps) ∧ (js.foldl (addA l t m i) ps).length ≤ ps.length + js.length
  | [], ps, h1, h2, h3, h5 => ⟨h1, h2, h3, h5, fun p hp => hp, by simp⟩
  | j :: js, ps, h1, h2, h3, h5 => by
    obtain ⟨a1, a2, a3, a4, a5, a6⟩ := addA_facts l t m ht hm i h1 h2 h3 h5 j
    obtain ⟨b1, b2, b3, b4, b5, b6⟩ := foldA_facts l t m ht hm i js a1 a2 a3 a4
    refine ⟨b1, b2, b3, b4, fun p hp => b5 p (a5 p hp), ?_⟩
    simp only [List.foldl_cons, List.length_cons]
    omega
theorem rowA_len (l : List Int) (t m : Nat) (ht : 1 ≤ t) (hm : 1 ≤ m) (i : Nat) {ps : List Pr} (h : RowsA t m i ps) : (rowA l t m i ps).length ≤ ps.length + 3 := by
  obtain ⟨_, _, _, _, _, b6⟩ := foldA_facts l t m ht hm i (List.range ((numA l (1 + i) % 3).toNat + 1)) h.right (fun p hp => by have := h.left p hp; omega) h.asc h.len
  rw [List.length_range] at b6
  unfold rowA; omega
theorem rowA_facts (l : List Int) (t m : Nat) (ht : 1 ≤ t) (hm : 1 ≤ m) (i : Nat) {ps : List Pr} (h : RowsA t m i ps) (h6 : ps.length ≤ 6) : RowsA t m (i + 1) (rowA l t m i ps) := by
  obtain ⟨b1, b2, b3, b4, b5, b6⟩ := foldA_facts l t m ht hm i (List.range ((numA l (1 + i) % 3).toNat + 1)) h.right (fun p hp => by have := h.left p hp; omega) h.asc h.len
  refine ⟨b1, b2, b3, fun j hj => ?_, b4⟩
  by_cases hji : j < i
  · obtain ⟨p, hp, e⟩ := h.all j hji
    exact ⟨p, b5 p hp, e⟩
  · have : j = i := by omega
    subst this
    unfold rowA
    rw [List.range_succ_eq_map, List.foldl_cons]
    have ha : addA l t m j ps 0 = ps ++ [prA l t m j 0] := by unfold addA; rw [if_pos (by omega)]
    obtain ⟨a1, a2, a3, a4, _, _⟩ := addA_facts l t m ht hm j h.right (fun p hp => by have := h.left p hp; omega) h.asc h.len 0
    obtain ⟨_, _, _, _, c5, _⟩ := foldA_facts l t m ht hm j ((List.range (numA l (1 + j) % 3).toNat).map Nat.succ) a1 a2 a3 a4
    exact ⟨prA l t m j 0, c5 _ (by rw [ha]; simp), rfl⟩
theorem prodsA_facts (l : List Int) (t m : Nat) (ht : 1 ≤ t) (hm : 1 ≤ m) : ∀ n, n ≤ 3 → RowsA t m n (prodsA l t m n) ∧ (prodsA l t m n).length ≤ 3 * n
  | 0, _ => ⟨⟨by simp [prodsA], by simp [prodsA], by simp [prodsA], by omega, by simp [prodsA]⟩, by simp [prodsA]⟩
  | n + 1, h => by
    obtain ⟨h1, h2⟩ := prodsA_facts l t m ht hm n (by omega)
    have e : prodsA l t m (n + 1) = rowA l t m n (prodsA l t m n) := by simp [prodsA, List.range_succ]
    rw [e]
    have := rowA_len l t m ht hm n h1
    exact ⟨rowA_facts l t m ht hm n h1 (by omega), by omega⟩
theorem ordB_asc {g : Gr} (h : g.prods.Pairwise fun p q => p.left ≤ q.left) : ordB g = true := by
  unfold ordB
  rw [List.all_eq_true]
  intro i hi
  have hi := List.mem_range.1 hi
  by_cases h0 : i = 0
  · simp [h0]
  · have := List.pairwise_iff_getElem.1 h (i - 1) i (by omega) hi (by omega)
    simp [List.getD_eq_getElem?_getD, hi, show i - 1 < g.prods.length by omega, this]
theorem namesA_ok (t m : Nat) (ht : t = 1 ∨ t = 2) (hm : m = 1 ∨ m = 2 ∨ m = 3) : nameB ⟨1, toksA t, ⟨#[122]⟩, (List.range m).map nameA, 16, []⟩ = true ∧ diffB ⟨1, toksA t, ⟨#[122]⟩, (List.range m).map nameA, 16, []⟩ = true := by
  rcases ht with rfl | rfl <;> rcases hm with rfl | rfl | rfl <;> exact ⟨by decide +kernel, by decide +kernel⟩
/-- a grammar made of numbers is right -/
theorem anyG_ok (l : List Int) : gchk (anyG l) = 0 := by
  obtain ⟨⟨r1, r2, r3, r4, r5⟩, _⟩ := prodsA_facts l (tA l) (mA l) (by unfold tA; omega) (by unfold mA; omega) (mA l) (by unfold mA; omega)
  have ht := tA_bd l
  have hm := mA_bd l
  have hn := numA_bd l 0
  have hts := toksA_len (tA l) ht
  have hml : ((anyG l).names.length : Int) = (mA l : Int) := by simp [anyG]
  have htl : ((anyG l).toks.length : Int) = (tA l : Int) := by simp [anyG, hts]
  rw [gchk_iff]
  refine ⟨by simp only [anyG]; omega, ?_, ?_, ?_, ?_, ?_, ?_, ?_⟩
  · rw [fullB_iff]
    refine ⟨by omega, by omega, by simp only [anyG]; omega, fun p hp => ?_⟩
    have := (r1 p hp).1
    omega
  · rw [shortB_iff]; omega
  · have e : nameB (anyG l) = nameB ⟨1, toksA (tA l), ⟨#[122]⟩, (List.range (mA l)).map nameA, 16, []⟩ := rfl
    rw [e]
    exact (namesA_ok _ _ ht hm).1
  · have e : diffB (anyG l) = diffB ⟨1, toksA (tA l), ⟨#[122]⟩, (List.range (mA l)).map nameA, 16, []⟩ := rfl
    rw [e]
    exact (namesA_ok _ _ ht hm).2
  · rw [symB_iff, hml, htl]
    refine ⟨by simp only [anyG]; omega, fun p hp => ⟨?_, (r1 p hp).2⟩⟩
    have := r2 p hp
    omega
  · exact ordB_asc r3
  · unfold compB
    rw [List.all_eq_true]
    intro i hi
    have hi := List.mem_range.1 hi
    obtain ⟨p, hp, e⟩ := r4 i (by omega)
    rw [List.any_eq_true]
    exact ⟨p, hp, decide_eq_true e⟩
end Go.Proofs.Ytnnkfgekiaaehaa
