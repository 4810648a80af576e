/- Walks and plain laws, part 2 of 30: follow.joined; slices.Compare, cmp.Or, cmp.Compare at ints; the order of a set's looks; the order of a set's looks: the closure of sorted; slices.SortFunc at the looks of a set; (follow.set).sorted; The looks there are; what tail computes; follow.tail; Own sets; FIRST as a predicate; One round of begins, plainly; follow.begins; FOLLOW as a predicate; its laws; follow.uses: the places behind whose dot a wanted symbol stands; follow.all: what stands in memory; the marks of the loops; follow.all: the walk; follow.Of; FOLLOW of a given grammar, reckoned; the chapter's example; Productions of the call's own; The kit's OwnGrammar; The kit's Any; look.Check; look.of and look.Check: no draw is taken back (tools/mkWg.py); look.right at right looks: no draw taken back; look.Compare at right looks: no draw taken back; the order of first.sorted, and slices.SortFunc with it; maps.Keys over the looks of a map, as an iterator; maps.Keys over the looks of a map, as an iterator: its contract; slices.AppendSeq(nil, maps.Keys(m)) over looks. Conditions: none beyond those that each theorem states. -/
import Derived.Test.YtjnmkdahbcmfaaaGreatB1
import Derived.Sort.Grow
import Derived.Shelf.SlSortCmp.NoneTotal
import Derived.Shelf.Lay
import Derived.Ground.SlsfProg
import Derived.Deep.RegionHeld3
import Derived.Deep.OwnRows
import Derived.WalkMore
import Derived.Deep.LoopGhost
import Derived.Laws.IdiomStrings
import Derived.Laws.CopyOwn
import Derived.RangeFuncNested
import Derived.RangeFuncBound
import Derived.RangeFuncCalls
import Derived.RangeFuncLeaves
import Derived.RangeFuncBox
import Derived.Shelf.Abstract
import Derived.Shelf.RegionOpen
import Derived.OwnWalkIn
import Derived.TacticsInMore
import Derived.LoopNIn
import Derived.LoopIn
import Derived.Sort.MapsRangeIn
import Derived.Sort.LoopGhostIn
/- follow.joined. -/
namespace Go.Proofs.YtjnmkdahbcmfaaaGreat
open Go.ChangeShapes Go.WideShapes Go.ChangeAt Go.RowKit
set_option linter.unusedVariables false
def addL (s : List Lk) (z : Lk) : List Lk := if z ∈ s then s else s ++ [z]
def addAll (s l : List Lk) : List Lk := l.foldl addL s
def rowJ (k : Nat) (x : Lk) (lb : List Lk) : List Lk := lb.map (lplus k x)
def sumsJ (k : Nat) (la lb : List Lk) : List Lk := la.flatMap fun x => rowJ k x lb
def lookKey : KeyEnc Lk where
  K := 45
  enc := Lk.v
  ok := Lk.wf
  keyed := lookKeyed
  key := look_key
  inj := fun _ _ h => Lk.v_inj h
def lay5 (W : World) (x : Lk) : World := W.alloc (.cells #[.int .i64 x.n, .int .i64 x.a, .int .i64 x.b, .int .i64 x.c, .int .i64 x.d] 45)
theorem lay5_blk (W : World) (x : Lk) : Blk (lay5 W x) W.heap.size 45 x.cells := Blk.new W 45 _
theorem lay5_below (W : World) (x : Lk) : Below W.heap.size W (lay5 W x) := bAlc (Below.refl _ _) _
theorem grown_of_below {W W' : World} (h : Below W.heap.size W W') : W.grownBy W' none := ⟨h.os, h.tape, h.output, h.size, fun i hi _ => h.block i hi⟩
def JW (w : World) (b Bk k : Nat) (A1 A2 : Option Addr) (n1 n2 : Nat) (la lb : List Lk) (cur : List Lk) (W : World) : Prop :=
  MapK lookKey W b cur ∧ w.grownBy W (some b) ∧ RdL W w.heap.size A1 n1 la ∧ RdL W w.heap.size A2 n2 lb ∧ W.cell? ⟨Bk, 0, none⟩ = some (.int .i64 k) ∧ b < w.heap.size ∧ Bk < w.heap.size
section
variable {w W W' : World} {b Bk k : Nat} {A1 A2 : Option Addr} {n1 n2 : Nat} {la lb cur cur' : List Lk}
theorem JW.step (h : JW w b Bk k A1 A2 n1 n2 la lb cur W) (hb : Below W.heap.size W W') : JW w b Bk k A1 A2 n1 n2 la lb cur W' :=
  ⟨h.1.step hb, h.2.1.andThen (grown_of_below hb) (fun j hj => by cases hj), h.2.2.1.below (hb.mono h.2.1.size), h.2.2.2.1.below (hb.mono h.2.1.size), cell_later hb h.2.2.2.2.1, h.2.2.2.2.2⟩
theorem rdl_map {A : Option Addr} {n B : Nat} {l : List Lk} (h : RdL W B A n l) (hm : MapK lookKey W b cur) (hg : W.grownBy W' (some b)) (hB : B ≤ W.heap.size) : RdL W' B A n l := by
  refine ⟨h.1, ?_⟩
  rcases h.2 with h0 | ⟨g, off, rfl, hlt, hc⟩
  · exact .inl h0
  · by_cases hn : l = []
    · left; rw [← h.1, hn]; rfl
    · refine .inr ⟨g, off, rfl, hlt, fun i x hx j hj => ?_⟩
      have hcc := hc i x hx j hj
      have hne : g ≠ b := by
        rintro rfl
        obtain ⟨es, clock, hb, _⟩ := hm
        have hj5 : ∃ v, x.cells[j]? = some v := ⟨x.cells[j]'(by simpa [Lk.cells] using hj), by simp⟩
        obtain ⟨v, hv⟩ := hj5
        rw [hv] at hcc
        simp [World.cell?, hb] at hcc
      exact (World.cell?_of_block (a := ⟨g, off + i * 5 + j, none⟩) (hg.block g (by omega) (by simpa using hne))).trans hcc
theorem cell_map {a : Addr} {v : Value} (h : W.cell? a = some v) (hm : MapK lookKey W b cur) (hg : W.grownBy W' (some b)) : W'.cell? a = some v := by
  refine hg.cell h ?_
  intro e
  injection e with e
  obtain ⟨es, clock, hb, _⟩ := hm
  rw [← e] at hb
  simp [World.cell?, hb] at h
theorem JW.turned (h : JW w b Bk k A1 A2 n1 n2 la lb cur W) (ht : W.mapTurned W' b) (hm : MapK lookKey W' b cur') : JW w b Bk k A1 A2 n1 n2 la lb cur' W' :=
  ⟨hm, h.2.1.andThen (turned_grown ht) (fun j hj => by cases hj; exact .inr rfl), rdl_map h.2.2.1 h.1 (turned_grown ht) h.2.1.size, rdl_map h.2.2.2.1 h.1 (turned_grown ht) h.2.1.size, cell_map h.2.2.2.2.1 h.1 (turned_grown ht), h.2.2.2.2.2⟩
end
end Go.Proofs.YtjnmkdahbcmfaaaGreat

/- slices.Compare, cmp.Or, cmp.Compare at ints; the order of a set's looks. -/
namespace Go.Proofs.YtjnmkdahbcmfaaaGreat
open Go.ChangeShapes Go.WideShapes Go.ChangeAt Go.RowKit
set_option linter.unusedVariables false
theorem isnan_any (x : Int) (w : World) : Calls Tryz.prog 315 #[.int .i64 x] w fun e w' => e = .returned (.bool false) ∧ w = w' := by
  go_enter Tryz.func315, Tryz.ntmps315
  go_wp2_with fail
  go_ret
  exact ⟨by simp, rfl⟩
def cmp1 (x y : Int) : Int := if x < y then -1 else if y < x then 1 else 0
theorem cmp1_any (x y : Int) (w : World) : Calls Tryz.prog 303 #[.int .i64 x, .int .i64 y] w fun e w' => e = .returned (.int .i64 (cmp1 x y)) ∧ w = w' := by
  have hn := Lib.hid isnan_any
  unfold cmp1
  by_cases h1 : x < y
  · rw [if_pos h1]
    go_enter Tryz.func303, Tryz.ntmps303
    go_wp2_with (go_at_call 315; refine (hn.out _ _).mono ?_; rintro e w1 ⟨rfl, rfl⟩)
    go_ret
    exact ⟨rfl, rfl⟩
  · rw [if_neg h1]
    by_cases h2 : y < x
    · rw [if_pos h2]
      go_enter Tryz.func303, Tryz.ntmps303
      go_wp2_with (go_at_call 315; refine (hn.out _ _).mono ?_; rintro e w1 ⟨rfl, rfl⟩)
      go_ret
      exact ⟨rfl, rfl⟩
    · rw [if_neg h2]
      go_enter Tryz.func303, Tryz.ntmps303
      go_wp2_with (go_at_call 315; refine (hn.out _ _).mono ?_; rintro e w1 ⟨rfl, rfl⟩)
      go_ret
      exact ⟨rfl, rfl⟩
set_option maxHeartbeats 1000000 in
theorem slicescmp_any (A1 A2 : Option Addr) (n1 n2 c1 c2 : Nat) (t u : List Int) (w : World) (B : Nat) (ha : Rd1 w B A1 n1 (ints t)) (hb : Rd1 w B A2 n2 (ints u)) (hn1 : n1 ≤ 1000000) (hn2 : n2 ≤ 1000000) :
    Calls Tryz.prog 302 #[.slice A1 n1 c1, .slice A2 n2 c2] w fun e w' => e = .returned (.int .i64 (cmpI t u)) ∧ w = w' := by
  have hl1 : t.length = n1 := by have := ha.1; simpa [ints] using this
  have hl2 : u.length = n2 := by have := hb.1; simpa [ints] using this
  have hQ := Lib.hid (cmpI_part t u)
  have hL := Lib.hid (cmpI_all t u)
  have hn := Lib.hid cmp1_any
  obtain ⟨R, hR⟩ : ∃ R, R = cmpI t u := ⟨_, rfl⟩
  rw [← hR] at hQ hL ⊢
  clear hR
  replace hl1 := Lib.hid hl1
  replace hl2 := Lib.hid hl2
  go_enter Tryz.func302, Tryz.ntmps302
  go_wp2_with fail
  go_loopg [11] n1 (fun gk s11 wr => ∃ j : Nat, s11 = .int .i64 j ∧ j + gk = n1 ∧ j ≤ n2 ∧ Hid (∀ i, i < j → t.getD i 0 = u.getD i 0) ∧ w = wr)
  case atStart => exact ⟨0, rfl, by omega, by omega, Lib.hid (by intro i h; omega), rfl⟩
  case round =>
    obtain ⟨j, rfl, hj, hj2, hE, rfl⟩ := hrel
    replace hj := Lib.hid hj
    by_cases hjn : j < n1
    · have hjt : j < t.length := by have := hl1.out; omega
      have hxi : (ints t)[j]? = some (.int .i64 t[j]) := by simp [ints, hjt]
      have hgx : t.getD j 0 = t[j] := by simp [List.getD_eq_getElem?_getD, hjt]
      obtain ⟨b1, off1, rfl, hbt1, x0⟩ := ha.get hxi
      generalize t[j] = x at *
      have hz1 : (0 : Int) ≤ j := by omega
      have hz2 : (j : Int) < n1 := by omega
      replace hxi := Lib.hid hxi
      replace hgx := Lib.hid hgx
      by_cases hju : j < n2
      · have hjt2 : j < u.length := by have := hl2.out; omega
        have hyi : (ints u)[j]? = some (.int .i64 u[j]) := by simp [ints, hjt2]
        have hgy : u.getD j 0 = u[j] := by simp [List.getD_eq_getElem?_getD, hjt2]
        obtain ⟨b2, off2, rfl, hbt2, y0⟩ := hb.get hyi
        generalize u[j] = y at *
        have hz3 : (j : Int) < n2 := by omega
        replace hyi := Lib.hid hyi
        replace hgy := Lib.hid hgy
        by_cases hxy : x = y
        · subst hxy
          have hcc : Hid (cmp1 x x = 0) := Lib.hid (by simp [cmp1])
          have hE2 : Hid (∀ i, i < j + 1 → t.getD i 0 = u.getD i 0) := Lib.hid (fun i hi => by
            rcases Nat.lt_succ_iff_lt_or_eq.1 hi with h | rfl
            · exact hE.out i h
            · rw [hgx.out, hgy.out])
          go_wp2_with (go_at_call 303; refine (hn.out _ _ _).mono ?_; rintro e w1 ⟨rfl, rfl⟩; rw [hcc.out])
          go_roundg (n1 - (j + 1))
          case measure => have := hj.out; omega
          case rel => exact ⟨j + 1, by go_num, by have := hj.out; omega, by omega, hE2, rfl⟩
        · have hR2 : R = cmp1 x y := by
            rw [hQ.out j hjt hjt2 hE.out (by rw [hgx.out, hgy.out]; exact hxy), hgx.out, hgy.out]
            unfold cmp1
            by_cases h : x < y
            · rw [if_pos h, if_pos h]
            · rw [if_neg h, if_neg h, if_pos (by omega)]
          have hc0 : (R == 0) = false := by rw [hR2]; unfold cmp1; split <;> (try split) <;> simp; omega
          have hc1 : (R != 0) = true := by simpa using hc0
          replace hR2 := Lib.hid hR2
          clear hxy
          go_wp2_with (go_at_call 303; refine (hn.out _ _ _).mono ?_; rintro e w1 ⟨rfl, rfl⟩; rw [← hR2.out])
          go_ret
          exact ⟨rfl, rfl⟩
      · have hR2 : R = 1 := by
          rw [hL.out (fun i h1 h2 => hE.out i (by have := hl2.out; omega)), if_neg (by have := hl2.out; omega), if_pos (by have := hl2.out; omega)]
        subst hR2
        have hz3 : (n2 : Int) ≤ j := by omega
        go_wp2_with fail
        go_ret
        exact ⟨rfl, rfl⟩
    · have hR1 : R = if n1 < n2 then -1 else 0 := by
        rw [hL.out (fun i h1 h2 => hE.out i (by have := hl1.out; omega)), hl1.out, hl2.out]
        by_cases h : n1 < n2
        · rw [if_pos h, if_pos h]
        · rw [if_neg h, if_neg h, if_neg (by have := hj.out; omega)]
      by_cases h12 : n1 < n2
      · rw [if_pos h12] at hR1
        subst hR1
        go_wp2_with fail
        go_ret
        exact ⟨rfl, rfl⟩
      · rw [if_neg h12] at hR1
        subst hR1
        go_wp2_with fail
        go_ret
        exact ⟨rfl, rfl⟩
def or2 (x y : Int) : Int := if x = 0 then y else x
set_option maxHeartbeats 1000000 in
theorem or2_any (x y : Int) (B : Nat) (w : World) (h0 : w.cell? ⟨B, 0, none⟩ = some (.int .i64 x)) (h1 : w.cell? ⟨B, 1, none⟩ = some (.int .i64 y)) :
    Calls Tryz.prog 301 #[.slice (some ⟨B, 0, none⟩) 2 2] w fun e w' => e = .returned (.int .i64 (or2 x y)) ∧ w = w' := by
  unfold or2
  by_cases hx : x = 0
  · subst hx
    rw [if_pos rfl]
    by_cases hy : y = 0
    · subst hy
      go_enter Tryz.func301, Tryz.ntmps301
      go_wp2_with fail
      go_loopg [8] 2 (fun gk s8 wr => ∃ j : Nat, s8 = .int .i64 j ∧ j + gk = 2 ∧ w = wr)
      case atStart => exact ⟨0, rfl, by omega, rfl⟩
      case round =>
        obtain ⟨j, rfl, hj, rfl⟩ := hrel
        rcases (show j = 0 ∨ j = 1 ∨ j = 2 by omega) with rfl | rfl | rfl
        · go_wp2_with fail
          go_roundg 1
          case measure => omega
          case rel => exact ⟨1, by go_num, by omega, rfl⟩
        · go_wp2_with fail
          go_roundg 0
          case measure => omega
          case rel => exact ⟨2, by go_num, by omega, rfl⟩
        · go_wp2_with fail
          go_ret
          exact ⟨rfl, rfl⟩
    · have hy1 : (y == 0) = false := by simpa using hy
      have hy2 : (y != 0) = true := by simpa using hy
      go_enter Tryz.func301, Tryz.ntmps301
      go_wp2_with fail
      go_loopg [8] 2 (fun gk s8 wr => ∃ j : Nat, s8 = .int .i64 j ∧ j ≤ 1 ∧ j + gk = 2 ∧ w = wr)
      case atStart => exact ⟨0, rfl, by omega, by omega, rfl⟩
      case round =>
        obtain ⟨j, rfl, hj1, hj, rfl⟩ := hrel
        rcases (show j = 0 ∨ j = 1 by omega) with rfl | rfl
        · go_wp2_with fail
          go_roundg 1
          case measure => omega
          case rel => exact ⟨1, by go_num, by omega, by omega, rfl⟩
        · go_wp2_with fail
          go_ret
          exact ⟨rfl, rfl⟩
  · rw [if_neg hx]
    have hx1 : (x == 0) = false := by simpa using hx
    have hx2 : (x != 0) = true := by simpa using hx
    go_enter Tryz.func301, Tryz.ntmps301
    go_wp2_with fail
    go_loopg [8] 2 (fun gk s8 wr => s8 = .int .i64 0 ∧ w = wr)
    case atStart => exact ⟨rfl, rfl⟩
    case round =>
      obtain ⟨rfl, rfl⟩ := hrel
      go_wp2_with fail
      go_ret
      exact ⟨rfl, rfl⟩
end Go.Proofs.YtjnmkdahbcmfaaaGreat

/- the order of a set's looks: the closure of sorted. -/
namespace Go.Proofs.YtjnmkdahbcmfaaaGreat
open Go.ChangeShapes Go.WideShapes Go.ChangeAt Go.RowKit Go.Sort
set_option linter.unusedVariables false
theorem rd_look {W : World} {g : Nat} {x : Lk} {m : Int} (h : Blk W g 45 x.cells) (hx : x.right m) : Rd1 W (g + 1) (some ⟨g, 1, none⟩) x.l.length (ints x.l) := by
  refine ⟨by simp [ints], .inr ⟨g, 1, rfl, by omega, fun i v hv => ?_⟩⟩
  have hl := right_l hx
  have hi : i < x.l.length := by have := (List.getElem?_eq_some_iff.1 hv).1; simpa [ints] using this
  have h1 : x.cells[1 + i]? = some (.int .i64 (x.s i)) := Lk.cellAt x i (by omega)
  rw [h.cell (1 + i), h1, s_getD hx i]
  simp [ints, hi] at hv
  rw [← hv]
  simp [List.getD_eq_getElem?_getD, hi]
def Grew (w w' : World) : Prop := ∃ (q : Nat) (os : Array Obj), w' = grow (w.drewN q) os
theorem Grew.refl (w : World) : Grew w w := ⟨0, #[], by simp [World.drewN]⟩
theorem Grew.alloc {w w' : World} (h : Grew w w') (o : Obj) : Grew w (w'.alloc o) := by
  obtain ⟨q, os, rfl⟩ := h
  exact ⟨q, os ++ #[o], by rw [alloc_eq_grow, grow_grow]⟩
theorem Grew.drew {w w' : World} (h : Grew w w') : Grew w w'.drew := by
  obtain ⟨q, os, rfl⟩ := h
  exact ⟨q + 1, os, rfl⟩
theorem Grew.below {w w' : World} (h : Grew w w') : Below w.heap.size w w' := by
  obtain ⟨q, os, rfl⟩ := h
  exact ⟨rfl, rfl, rfl, by simp [grow, World.drewN], fun k hk => by simp [grow, World.drewN, Array.getElem?_append_left hk]⟩
def SC (w : World) (x y : Lk) (W : World) : Prop := Blk W w.heap.size 45 x.cells ∧ Blk W (w.heap.size + 1) 45 y.cells ∧ Grew w W
theorem SC.drew {w : World} {x y : Lk} {W : World} (h : SC w x y W) : SC w x y W.drew := ⟨h.1.drew, h.2.1.drew, h.2.2.drew⟩
theorem SC.alloc {w : World} {x y : Lk} {W : World} (h : SC w x y W) (o : Obj) : SC w x y (W.alloc o) := ⟨h.1.alloc _, h.2.1.alloc _, h.2.2.alloc _⟩
theorem SC.cells {w : World} {x y : Lk} {W : World} (h : SC w x y W) : W.cell? ⟨w.heap.size, 0, none⟩ = some (.int .i64 x.n) ∧ W.cell? ⟨w.heap.size + 1, 0, none⟩ = some (.int .i64 y.n) ∧ SC w x y W :=
  ⟨h.1.cell 0, h.2.1.cell 0, h⟩
theorem or2_lcmp {x y : Lk} (n m : Int) (hn : n = x.l.length) (hm : m = y.l.length) : or2 (cmpI x.l y.l) (cmp1 n m) = lcmp x y := by
  unfold or2 lcmp
  by_cases h : cmpI x.l y.l = 0
  · rw [if_pos h, h]
    have := cmpI_eq _ _ h
    rw [hn, hm, this]
    unfold cmp1; simp
  · rw [if_neg h]
set_option maxHeartbeats 2000000 in
theorem setcmp_any (x y : Lk) (w : World) (hx : x.right 8) (hy : y.right 8) : Calls Tryz.prog 300 #[x.v, y.v] w fun e w' => e = .returned (.int .i64 (lcmp x y)) ∧ Grew w w' := by
  have hlx := right_l hx
  have hly := right_l hy
  have h4 := Lib.hid slicescmp_any
  have h5 := Lib.hid cmp1_any
  have h6 := Lib.hid or2_any
  have hR := Lib.hid (or2_lcmp (x := x) (y := y) x.n y.n hlx.1.symm hly.1.symm)
  have hrx := Lib.hid (fun (W : World) (h : SC w x y W) => (rd_look h.1 hx).mono (B' := w.heap.size + 2) (by omega))
  have hry := Lib.hid (fun (W : World) (h : SC w x y W) => (rd_look h.2.1 hy).mono (B' := w.heap.size + 2) (by omega))
  obtain ⟨lx, hlx0⟩ : ∃ lx, lx = x.l.length := ⟨_, rfl⟩
  obtain ⟨ly, hly0⟩ : ∃ ly, ly = y.l.length := ⟨_, rfl⟩
  rw [← hlx0] at hrx hlx
  rw [← hly0] at hry hly
  have hnx : x.n = (lx : Int) := hlx.1.symm
  have hny : y.n = (ly : Int) := hly.1.symm
  have hx4 : lx ≤ 4 := hlx.2.1
  have hy4 : ly ≤ 4 := hly.2.1
  clear hlx hly hlx0 hly0 hx hy
  generalize lcmp x y = R at *
  have hS0 : SC w x y ((w.alloc (.cells x.cells 45)).alloc (.cells y.cells 45)) := ⟨(Blk.new _ _ _).alloc _, Blk.newAt _ _ _ _ (by simp), ((Grew.refl w).alloc _).alloc _⟩
  unfold Lk.v
  unfold Lk.cells at hS0
  rw [hnx] at hS0
  rw [hny] at hS0
  go_enter Tryz.func300, Tryz.ntmps300
  go_wp2_with fail
  rw [hnx, hny]
  generalize (w.alloc (.cells #[.int .i64 lx, .int .i64 x.a, .int .i64 x.b, .int .i64 x.c, .int .i64 x.d] 45)).alloc (.cells #[.int .i64 ly, .int .i64 y.a, .int .i64 y.b, .int .i64 y.c, .int .i64 y.d] 45) = W at *
  have hS1 := hS0.drew
  have hcl := Lib.hid (fun (W : World) (h : SC w x y W) => show W.cell? ⟨w.heap.size, 0, none⟩ = some (.int .i64 lx) ∧ W.cell? ⟨w.heap.size + 1, 0, none⟩ = some (.int .i64 ly) ∧ SC w x y W by rw [← hnx, ← hny]; exact h.cells)
  clear hS0
  have hb0 := Lib.hid ((Blk.newAt W.drew 3 #[.int .i64 (cmpI x.l y.l), .int .i64 (cmp1 lx ly)] W.heap.size rfl).cell 0)
  have hb1 := Lib.hid ((Blk.newAt W.drew 3 #[.int .i64 (cmpI x.l y.l), .int .i64 (cmp1 lx ly)] W.heap.size rfl).cell 1)
  rw [hnx, hny] at hR
  have hz1 : (0 : Int) ≤ lx := by omega
  have hz2 : (0 : Int) ≤ ly := by omega
  have hz3 : (lx : Int) ≤ 4 := by omega
  have hz4 : (ly : Int) ≤ 4 := by omega
  replace hnx := Lib.hid hnx
  replace hny := Lib.hid hny
  go_region_held3 (fun w' => w'.cell? ⟨w.heap.size, 0, none⟩ = some (.int .i64 lx) ∧ w'.cell? ⟨w.heap.size + 1, 0, none⟩ = some (.int .i64 ly) ∧ SC w x y w')
    ((refine hcl.out _ ?_; first | assumption | exact SC.alloc hS1 _))
    (first
      | (go_at_call 302; refine (h4.out _ _ _ _ _ _ x.l y.l _ (w.heap.size + 2) (hrx.out _ hS1) (hry.out _ hS1) (by omega) (by omega)).mono ?_; rintro e w1 ⟨rfl, rfl⟩)
      | (go_at_call 303; refine (h5.out _ _ _).mono ?_; rintro e w1 ⟨rfl, rfl⟩)
      | (go_at_call 301; refine (h6.out (cmpI x.l y.l) (cmp1 lx ly) W.heap.size _ hb0.out hb1.out).mono ?_; rintro e w1 ⟨rfl, rfl⟩; rw [hR.out]))
  all_goals
    go_wp2_with fail
    go_ret
    exact ⟨rfl, (SC.alloc hS1 _).2.2⟩
end Go.Proofs.YtjnmkdahbcmfaaaGreat

/- slices.SortFunc at the looks of a set. -/
namespace Go.Proofs
open Go.Shelf
shelf_lay_g SlLaysF0.n6 Slsf 6 at Tryz 291 as Tryz.sortL
end Go.Proofs
namespace Go.Proofs.YtjnmkdahbcmfaaaGreat
open Go.ChangeShapes Go.WideShapes Go.ChangeAt Go.RowKit Go.Sort Go.Shelf
set_option linter.unusedVariables false
structure RL where
  x : Lk
  h : x.right 8
instance : Inhabited RL := ⟨⟨Lk.of [], nil_right 8 (by omega)⟩⟩
def encR (x : RL) : List Value := x.x.cells.toList
def cfR (x y : RL) : Int := lcmp x.x y.x
theorem encR_len (x : RL) : (encR x).length = 5 := rfl
theorem encR_one (x : RL) : ∀ v ∈ encR x, v.oneCell' = true := by
  intro v hv
  simp [encR, Lk.cells] at hv
  rcases hv with rfl | rfl | rfl | rfl | rfl <;> rfl
theorem ltR (x y : RL) : ltOf cfR x y = decide (lcmp x.x y.x < 0) := rfl
theorem swoR : SWO (ltOf cfR) where
  irrefl x := by rw [ltR, lcmp_refl]; rfl
  trans x y z h1 h2 := by
    rw [ltR] at *
    simp at *
    have a1 : lcmp x.x y.x = -1 := by rcases lcmp_vals x.1 y.1 with h | h | h <;> omega
    have a2 : lcmp y.x z.x = -1 := by rcases lcmp_vals y.1 z.1 with h | h | h <;> omega
    rw [lcmp_trans a1 a2]; omega
  ntrans x y z h1 h2 := by
    rw [ltR] at *
    simp at *
    rcases lcmp_vals x.1 z.1 with h | h | h
    · rcases lcmp_vals x.1 y.1 with g1 | g1 | g1
      · omega
      · have := lcmp_eq x.h y.h g1; rw [this] at h; omega
      · rcases lcmp_vals y.1 z.1 with g2 | g2 | g2
        · omega
        · have := lcmp_eq y.h z.h g2; rw [← this] at h; omega
        · have e1 : lcmp y.x x.x = -1 := by rw [lcmp_anti]; omega
          have e2 : lcmp z.x y.x = -1 := by rw [lcmp_anti]; omega
          have := lcmp_trans e2 e1
          rw [lcmp_anti] at this; omega
    · omega
    · omega
theorem totR (x y : RL) (h1 : ltOf cfR x y = false) (h2 : ltOf cfR y x = false) : x = y := by
  rw [ltR] at *
  simp at h1 h2
  rw [lcmp_anti] at h2
  have e := lcmp_eq x.h y.h (by omega)
  cases x; cases y; simp only at e; subst e; rfl
def mkR : (l : List Lk) → (∀ x ∈ l, x.right 8) → List RL
  | [], _ => []
  | x :: l, h => ⟨x, h x List.mem_cons_self⟩ :: mkR l fun y hy => h y (List.mem_cons_of_mem _ hy)
theorem mkR_map : ∀ (l : List Lk) (h : ∀ x ∈ l, x.right 8), (mkR l h).map RL.x = l
  | [], _ => rfl
  | x :: l, h => by rw [mkR, List.map_cons, mkR_map l]
theorem flatR (ts : List RL) : flatK encR 5 ts.toArray = (cellsL (ts.map RL.x)).toArray := by
  apply Array.ext
  · rw [size_flatK]; simp [cellsL_len]
  · intro t h1 h2
    rw [size_flatK] at h1
    simp only [List.size_toArray] at h1
    have ht : t / 5 < ts.length := by omega
    have e1 : (flatK encR 5 ts.toArray)[t]'(by rw [size_flatK]; simpa using h1) = (encR ts.toArray[t / 5]!)[t % 5]! := by
      rw [← get_flatK encR 5 ts.toArray t (by simpa using h1), getElem!_pos]
    rw [e1]
    have hx : (ts.map RL.x)[t / 5]? = some ts[t / 5].x := by simp [ht]
    have e2 := cellsL_get (ts.map RL.x) (t / 5) ts[t / 5].x hx (t % 5) (by omega)
    rw [show t / 5 * 5 + t % 5 = t by omega] at e2
    have e3 : ts.toArray[t / 5]! = ts[t / 5] := by rw [getElem!_pos ts.toArray (t / 5) (by simpa using ht)]; simp
    rw [e3]
    have hc : t % 5 < ts[t / 5].x.cells.size := by simp [Lk.cells]; omega
    have e4 : (cellsL (ts.map RL.x))[t]? = some ((cellsL (ts.map RL.x)).toArray[t]'h2) := by simp at h2 ⊢
    rw [e4, Array.getElem?_eq_getElem hc] at e2
    injection e2 with e2
    rw [e2]
    have : (encR ts[t / 5])[t % 5]! = (encR ts[t / 5])[t % 5]'(by simpa [encR] using hc) := getElem!_pos _ _ _
    rw [this]; simp [encR]
theorem sorted_is_lset (l : List Lk) (h : ∀ x ∈ l, x.right 8) (hn : l.Nodup) : ((mkR l h).mergeSort fun x y => !(ltOf cfR) y x).map RL.x = lset l := by
  have hp := List.mergeSort_perm (mkR l h) (fun x y => !(ltOf cfR) y x)
  have hw := List.pairwise_mergeSort (le := fun x y => !(ltOf cfR) y x) (fun a b c h1 h2 => by
      simp only [Bool.not_eq_true'] at *
      exact swoR.ntrans c b a h2 h1) (fun a b => by
      cases hh : ltOf cfR b a with
      | false => simp
      | true =>
        have : ltOf cfR a b = false := by
          cases h3 : ltOf cfR a b with
          | false => rfl
          | true => have := swoR.trans _ _ _ hh h3; rw [swoR.irrefl] at this; cases this
        simp [this]) (mkR l h)
  generalize (mkR l h).mergeSort (fun x y => !(ltOf cfR) y x) = m at *
  have hpm : (m.map RL.x).Perm l := by have := hp.map RL.x; rwa [mkR_map] at this
  have hnd : (m.map RL.x).Nodup := hpm.nodup_iff.2 hn
  have hnd2 : m.Pairwise (fun x y => x.x ≠ y.x) := List.pairwise_map.1 hnd
  refine lset_of h ?_ (fun z => hpm.mem_iff)
  unfold Asc
  rw [List.pairwise_map]
  refine (hw.and hnd2).imp fun {x y} hxy => ?_
  obtain ⟨h1, h2⟩ := hxy
  rw [ltR] at h1
  simp at h1
  rcases lcmp_vals x.x y.1 with g | g | g
  · exact g
  · exact absurd (lcmp_eq x.h y.h g) h2
  · rw [lcmp_anti] at h1; omega
theorem holds_ownL {w : World} {g cap base : Nat} {l : List Lk} {cur : Array Value} (hb : w.heap[g]? = some (.cells cur 45 (0, 0))) (ht : cur.toList.take (l.length * 5) = cellsL l) : Holds id w g 0 (cellsL l).toArray := by
  intro j hj
  have hj' : j < (cellsL l).length := by simpa using hj
  have hj2 : j < l.length * 5 := by rw [← cellsL_len]; exact hj'
  refine ⟨?_, by simp [World.frozen?, hb]⟩
  have h1 : (cur.toList.take (l.length * 5))[j]? = (cellsL l)[j]? := by rw [ht]
  rw [List.getElem?_take_of_lt hj2] at h1
  simp only [World.cell?, hb, Nat.zero_add]
  simp only [Option.isSome_none, Bool.false_eq_true, if_false]
  rw [← Array.getElem?_toList, h1]
  simp [hj']
theorem aggR : ∀ w, (isAgg 45).run Tryz.prog w = .ok true w := fun w => by first | exact Tryz.isAgg45 w | rfl
theorem sizeR : ∀ w, (Go.sizeOf 45).run Tryz.prog w = .ok 5 w := fun w => by first | exact Tryz.sizeOf45 w | rfl
theorem sortfunc_any (l : List Lk) (v : Value) (base : Nat) (w : World) (hr : ∀ x ∈ l, x.right 8) (hn : l.Nodup) (hlen : l.length ≤ 1000000) (ho : OwnL w base v l) :
    Calls Tryz.prog 291 #[v, .func (.func 300) #[] #[]] w fun e w' => e = .returned (.tuple #[]) ∧ OwnL w' base v (lset l) ∧ w.grownBy w' v.ownBlock ∧ (lset l).length = l.length := by
  have hll : (lset l).length = l.length := by
    rw [← sorted_is_lset l hr hn, List.length_map, List.length_mergeSort]
    have := congrArg List.length (mkR_map l hr)
    simpa using this
  rcases ho.2 with ⟨rfl, h0⟩ | ⟨g, cap, cur, rfl, hbase, hb, h1, h2, h3, h4⟩
  · have hl0 : l = [] := List.eq_nil_of_length_eq_zero h0
    subst hl0
    refine (AnyF.slices_SortFunc_none Tryz.sortL none 0 (.func (.func 300) #[] #[]) w).mono ?_
    rintro e w' ⟨rfl, rfl⟩
    exact ⟨rfl, ho, ⟨rfl, rfl, rfl, Nat.le_refl _, fun _ _ _ => rfl⟩, hll⟩
  · have hg : g < w.heap.size := (Array.getElem?_eq_some_iff.1 hb).1
    have hH : HoldsK encR 5 w g 0 (mkR l hr).toArray := by
      unfold HoldsK
      rw [flatR, mkR_map]
      exact holds_ownL (cap := cap) (base := base) hb h4
    have hms : (mkR l hr).length = l.length := by simpa using congrArg List.length (mkR_map l hr)
    have hcmp : CmpLays Tryz.prog 300 #[] encR 5 cfR g 0 (mkR l hr).toArray.size w := fun m os dk _ x y => setcmp_any x.x y.x _ x.h y.h
    have eg : ∀ args w, (callFunc 300 args).run Tryz.prog w = .ok (.enter 300 args) w := enters_of Tryz.func300 (by kernel_rfl) rfl
    have hcon := AnyQ.slices_SortFunc_total Tryz.sortL 5 aggR sizeR encR encR_len encR_one cfR swoR 300 #[] g 0 cap (mkR l hr).toArray w eg hcmp hH hg (by simp [hms]; omega) totR
    have hs : (mkR l hr).toArray.size = l.length := by simp [hms]
    rw [hs] at hcon
    refine Calls.mono hcon ?_
    rintro e w' ⟨rfl, n, os, rfl⟩
    have e1 : (mkR l hr).toArray.toList = mkR l hr := rfl
    have e2 : flatK encR 5 ((mkR l hr).mergeSort fun x y => !(ltOf cfR) y x).toArray = (cellsL (lset l)).toArray := by rw [flatR, sorted_is_lset l hr hn]
    unfold sortWorldK putRowK
    rw [e1, e2]
    have hlc : (cellsL (lset l)).length = l.length * 5 := by rw [cellsL_len, hll]
    refine ⟨rfl, ⟨by rw [hll]; exact hlc, .inr ⟨g, cap, putCells id 0 (cellsL (lset l)).toArray cur, by rw [hll], hbase, ?_, by omega, h2, by simp [putCells, h3], ?_⟩⟩, ⟨rfl, rfl, rfl, by simp, fun k hk hne => ?_⟩, hll⟩
    · rw [heap_grow_old _ _ (by simpa using hg)]
      simp [putRow, mapBlock, Sort.ahead, Array.getElem?_modify, hb, onCells]
    · rw [hll]
      apply List.ext_getElem?
      intro j
      by_cases hj : j < l.length * 5
      · have hjc : j < cur.size := by rw [h3]; have := Nat.mul_le_mul_right 5 h1; omega
        rw [List.getElem?_take_of_lt hj, Array.getElem?_toList]
        simp [putCells, hlc, hj, hjc]
      · rw [List.getElem?_take_eq_none (by omega), List.getElem?_eq_none (by omega)]
    · rw [heap_grow_old _ _ (by simpa using hk)]
      have : g ≠ k := fun e => hne (by rw [← e]; rfl)
      simp [putRow, mapBlock, Sort.ahead, Array.getElem?_modify, this]
end Go.Proofs.YtjnmkdahbcmfaaaGreat

/- (follow.set).sorted. -/
namespace Go.Proofs.YtjnmkdahbcmfaaaGreat
open Go.ChangeShapes Go.WideShapes Go.ChangeAt Go.RowKit
set_option linter.unusedVariables false
theorem IterL.step {w w' : World} {b r : Nat} {s out : List Lk} (h : IterL w b r s out) (hb : Below w.heap.size w w') : IterL w' b r s out := h.grown (grown_of_below hb) (by simp) (by simp)
theorem nodup_same {out s : List Lk} (h1 : out.Nodup) (h2 : ∀ x ∈ out, x ∈ s) (h3 : ∀ x ∈ s, x ∈ out) : ∀ z, z ∈ s ↔ z ∈ out := fun z => ⟨h3 z, h2 z⟩
theorem IterL.parts {w : World} {b r : Nat} {s out : List Lk} (h : IterL w b r s out) : out.Nodup ∧ (∀ x ∈ out, x ∈ s) ∧ s.Nodup := by
  obtain ⟨es, clock, since, seen, c0, h1, h2, h3, h4, h5, h6, h7, h8, h9⟩ := h
  exact ⟨h8, h9, h2.2.2.2.1⟩
theorem nodup_len {out s : List Lk} (h1 : out.Nodup) (h2 : ∀ x ∈ out, x ∈ s) : out.length ≤ s.length := by
  induction out generalizing s with
  | nil => simp
  | cons x out ih =>
    obtain ⟨hx, hn⟩ := List.nodup_cons.1 h1
    have hm := h2 x List.mem_cons_self
    have := ih (s := s.erase x) hn (fun y hy => (List.mem_erase_of_ne (by rintro rfl; exact hx hy)).2 (h2 y (List.mem_cons_of_mem _ hy)))
    rw [List.length_erase_of_mem hm] at this
    have : 0 < s.length := List.length_pos_of_mem hm
    simp; omega
set_option maxHeartbeats 2000000 in
theorem sorted_any (b : Nat) (s : List Lk) (w : World) (hm : MapK lookKey w b s) (hr : ∀ x ∈ s, x.right 8) (hlen : s.length ≤ 900000) : Calls Tryz.prog 272 #[.map (some b)] w (RetL w (lset s)) := by
  have hP := Lib.hid (fun (v : Value) (w' : World) (h1 : OwnL w' w.heap.size v (lset s)) (h2 : Below w.heap.size w w') => (show RetL w (lset s) (.returned v) w' from ⟨v, rfl, h1, h2⟩))
  have hS := Lib.hid sortfunc_any
  have hr' := Lib.hid hr
  have hb := hm.lt
  clear hr
  go_enter Tryz.func272, Tryz.ntmps272
  go_wp2_with (at_range; refine wpList_range_look _ under67 rfl _ rfl b s rfl hm ?_; intro w1 hit hb1; go_frame)
  have hsz : w.heap.size < w1.heap.size := by
    obtain ⟨es, clock, since, seen, c0, h1, _, h3, _⟩ := hit
    exact (Array.getElem?_eq_some_iff.1 h3).1
  go_loopg [3] s.length (fun gk s3 wr => ∃ out : List Lk, out.length + gk = s.length ∧ OwnL wr (w.heap.size + 1) s3 out ∧ IterL wr b w.heap.size s out ∧ Below w.heap.size w wr ∧ w.heap.size < wr.heap.size)
  case atStart => exact ⟨[], by simp, OwnL.nil _ _, hit, hb1, hsz⟩
  case round =>
    clear hit hb1 hsz
    obtain ⟨out, hlo, ho, hit, hbw, hsz⟩ := hrel
    replace hlo := Lib.hid hlo
    go_wp2_with (first
      | (at_next; refine wpList_next_look _ rfl _ rfl b w.heap.size s out rfl hit ?_ ?_)
      | go_in)
    · intro hall
      obtain ⟨hn, hsub, hns⟩ := hit.parts
      have hro : ∀ x ∈ out, x.right 8 := fun x hx => hr'.out x (hsub x hx)
      have hls : lset out = lset s := lset_same hr'.out (fun z => (nodup_same hn hsub hall z).symm)
      have hol : out.length ≤ 1000000 := by have := hlo.out; omega
      replace hls := Lib.hid hls
      go_wp2_with (go_at_call 291; refine (hS.out out u3 (w.heap.size + 1) wr hro hn hol ho).mono ?_; rintro e w3 ⟨rfl, ho3, hg3, hl3⟩)
      go_ret
      exact hP.out _ _ (hls.out ▸ ho3.mono (by omega)) (hbw.grown hg3 (by omega) (fun k hk => by have := (own_in ho k hk).1; omega))
    · intro x w2 hxs hxo hit2 hen hg2 hsz2
      have ho2 : OwnL w2 (w.heap.size + 1) u3 out := World.ownsRow.kept ho hg2 (.inr (fun e => by have := (own_in ho _ e).1; omega))
      have hb2 : Below w.heap.size w w2 := hbw.grown hg2 (by omega) (fun k hk => by cases hk; exact Nat.le_refl _)
      have hol : out.length < 1000000 := by have := hlo.out; omega
      have hlen2 := nodup_len hit2.parts.1 hit2.parts.2.1
      rw [List.length_append, List.length_singleton] at hlen2
      have hsz3 : w.heap.size < w2.heap.size := by omega
      unfold Lk.v at hen
      replace hsz2 := Lib.hid hsz2
      go_upto_region 5 with (fail)
      change Code.wp Tryz.prog _ _ _ (lay5 w2 x)
      have hbl := lay5_below w2 x
      have q4 := lay5_blk w2 x
      have ho3 := ho2.step hbl
      have hit3 := hit2.step hbl
      have hb3 := bStep hb2 hbl
      have hsz4 := Nat.lt_of_lt_of_le hsz3 hbl.size
      clear hen ho2 hit2 hb2 hbl hsz3
      generalize lay5 w2 x = W1 at *
      generalize w2.heap.size = B4 at *
      have d0 := q4.cell 0
      have d1 := q4.cell 1
      have d2 := q4.cell 2
      have d3 := q4.cell 3
      have d4 := q4.cell 4
      simp only [Lk.cells, List.getElem?_toArray, List.getElem?_cons_zero, List.getElem?_cons_succ] at d0 d1 d2 d3 d4
      go_wp2_with (at_builtin; refine wpList_pushL _ rfl _ _ rfl (w.heap.size + 1) _ out rfl (ho3.alloc _) _ x rfl (Blk.new _ _ _) hol (by simp; omega) ?_; intro v' w5 ho5 hg5 hat5 hb5)
      all_goals
        have hbo : ∀ k, u3.ownBlock = some k → w.heap.size + 1 ≤ k := fun k hk => (own_in ho3 k hk).1
        have hit5 : IterL w5 b w.heap.size s (out ++ [x]) := (hit3.step ((Below.refl _ _).alloc (Nat.le_refl _) _)).grown hg5 (fun e => by have := hbo _ e.symm; omega) (fun e => by have := hbo _ e.symm; omega)
        have hz5 := hg5.size
        simp only [World.size_alloc] at hz5
        go_roundg (s.length - (out.length + 1))
        case measure => have := hlo.out; omega
        case rel => exact ⟨out ++ [x], by rw [List.length_append, List.length_singleton]; omega, ho5, hit5, (bAlc hb3 _).grown hg5 (by simp; omega) (fun k hk => by have := hbo k hk; omega), by omega⟩
end Go.Proofs.YtjnmkdahbcmfaaaGreat

/- The looks there are; what tail computes. -/
namespace Go.Proofs.YtjnmkdahbcmfaaaGreat
open Go.ChangeShapes Go.WideShapes Go.ChangeAt Go.RowKit
set_option linter.unusedVariables false
def Fit (k : Nat) (x : Lk) : Prop := x.right 8 ∧ x.l.length ≤ k
def oneL (ss : List (List Lk)) (s : Int) : List Lk := if 16 ≤ s then lset (ss.getD (s - 16).toNat []) else [Lk.of [s]]
def stepL (k : Nat) (ss : List (List Lk)) (out : List Lk) (s : Int) : List Lk := lset (addAll [] (sumsJ k out (oneL ss s)))
def tailL (k : Nat) (ss : List (List Lk)) (l : List Int) : List Lk := l.foldl (stepL k ss) [Lk.of []]
def SetsFit (k : Nat) (ss : List (List Lk)) : Prop := ∀ s ∈ ss, ∀ x ∈ s, Fit k x
def SetsR (W : World) (B : Nat) (A : Option Addr) (n : Nat) (ss : List (List Lk)) : Prop :=
  ss.length = n ∧ (n = 0 ∨ ∃ b off, A = some ⟨b, off, none⟩ ∧ b < B ∧ ∀ (i : Nat) (s : List Lk), ss[i]? = some s → ∃ mb, mb < B ∧ W.cell? ⟨b, off + i, none⟩ = some (.map (some mb)) ∧ MapK lookKey W mb s)
theorem MapK.below {α : Type} {E : KeyEnc α} {w w' : World} {B b : Nat} {s : List α} (h : MapK E w b s) (hb : Below B w w') (hlt : b < B) : MapK E w' b s := by
  obtain ⟨es, clock, h1, h2⟩ := h
  exact ⟨es, clock, (hb.block b hlt).trans h1, h2⟩
theorem SetsR.below {W W' : World} {B : Nat} {A : Option Addr} {n : Nat} {ss : List (List Lk)} (h : SetsR W B A n ss) (hb : Below B W W') : SetsR W' B A n ss := by
  refine ⟨h.1, ?_⟩
  rcases h.2 with h0 | ⟨b, off, rfl, hlt, hc⟩
  · exact .inl h0
  · refine .inr ⟨b, off, rfl, hlt, fun i s hs => ?_⟩
    obtain ⟨mb, h1, h2, h3⟩ := hc i s hs
    exact ⟨mb, h1, (hb.cell (p := ⟨b, off + i, none⟩) hlt).trans h2, h3.below hb h1⟩
end Go.Proofs.YtjnmkdahbcmfaaaGreat

/- follow.tail. -/
namespace Go.Proofs.YtjnmkdahbcmfaaaGreat
open Go.ChangeShapes Go.WideShapes Go.ChangeAt Go.RowKit
set_option linter.unusedVariables false
theorem SetsR.get {W : World} {B : Nat} {A : Option Addr} {n : Nat} {ss : List (List Lk)} (h : SetsR W B A n ss) (i : Nat) (hi : i < n) :
    ∃ b off mb, A = some ⟨b, off, none⟩ ∧ b < B ∧ mb < B ∧ W.cell? ⟨b, off + i, none⟩ = some (.map (some mb)) ∧ MapK lookKey W mb (ss.getD i []) := by
  rcases h.2 with h0 | ⟨b, off, rfl, hlt, hc⟩
  · omega
  · have hil : i < ss.length := by rw [h.1]; exact hi
    obtain ⟨mb, h1, h2, h3⟩ := hc i ss[i] (List.getElem?_eq_getElem hil)
    refine ⟨b, off, mb, rfl, hlt, h1, h2, ?_⟩
    simpa [List.getD_eq_getElem?_getD, hil] using h3
end Go.Proofs.YtjnmkdahbcmfaaaGreat

/- Own sets; FIRST as a predicate. -/
namespace Go.Proofs.YtjnmkdahbcmfaaaGreat
open Go.ChangeShapes Go.WideShapes Go.ChangeAt Go.RowKit
set_option linter.unusedVariables false
def SetsO (W : World) (base bo n : Nat) (ss : List (List Lk)) : Prop :=
  ∃ (cs : Array Value) (mbs : List Nat), Blk W bo 287 cs ∧ cs.size = n ∧ mbs.length = ss.length ∧ mbs.Nodup ∧ (∀ m ∈ mbs, base ≤ m ∧ m < W.heap.size) ∧
    ∀ (i m : Nat) (s : List Lk), mbs[i]? = some m → ss[i]? = some s → cs[i]? = some (.map (some m)) ∧ MapK lookKey W m s
theorem SetsO.step {W W' : World} {base bo n : Nat} {ss : List (List Lk)} (h : SetsO W base bo n ss) (hb : Below W.heap.size W W') : SetsO W' base bo n ss := by
  obtain ⟨cs, mbs, h1, h2, h3, h4, h5, h6⟩ := h
  exact ⟨cs, mbs, h1.step hb, h2, h3, h4, fun m hm => ⟨(h5 m hm).1, Nat.lt_of_lt_of_le (h5 m hm).2 hb.size⟩, fun i m s a b => ⟨(h6 i m s a b).1, (h6 i m s a b).2.step hb⟩⟩
theorem grownBy_setC (w : World) (b i : Nat) (v : Value) : w.grownBy (w.setCell ⟨b, i, none⟩ v) (some b) :=
  ⟨rfl, rfl, rfl, by simp, fun k hk hne => Below.heap_setCell w ⟨b, i, none⟩ v k (fun e => hne (by rw [e]))⟩
theorem mapk_blk {α : Type} {E : KeyEnc α} {W : World} {m g : Nat} {s : List α} {t : TypeId} {cs : Array Value} (h : MapK E W m s) (q : Blk W g t cs) : m ≠ g := by
  rintro rfl
  obtain ⟨es, clock, hb, _⟩ := h
  unfold Blk at q
  rw [hb] at q; cases q
theorem SetsO.put {W : World} {base bo n : Nat} {ss : List (List Lk)} (h : SetsO W base bo n ss) {g : Nat} {t : TypeId} {cs' : Array Value} (q : Blk W g t cs') (hg : g ≠ bo) (i : Nat) (v : Value) : SetsO (W.setCell ⟨g, i, none⟩ v) base bo n ss := by
  obtain ⟨cs, mbs, h1, h2, h3, h4, h5, h6⟩ := h
  refine ⟨cs, mbs, h1.far (Ne.symm hg) v, h2, h3, h4, fun m hm => ?_, fun j m s a b => ⟨(h6 j m s a b).1, ?_⟩⟩
  · have := h5 m hm; simpa using this
  · have hm := (h6 j m s a b).2
    exact hm.grown (grownBy_setC W g i v) (by simpa using mapk_blk hm q)
theorem SetsO.push {W : World} {base bo n : Nat} {ss : List (List Lk)} (h : SetsO W base bo n ss) (hn : ss.length < n) (hb : base ≤ W.heap.size) :
    SetsO ((W.alloc (.map #[] 0)).setCell ⟨bo, ss.length, none⟩ (.map (some W.heap.size))) base bo n (ss ++ [[]]) := by
  obtain ⟨cs, mbs, h1, h2, h3, h4, h5, h6⟩ := h
  have hlt := h1.lt
  have hbo : W.heap.size ≠ bo := by omega
  refine ⟨cs.setIfInBounds ss.length (.map (some W.heap.size)), mbs ++ [W.heap.size], (h1.alloc _).put _ _, by simpa using h2, by simp [h3], ?_, ?_, ?_⟩
  · rw [List.nodup_append]
    refine ⟨h4, by simp, fun a ha b hb' => ?_⟩
    simp at hb'; subst hb'
    have := (h5 a ha).2
    omega
  · intro m hm
    rcases List.mem_append.1 hm with hm | hm
    · have := h5 m hm; simp; omega
    · simp at hm; subst hm; simp; omega
  · intro i m s hmi hsi
    by_cases hi : i < ss.length
    · rw [List.getElem?_append_left (by omega)] at hmi hsi
      obtain ⟨a, b⟩ := h6 i m s hmi hsi
      refine ⟨by rw [Array.getElem?_setIfInBounds_ne (by omega)]; exact a, ?_⟩
      have b2 := b.step (w' := W.alloc (.map #[] 0)) (bAlc (Below.refl _ _) _)
      exact b2.grown (grownBy_setC _ bo _ _) (by simpa using mapk_blk b h1)
    · have hi2 : i = ss.length := by have := (List.getElem?_eq_some_iff.1 hsi).1; simp at this; omega
      subst hi2
      rw [← h3] at hmi
      simp at hmi hsi
      subst hmi; subst hsi
      refine ⟨by rw [Array.getElem?_setIfInBounds_self]; simp [h2, hn], ?_⟩
      exact (mapk_new lookKey W W.heap.size rfl).grown (grownBy_setC _ bo _ _) (by simpa using hbo)
theorem SetsO.get {W : World} {base bo n : Nat} {ss : List (List Lk)} (h : SetsO W base bo n ss) (i : Nat) (hi : i < ss.length) :
    ∃ m, base ≤ m ∧ m < W.heap.size ∧ W.cell? ⟨bo, i, none⟩ = some (.map (some m)) ∧ MapK lookKey W m (ss.getD i []) ∧ ∀ (W1 W' : World) (cur : List Lk), Below W.heap.size W W1 → W1.grownBy W' (some m) → MapK lookKey W' m cur → SetsO W' base bo n (ss.set i cur) := by
  obtain ⟨cs, mbs, h1, h2, h3, h4, h5, h6⟩ := h
  have him : i < mbs.length := by omega
  obtain ⟨a, b⟩ := h6 i mbs[i] ss[i] (List.getElem?_eq_getElem him) (List.getElem?_eq_getElem hi)
  obtain ⟨c, d⟩ := h5 _ (List.getElem_mem him)
  refine ⟨mbs[i], c, d, by rw [h1.cell]; exact a, by simpa [List.getD_eq_getElem?_getD, hi] using b, ?_⟩
  intro W1 W' cur hb hg hm
  have hz := hb.size
  have hz2 := hg.size
  refine ⟨cs, mbs, (h1.step hb).grown hg (by simpa using Ne.symm (mapk_blk b h1)), h2, by simpa using h3, h4, fun m hm => ⟨(h5 m hm).1, by have := (h5 m hm).2; omega⟩, ?_⟩
  intro j m s hmj hsj
  by_cases hij : i = j
  · subst hij
    rw [List.getElem?_eq_getElem him] at hmj
    injection hmj with hmj
    subst hmj
    rw [List.getElem?_set_self hi] at hsj
    injection hsj with hsj
    subst hsj
    exact ⟨a, hm⟩
  · rw [List.getElem?_set_ne hij] at hsj
    obtain ⟨a2, b2⟩ := h6 j m s hmj hsj
    refine ⟨a2, (b2.step hb).grown hg ?_⟩
    intro e
    injection e with e
    have hjm := (List.getElem?_eq_some_iff.1 hmj).1
    have e2 : mbs[j] = m := by rw [List.getElem?_eq_getElem hjm] at hmj; injection hmj
    exact hij ((List.getElem_inj h4).1 (by rw [e2, e]))
theorem SetsO.reads {W : World} {base bo n : Nat} {ss : List (List Lk)} (h : SetsO W base bo n ss) (hn : ss.length = n) : SetsR W W.heap.size (some ⟨bo, 0, none⟩) n ss := by
  obtain ⟨cs, mbs, h1, h2, h3, h4, h5, h6⟩ := h
  refine ⟨hn, .inr ⟨bo, 0, rfl, h1.lt, fun i s hs => ?_⟩⟩
  have hi := (List.getElem?_eq_some_iff.1 hs).1
  have him : i < mbs.length := by omega
  obtain ⟨a, b⟩ := h6 i mbs[i] s (List.getElem?_eq_getElem him) hs
  exact ⟨mbs[i], (h5 _ (List.getElem_mem him)).2, by rw [Nat.zero_add, h1.cell]; exact a, b⟩
theorem SetsO.nodup {W : World} {base bo n : Nat} {ss : List (List Lk)} (h : SetsO W base bo n ss) : ∀ s ∈ ss, s.Nodup := by
  obtain ⟨cs, mbs, h1, h2, h3, h4, h5, h6⟩ := h
  intro s hs
  obtain ⟨i, hi, rfl⟩ := List.getElem_of_mem hs
  have him : i < mbs.length := by omega
  obtain ⟨a, es, clock, _, _, _, _, hn, _⟩ := h6 i mbs[i] ss[i] (List.getElem?_eq_getElem him) (List.getElem?_eq_getElem hi)
  exact hn
inductive FL (ps : List Pr) (k : Nat) : List Int → Lk → Prop
  | nil : FL ps k [] (Lk.of [])
  | term {l : List Int} {x : Lk} {s : Int} : FL ps k l x → s < 16 → FL ps k (l ++ [s]) (lplus k x (Lk.of [s]))
  | non {l : List Int} {x : Lk} {p : Pr} {y : Lk} : FL ps k l x → p ∈ ps → 16 ≤ p.left → FL ps k p.right y → FL ps k (l ++ [p.left]) (lplus k x y)
end Go.Proofs.YtjnmkdahbcmfaaaGreat

/- One round of begins, plainly. -/
namespace Go.Proofs.YtjnmkdahbcmfaaaGreat
open Go.ChangeShapes Go.WideShapes Go.ChangeAt Go.RowKit
set_option linter.unusedVariables false
def tot (ss : List (List Lk)) : Nat := (ss.map List.length).sum
def newS (k : Nat) (ss : List (List Lk)) (p : Pr) : List Lk := addAll (ss.getD (p.left - 16).toNat []) (sumsJ k (tailL k ss p.right) [Lk.of []])
end Go.Proofs.YtjnmkdahbcmfaaaGreat

/- follow.begins. -/
namespace Go.Proofs.YtjnmkdahbcmfaaaGreat
open Go.ChangeShapes Go.WideShapes Go.ChangeAt Go.RowKit
set_option linter.unusedVariables false
theorem SetsO.blk {W : World} {base bo n : Nat} {ss : List (List Lk)} (h : SetsO W base bo n ss) {i : Nat} (hi : i < n) : (∃ v, W.cell? ⟨bo, i, none⟩ = some v) ∧ W.frozen? ⟨bo, i, none⟩ = false ∧ bo < W.heap.size := by
  obtain ⟨cs, mbs, h1, h2, h3, h4, h5, h6⟩ := h
  refine ⟨⟨cs[i]'(by omega), ?_⟩, h1.frozen i, h1.lt⟩
  rw [h1.cell]; simp [h2, hi]
theorem SetsO.mono {W : World} {base b' bo n : Nat} {ss : List (List Lk)} (h : SetsO W base bo n ss) (hb : b' ≤ base) : SetsO W b' bo n ss := by
  obtain ⟨cs, mbs, h1, h2, h3, h4, h5, h6⟩ := h
  exact ⟨cs, mbs, h1, h2, h3, h4, fun m hm => ⟨by have := (h5 m hm).1; omega, (h5 m hm).2⟩, h6⟩
theorem SetsO.start {W : World} {base bo n : Nat} {cs : Array Value} (h : Blk W bo 287 cs) (hn : cs.size = n) : SetsO W base bo n [] :=
  ⟨cs, [], h, hn, rfl, List.nodup_nil, by simp, by simp⟩
def KW (W : World) (mb : Nat) (w' : World) : Prop := W.grownBy w' (some mb)
theorem KW.refl (W : World) (mb : Nat) : KW W mb W := ⟨rfl, rfl, rfl, Nat.le_refl _, fun _ _ _ => rfl⟩
theorem KW.drew {W w1 : World} {mb : Nat} (h : KW W mb w1) : KW W mb w1.drew := ⟨h.os, h.tape, h.output, h.size, h.block⟩
theorem KW.grown {W w1 w2 : World} {mb : Nat} (h : KW W mb w1) (hg : w1.grownBy w2 (some mb)) : KW W mb w2 := World.grownBy.andThen h hg (fun j hj => .inr hj)
theorem KW.step {W w1 w2 : World} {mb : Nat} (h : KW W mb w1) (hb : Below w1.heap.size w1 w2) : KW W mb w2 := World.grownBy.andThen h (grown_of_below hb) (fun j hj => by cases hj)
theorem KW.alloc {W w1 : World} {mb : Nat} (h : KW W mb w1) (o : Obj) : KW W mb (w1.alloc o) := h.step (bAlc (Below.refl _ _) _)
end Go.Proofs.YtjnmkdahbcmfaaaGreat

/- FOLLOW as a predicate; its laws. -/
namespace Go.Proofs.YtjnmkdahbcmfaaaGreat
set_option linter.unusedVariables false
inductive FO (ps : List Pr) (k : Nat) (start : Int) : Int → Lk → Prop
  | start : FO ps k start start (Lk.of [])
  | use {p : Pr} {d : Nat} {s : Int} {x y : Lk} : p ∈ ps → p.right[d]? = some s → 16 ≤ s → FL ps k (p.right.drop (d + 1)) x → FO ps k start p.left y → FO ps k start s (lplus k x y)
def SoundO (ps : List Pr) (k : Nat) (start : Int) (fs : List (List Lk)) : Prop := ∀ (i : Nat) (y : Lk), y ∈ fs.getD i [] → FO ps k start (16 + (i : Int)) y
def usesL (k : Nat) (ss fs : List (List Lk)) (p : Pr) (d : Nat) : List Lk := sumsJ k (tailL k ss (p.right.drop (d + 1))) (lset (fs.getD (p.left - 16).toNat []))
end Go.Proofs.YtjnmkdahbcmfaaaGreat

/- follow.uses: the places behind whose dot a wanted symbol stands. -/
namespace Go.Proofs.YtjnmkdahbcmfaaaGreat
open Go.RowKit Go.Shelf
set_option linter.unusedVariables false
attribute [local go_sem] Oper.semAt_some
def rowU (k d : Nat) : List Int → List (Nat × Nat × Int)
  | [] => []
  | s :: l => (k, d, s) :: rowU k (d + 1) l
def prsU (k : Nat) : List PV → List (Nat × Nat × Int)
  | [] => []
  | p :: ps => rowU k 0 p.p.right ++ prsU (k + 1) ps
def usF (q : Int → Bool) (l : List (Nat × Nat × Int)) : List (Nat × Nat × Int) := l.filter fun u => q u.2.2
def usAll (q : Int → Bool) (vs : List PV) : List (Nat × Nat × Int) := usF q (prsU 0 vs)
def UseT (q : Int → Bool) (vs : List PV) : Type := { u : Nat × Nat × Int // u ∈ usAll q vs }
def USt (n₀ B1 B2 : Nat) (A : Option Addr) (len cap : Nat) (vs : List PV) (fv : Value) (W : World) : Prop :=
  W.cell? ⟨B1, 5, none⟩ = some (.slice A len cap) ∧ W.cell? ⟨B2, 0, none⟩ = some fv ∧ RdV W n₀ A len vs ∧ (∀ x ∈ vs, PVok W n₀ x) ∧ n₀ ≤ W.heap.size
theorem USt.step {n₀ B1 B2 : Nat} {A : Option Addr} {len cap : Nat} {vs : List PV} {fv : Value} {W W' : World} (h : USt n₀ B1 B2 A len cap vs fv W) (hb : Below W.heap.size W W') : USt n₀ B1 B2 A len cap vs fv W' :=
  ⟨cell_later hb h.1, cell_later hb h.2.1, h.2.2.1.below (hb.mono h.2.2.2.2), fun x hx => (h.2.2.2.1 x hx).below (hb.mono h.2.2.2.2), Nat.le_trans h.2.2.2.2 hb.size⟩
end Go.Proofs.YtjnmkdahbcmfaaaGreat

/- follow.all: what stands in memory; the marks of the loops. -/
namespace Go.Proofs.YtjnmkdahbcmfaaaGreat
open Go.RowKit Go.Shelf
set_option linter.unusedVariables false
def MarksOk (W : World) (lo : Nat) (Ds : List Nat) : Prop := Ds.Nodup ∧ ∀ D ∈ Ds, lo ≤ D ∧ W.heap[D]? = some (.deferred (some []))
def SetsM (W : World) (bo n : Nat) (mbs : List Nat) (ss : List (List Lk)) : Prop :=
  ∃ cs : Array Value, Blk W bo 287 cs ∧ cs.size = n ∧ mbs.length = ss.length ∧ ∀ (i m : Nat) (s : List Lk), mbs[i]? = some m → ss[i]? = some s → cs[i]? = some (.map (some m)) ∧ MapK lookKey W m s
theorem SetsM.grown {W W' : World} {bo n : Nat} {mbs : List Nat} {ss : List (List Lk)} (h : SetsM W bo n mbs ss) {row : Option Nat} (hg : W.grownBy W' row) (h1 : row ≠ some bo) (h2 : ∀ m ∈ mbs, row ≠ some m) : SetsM W' bo n mbs ss := by
  obtain ⟨cs, a, b, c, d⟩ := h
  exact ⟨cs, a.grown hg (Ne.symm h1), b, c, fun i m s e f => ⟨(d i m s e f).1, (d i m s e f).2.grown hg (Ne.symm (h2 m (List.mem_of_getElem? e)))⟩⟩
theorem SetsM.step {W W' : World} {bo n : Nat} {mbs : List Nat} {ss : List (List Lk)} (h : SetsM W bo n mbs ss) (hb : Below W.heap.size W W') : SetsM W' bo n mbs ss := by
  obtain ⟨cs, a, b, c, d⟩ := h
  exact ⟨cs, a.step hb, b, c, fun i m s e f => ⟨(d i m s e f).1, (d i m s e f).2.step hb⟩⟩
theorem SetsM.get {W : World} {bo n : Nat} {mbs : List Nat} {ss : List (List Lk)} (h : SetsM W bo n mbs ss) {i : Nat} (hi : i < ss.length) : ∃ m, mbs[i]? = some m ∧ W.cell? ⟨bo, i, none⟩ = some (.map (some m)) ∧ MapK lookKey W m (ss.getD i []) ∧ m ≠ bo := by
  obtain ⟨cs, a, b, c, d⟩ := h
  have him : i < mbs.length := by omega
  obtain ⟨e, f⟩ := d i mbs[i] ss[i] (List.getElem?_eq_getElem him) (List.getElem?_eq_getElem hi)
  exact ⟨mbs[i], List.getElem?_eq_getElem him, by rw [a.cell]; exact e, by simpa [List.getD_eq_getElem?_getD, hi] using f, mapk_blk f a⟩
theorem SetsM.put {W W' : World} {bo n : Nat} {mbs : List Nat} {ss : List (List Lk)} (h : SetsM W bo n mbs ss) (hnd : mbs.Nodup) {i m : Nat} {c : List Lk} (hi : i < ss.length) (hm : mbs[i]? = some m)
    (hg : ∀ b, b < W.heap.size → b ≠ m → (b = bo ∨ b ∈ mbs) → W'.heap[b]? = W.heap[b]?) (hM : MapK lookKey W' m c) : SetsM W' bo n mbs (ss.set i c) := by
  obtain ⟨cs, a, b, e, d⟩ := h
  have him : i < mbs.length := by omega
  have hmv : mbs[i] = m := by rw [List.getElem?_eq_getElem him] at hm; injection hm
  have hmbo : m ≠ bo := by
    have := (d i mbs[i] ss[i] (List.getElem?_eq_getElem him) (List.getElem?_eq_getElem hi)).2
    rw [hmv] at this
    exact mapk_blk this a
  refine ⟨cs, (hg bo a.lt (Ne.symm hmbo) (.inl rfl)).trans a, b, by simpa using e, ?_⟩
  intro j m' s hmj hsj
  by_cases hij : i = j
  · subst hij
    rw [hm] at hmj
    injection hmj with hmj
    subst hmj
    rw [List.getElem?_set_self hi] at hsj
    injection hsj with hsj
    subst hsj
    exact ⟨(d i m ss[i] hm (List.getElem?_eq_getElem hi)).1, hM⟩
  · rw [List.getElem?_set_ne hij] at hsj
    obtain ⟨a2, es, clock, b2, b3⟩ := d j m' s hmj hsj
    refine ⟨a2, es, clock, (hg m' (Array.getElem?_eq_some_iff.1 b2).1 ?_ (.inr (List.mem_of_getElem? hmj))).trans b2, b3⟩
    rintro rfl
    have hjm := (List.getElem?_eq_some_iff.1 hmj).1
    have e2 : mbs[j] = m' := by rw [List.getElem?_eq_getElem hjm] at hmj; injection hmj
    exact hij ((List.getElem_inj hnd).1 (by rw [e2, hmv]))
theorem SetsM.reads {W : World} {bo n : Nat} {mbs : List Nat} {ss : List (List Lk)} (h : SetsM W bo n mbs ss) (hn : ss.length = n) : SetsR W W.heap.size (some ⟨bo, 0, none⟩) n ss := by
  obtain ⟨cs, a, b, c, d⟩ := h
  refine ⟨hn, .inr ⟨bo, 0, rfl, a.lt, fun i s hs => ?_⟩⟩
  have hi := (List.getElem?_eq_some_iff.1 hs).1
  have him : i < mbs.length := by omega
  obtain ⟨e, f⟩ := d i mbs[i] s (List.getElem?_eq_getElem him) hs
  exact ⟨mbs[i], f.lt, by rw [Nat.zero_add, a.cell]; exact e, f⟩
theorem SetsR.mono {W : World} {B B' : Nat} {A : Option Addr} {n : Nat} {ss : List (List Lk)} (h : SetsR W B A n ss) (hb : B ≤ B') : SetsR W B' A n ss := by
  refine ⟨h.1, ?_⟩
  rcases h.2 with h0 | ⟨b, off, rfl, hlt, hc⟩
  · exact .inl h0
  · refine .inr ⟨b, off, rfl, by omega, fun i s hs => ?_⟩
    obtain ⟨mb, h1, h2⟩ := hc i s hs
    exact ⟨mb, by omega, h2⟩
theorem GB.low {w : World} {g : Gr} {a : GA} {W W' : World} {lo : Nat} (h : GB w g a W) (hlo : w.heap.size < lo) (hb : Below lo W W') : GB w g a W' :=
  ⟨h.1.below hb hlo, h.2.1.below (hb.mono (by omega)), h.2.2.trans (hb.mono (by omega))⟩
def AF (w : World) (g : Gr) (a : GA) (n bo fo : Nat) (ss : List (List Lk)) (W : World) : Prop :=
  GB w g a W ∧ Blk W (w.heap.size + 1) 284 #[.slice (some ⟨fo, 0, none⟩) n n] ∧ Blk W (w.heap.size + 2) 284 #[.slice (some ⟨bo, 0, none⟩) n n] ∧ SetsR W fo (some ⟨bo, 0, none⟩) n ss ∧ w.heap.size + 2 < fo ∧ fo ≤ W.heap.size
theorem AF.low {w : World} {g : Gr} {a : GA} {n bo fo : Nat} {ss : List (List Lk)} {W W' : World} (h : AF w g a n bo fo ss W) (hb : Below fo W W') : AF w g a n bo fo ss W' := by
  obtain ⟨h1, h2, h3, h4, h5, h6⟩ := h
  exact ⟨h1.low (by omega) hb, h2.below hb (by omega), h3.below hb (by omega), h4.below hb, h5, Nat.le_trans h6 hb.size⟩
theorem AF.step {w : World} {g : Gr} {a : GA} {n bo fo : Nat} {ss : List (List Lk)} {W W' : World} (h : AF w g a n bo fo ss W) (hb : Below W.heap.size W W') : AF w g a n bo fo ss W' := h.low (hb.mono h.2.2.2.2.2)
theorem below_of_grown {X Y : World} {row : Option Nat} {lo : Nat} (hg : X.grownBy Y row) (hr : ∀ r, row = some r → lo ≤ r) (hlo : lo ≤ X.heap.size) : Below lo X Y :=
  ⟨hg.os, hg.tape, hg.output, hg.size, fun k hk => hg.block k (by omega) (fun e => by have := hr k e.symm; omega)⟩
structure KX (W : World) (mb b5 : Nat) (w' : World) : Prop where
  os : w'.os = W.os
  tape : w'.tape = W.tape
  output : w'.output = W.output
  size : W.heap.size ≤ w'.heap.size
  block : ∀ i, i < W.heap.size → i ≠ mb → i ≠ b5 → w'.heap[i]? = W.heap[i]?
theorem KX.refl (W : World) (mb b5 : Nat) : KX W mb b5 W := ⟨rfl, rfl, rfl, Nat.le_refl _, fun _ _ _ _ => rfl⟩
theorem KX.drew {W w1 : World} {mb b5 : Nat} (h : KX W mb b5 w1) : KX W mb b5 w1.drew := ⟨h.os, h.tape, h.output, h.size, h.block⟩
theorem KX.step {W w1 w2 : World} {mb b5 : Nat} (h : KX W mb b5 w1) (hb : Below w1.heap.size w1 w2) : KX W mb b5 w2 :=
  ⟨hb.os.trans h.os, hb.tape.trans h.tape, hb.output.trans h.output, Nat.le_trans h.size hb.size, fun i h1 h2 h3 => (hb.block i (Nat.lt_of_lt_of_le h1 h.size)).trans (h.block i h1 h2 h3)⟩
theorem KX.alloc {W w1 : World} {mb b5 : Nat} (h : KX W mb b5 w1) (o : Obj) : KX W mb b5 (w1.alloc o) := h.step (bAlc (Below.refl _ _) _)
theorem KX.grown {W w1 w2 : World} {mb b5 : Nat} (h : KX W mb b5 w1) (hg : w1.grownBy w2 (some mb)) : KX W mb b5 w2 :=
  ⟨hg.os.trans h.os, hg.tape.trans h.tape, hg.output.trans h.output, Nat.le_trans h.size hg.size, fun i h1 h2 h3 => (hg.block i (Nat.lt_of_lt_of_le h1 h.size) (fun e => h2 (by injection e))).trans (h.block i h1 h2 h3)⟩
theorem KX.put {W w1 : World} {mb b5 : Nat} (h : KX W mb b5 w1) (i : Nat) (v : Value) : KX W mb b5 (w1.setCell ⟨b5, i, none⟩ v) :=
  ⟨h.os, h.tape, h.output, Nat.le_trans h.size (by simp), fun j h1 h2 h3 => (Below.heap_setCell w1 ⟨b5, i, none⟩ v j h3).trans (h.block j h1 h2 h3)⟩
theorem KX.low {W w1 : World} {mb b5 lo : Nat} (h : KX W mb b5 w1) (h1 : lo ≤ mb) (h2 : lo ≤ b5) (h3 : lo ≤ W.heap.size) : Below lo W w1 := ⟨h.os, h.tape, h.output, h.size, fun k hk => h.block k (by omega) (by omega) (by omega)⟩
theorem KX.cell {W w1 : World} {mb b5 : Nat} (h : KX W mb b5 w1) {b o : Nat} {v : Value} (hc : W.cell? ⟨b, o, none⟩ = some v) (h1 : b ≠ mb) (h2 : b ≠ b5) : w1.cell? ⟨b, o, none⟩ = some v :=
  (World.cell?_of_block (a := ⟨b, o, none⟩) (h.block b (block_lt_of_cell hc) h1 h2)).trans hc
theorem KX.blk {W w1 : World} {mb b5 : Nat} (h : KX W mb b5 w1) {b : Nat} {t : TypeId} {cs : Array Value} (hc : Blk W b t cs) (h1 : b ≠ mb) (h2 : b ≠ b5) : Blk w1 b t cs := (h.block b hc.lt h1 h2).trans hc
def KpU (lo B1 B2 : Nat) (X Y : World) : Prop := Below lo X Y ∧ Y.heap[B1]? = X.heap[B1]? ∧ Y.heap[B2]? = X.heap[B2]?
theorem KpU.trans {lo B1 B2 : Nat} {X Y Z : World} (h : KpU lo B1 B2 X Y) (k : KpU lo B1 B2 Y Z) : KpU lo B1 B2 X Z := ⟨h.1.trans k.1, k.2.1.trans h.2.1, k.2.2.trans h.2.2⟩
theorem KpU.put {lo B1 B2 B : Nat} (W : World) (l : Nat) (o' : Obj) (hl : B ≤ l) (h0 : lo ≤ B) (h1 : B1 < B) (h2 : B2 < B) : KpU lo B1 B2 W (W.putObj l o') :=
  ⟨⟨rfl, rfl, rfl, by simp, fun k hk => World.putObj_heap_other (by omega)⟩, World.putObj_heap_other (by omega), World.putObj_heap_other (by omega)⟩
theorem USt.kept {n₀ B1 B2 : Nat} {A : Option Addr} {len cap : Nat} {vs : List PV} {fv : Value} {W W' : World} (h : USt n₀ B1 B2 A len cap vs fv W) (hb : KpU n₀ B1 B2 W W') : USt n₀ B1 B2 A len cap vs fv W' :=
  ⟨(World.cell?_of_block (a := ⟨B1, 5, none⟩) hb.2.1).trans h.1, (World.cell?_of_block (a := ⟨B2, 0, none⟩) hb.2.2).trans h.2.1, h.2.2.1.below hb.1, fun x hx => (h.2.2.2.1 x hx).below hb.1, Nat.le_trans h.2.2.2.2 hb.1.size⟩
end Go.Proofs.YtjnmkdahbcmfaaaGreat

/- follow.all: the walk. -/
namespace Go.Proofs.YtjnmkdahbcmfaaaGreat
open Go.RowKit Go.Shelf Go.ChangeShapes Go.WideShapes Go.ChangeAt
set_option linter.unusedVariables false
attribute [local go_sem] Oper.semAt_some
def ClU (g : Gr) (k : Nat) (ss fs : List (List Lk)) (u : Nat × Nat × Int) : Prop := ∀ z ∈ usesL k ss fs (g.prods.getD u.1 default) u.2.1, z ∈ fs.getD (u.2.2 - 16).toNat []
def AI (w : World) (g : Gr) (a : GA) (n bo fo k : Nat) (ss fs0 : List (List Lk)) (mbs Ds : List Nat) (b5 B : Nat) {q : Int → Bool} {vs : List PV} (pre : List (UseT q vs)) (W : World) : Prop :=
  ∃ (fs : List (List Lk)) (gr : Bool), AF w g a n bo fo ss W ∧ SetsM W fo n mbs fs ∧ Blk W b5 4 #[.bool gr] ∧ MarksOk W fo Ds ∧ B ≤ W.heap.size ∧ Hid (fs.length = n) ∧ Hid (SetsFit k fs) ∧ Hid (SoundO g.prods k g.start fs) ∧ Hid (Lk.of [] ∈ fs.getD (g.start - 16).toNat []) ∧
    Hid (if gr then tot fs0 < tot fs else fs = fs0 ∧ ∀ u ∈ pre, ClU g k ss fs0 u.1)
theorem AI.own {w : World} {g : Gr} {a : GA} {n bo fo k : Nat} {ss fs0 : List (List Lk)} {mbs Ds : List Nat} {b5 B : Nat} {q : Int → Bool} {vs : List PV} (h1 : fo < B) (h2 : ∀ m ∈ mbs, m < B) (h3 : b5 < B) (h4 : ∀ D ∈ Ds, D < B) :
    OwnFrom B (fun (pre : List (UseT q vs)) W => AI w g a n bo fo k ss fs0 mbs Ds b5 B pre W) := by
  rintro s X Y row ⟨fs, gr, c1, c2, c3, c4, c5, c6⟩ hg hr
  refine ⟨fs, gr, c1.low (below_of_grown hg (fun r e => by have := (hr r e).1; omega) c1.2.2.2.2.2), c2.grown hg (fun e => by have := (hr _ e).1; omega) (fun m hm e => by have := (hr _ e).1; have := h2 m hm; omega),
    c3.grown hg (fun e => by have := (hr _ e.symm).1; omega), ⟨c4.1, fun D hD => ⟨(c4.2 D hD).1, (hg.block D (Array.getElem?_eq_some_iff.1 (c4.2 D hD).2).1 (fun e => by have := (hr _ e.symm).1; have := h4 D hD; omega)).trans (c4.2 D hD).2⟩⟩, Nat.le_trans c5 hg.size, c6⟩
theorem MarksOk.step {W W' : World} {lo : Nat} {Ds : List Nat} (h : MarksOk W lo Ds) (hb : Below W.heap.size W W') : MarksOk W' lo Ds :=
  ⟨h.1, fun D hD => ⟨(h.2 D hD).1, (hb.block D (Array.getElem?_eq_some_iff.1 (h.2 D hD).2).1).trans (h.2 D hD).2⟩⟩
theorem AI.step {w : World} {g : Gr} {a : GA} {n bo fo k : Nat} {ss fs0 : List (List Lk)} {mbs Ds : List Nat} {b5 B : Nat} {q : Int → Bool} {vs : List PV} {pre : List (UseT q vs)} {W W' : World} (h : AI w g a n bo fo k ss fs0 mbs Ds b5 B pre W) (hb : Below W.heap.size W W') : AI w g a n bo fo k ss fs0 mbs Ds b5 B pre W' := by
  obtain ⟨fs, gr, c1, c2, c3, c4, c5, c6⟩ := h
  exact ⟨fs, gr, c1.step hb, c2.step hb, c3.step hb, c4.step hb, Nat.le_trans c5 hb.size, c6⟩
end Go.Proofs.YtjnmkdahbcmfaaaGreat

/- follow.Of. -/
namespace Go.Proofs.YtjnmkdahbcmfaaaGreat
open Go.ChangeShapes Go.WideShapes Go.ChangeAt Go.RowKit
set_option linter.unusedVariables false
theorem MapK.len {w : World} {b : Nat} {s : List Lk} (h : MapK lookKey w b s) (ty : TypeId) : (Builtin.len_ #[287] ty #[.map (some b)]).run Tryz.prog w = .ok (.int .i64 s.length) w := by
  obtain ⟨es, clock, hb, hk, hv, hw, hn, hst⟩ := h
  have e : es.size = s.length := by
    have := congrArg List.length hk
    simpa using this
  simp [Builtin.len_, run_underlying under67, MapKept.run_getObj_map hb, goInt, Result.andThen, e]
end Go.Proofs.YtjnmkdahbcmfaaaGreat

/- FOLLOW of a given grammar, reckoned; the chapter's example. -/
namespace Go.Proofs.YtjnmkdahbcmfaaaGreat
set_option linter.unusedVariables false
def stepF (k : Nat) (ss : List (List Lk)) (p : Pr) : List (List Lk) := ss.set (p.left - 16).toNat (newS k ss p)
def runF (k : Nat) (ps : List Pr) : Nat → List (List Lk) → List (List Lk)
  | 0, ss => ss
  | m + 1, ss => runF k ps m (ps.foldl (stepF k) ss)
end Go.Proofs.YtjnmkdahbcmfaaaGreat

/- Productions of the call's own. -/
namespace Go.Proofs.YtjnmkdahbcmfaaaGreat
open Go.ChangeShapes Go.WideShapes Go.ChangeAt Go.RowKit
set_option linter.unusedVariables false
def RtAt (W : World) (base : Nat) (RA : Option Addr) (c : Nat) (l : List Int) : Prop :=
  l.length ≤ c ∧ c ≤ maxLen ∧ (l = [] ∨ ∃ b off cs, RA = some ⟨b, off, none⟩ ∧ base ≤ b ∧ Blk W b 3 cs ∧ ∀ (i : Nat) (v : Value), (ints l)[i]? = some v → cs[off + i]? = some v)
theorem RtAt.of {W : World} {base : Nat} {v : Value} {l : List Int} (h : Own1 W base 3 v (ints l)) : ∃ RA c, v = .slice RA l.length c ∧ RtAt W base RA c l := by
  have hl : (ints l).length = l.length := by simp [ints]
  rcases h.2 with ⟨rfl, h0⟩ | ⟨g, cap, cur, rfl, hb, hg, hnc, hcm, hcs, ht⟩
  · have : l = [] := List.eq_nil_of_length_eq_zero (by omega)
    subst this
    exact ⟨none, 0, rfl, Nat.le_refl _, by simp [maxLen], .inl rfl⟩
  · rw [hl] at hnc ⊢
    refine ⟨some ⟨g, 0, none⟩, cap, rfl, hnc, hcm, .inr ⟨g, 0, cur, rfl, hb, hg, fun i x hx => ?_⟩⟩
    have hlt := (List.getElem?_eq_some_iff.1 hx).1
    rw [← ht, List.getElem?_take, if_pos (by omega)] at hx
    rw [Nat.zero_add]
    simpa using hx
theorem RtAt.step {W W' : World} {base : Nat} {RA : Option Addr} {c : Nat} {l : List Int} (h : RtAt W base RA c l) (hb : Below W.heap.size W W') : RtAt W' base RA c l := by
  obtain ⟨h1, h2, h3⟩ := h
  refine ⟨h1, h2, h3.imp id ?_⟩
  rintro ⟨b, off, cs, e, e1, e2, e3⟩
  exact ⟨b, off, cs, e, e1, e2.step hb, e3⟩
theorem RtAt.grown {W W' : World} {base : Nat} {RA : Option Addr} {c : Nat} {l : List Int} {row : Option Nat} (h : RtAt W base RA c l) (hg : W.grownBy W' row) (hne : ∀ g cs, row = some g → ¬ Blk W g 3 cs) : RtAt W' base RA c l := by
  obtain ⟨h1, h2, h3⟩ := h
  refine ⟨h1, h2, h3.imp id ?_⟩
  rintro ⟨b, off, cs, e, e1, e2, e3⟩
  exact ⟨b, off, cs, e, e1, e2.grown hg (fun e' => hne b cs e'.symm e2), e3⟩
theorem RtAt.reads {W : World} {base : Nat} {RA : Option Addr} {c : Nat} {l : List Int} (h : RtAt W base RA c l) : Rd1 W W.heap.size RA l.length (ints l) := by
  refine ⟨by simp [ints], ?_⟩
  rcases h.2.2 with rfl | ⟨b, off, cs, rfl, e1, e2, e3⟩
  · exact .inl rfl
  · exact .inr ⟨b, off, rfl, e2.lt, fun i v hv => by rw [e2.cell]; exact e3 i v hv⟩
def cellsP : List Pr → List (Option Addr × Nat) → List Value
  | p :: ps, r :: rs => .int .i64 p.left :: .slice r.1 p.right.length r.2 :: cellsP ps rs
  | _, _ => []
theorem cellsP_get : ∀ (ps : List Pr) (rs : List (Option Addr × Nat)) (i : Nat) (p : Pr) (r : Option Addr × Nat), ps[i]? = some p → rs[i]? = some r → (cellsP ps rs)[i * 2]? = some (.int .i64 p.left) ∧ (cellsP ps rs)[i * 2 + 1]? = some (.slice r.1 p.right.length r.2)
  | [], _, i, p, r, h, _ => by simp at h
  | _ :: _, [], i, p, r, _, h => by simp at h
  | p0 :: ps, r0 :: rs, 0, p, r, h, h' => by simp at h h'; subst h; subst h'; exact ⟨rfl, rfl⟩
  | p0 :: ps, r0 :: rs, i + 1, p, r, h, h' => by
    have := cellsP_get ps rs i p r (by simpa using h) (by simpa using h')
    rw [show (i + 1) * 2 = i * 2 + 1 + 1 by omega]
    exact this
def PsR (W : World) (base : Nat) (v : Value) (ps : List Pr) (rs : List (Option Addr × Nat)) : Prop :=
  ps.length = rs.length ∧ W.ownsRow base 61 2 v ps.length (cellsP ps rs) ∧ ∀ (i : Nat) (p : Pr) (r : Option Addr × Nat), ps[i]? = some p → rs[i]? = some r → RtAt W base r.1 r.2 p.right
def PsO (W : World) (base : Nat) (v : Value) (ps : List Pr) : Prop := ∃ rs, PsR W base v ps rs
theorem PsO.nil (W : World) (base : Nat) : PsO W base (.slice none 0 0) [] := ⟨[], rfl, World.ownsRow_nil W base 61 2, by simp⟩
theorem row_step {W W' : World} {base : Nat} {e : TypeId} {size : Nat} {v : Value} {n : Nat} {xs : List Value} (h : W.ownsRow base e size v n xs) (hb : Below W.heap.size W W') : W'.ownsRow base e size v n xs := by
  refine ⟨h.1, ?_⟩
  rcases h.2 with hn | ⟨g, cap, cur, rfl, hg0, hg, rest⟩
  · exact .inl hn
  · exact .inr ⟨g, cap, cur, rfl, hg0, (hb.block g (Array.getElem?_eq_some_iff.1 hg).1).trans hg, rest⟩
theorem row_grown {W W' : World} {base : Nat} {e : TypeId} {size : Nat} {v : Value} {n : Nat} {xs : List Value} {row : Option Nat} (h : W.ownsRow base e size v n xs) (hg : W.grownBy W' row) (hne : ∀ g cs, row = some g → ¬ Blk W g e cs) : W'.ownsRow base e size v n xs := by
  refine ⟨h.1, ?_⟩
  rcases h.2 with hn | ⟨g, cap, cur, rfl, hg0, hg', rest⟩
  · exact .inl hn
  · exact .inr ⟨g, cap, cur, rfl, hg0, (hg.block g (Array.getElem?_eq_some_iff.1 hg').1 (fun e' => hne g cur e'.symm hg')).trans hg', rest⟩
theorem PsO.step {W W' : World} {base : Nat} {v : Value} {ps : List Pr} (h : PsO W base v ps) (hb : Below W.heap.size W W') : PsO W' base v ps := by
  obtain ⟨rs, h1, h2, h3⟩ := h
  exact ⟨rs, h1, row_step h2 hb, fun i p r a b => (h3 i p r a b).step hb⟩
theorem PsO.grown {W W' : World} {base : Nat} {v : Value} {ps : List Pr} {row : Option Nat} (h : PsO W base v ps) (hg : W.grownBy W' row) (h3' : ∀ g cs, row = some g → ¬ Blk W g 3 cs) (h59 : ∀ g cs, row = some g → ¬ Blk W g 61 cs) : PsO W' base v ps := by
  obtain ⟨rs, h1, h2, h3⟩ := h
  exact ⟨rs, h1, row_grown h2 hg h59, fun i p r a b => (h3 i p r a b).grown hg h3'⟩
theorem PsO.mono {W : World} {base b' : Nat} {v : Value} {ps : List Pr} (h : PsO W base v ps) (hb : b' ≤ base) : PsO W b' v ps := by
  obtain ⟨rs, h1, h2, h3⟩ := h
  refine ⟨rs, h1, ⟨h2.1, ?_⟩, fun i p r a b => ?_⟩
  · rcases h2.2 with hn | ⟨g, cap, cur, rfl, hg0, rest⟩
    · exact .inl hn
    · exact .inr ⟨g, cap, cur, rfl, by omega, rest⟩
  · obtain ⟨c1, c2, c3⟩ := h3 i p r a b
    refine ⟨c1, c2, c3.imp id ?_⟩
    rintro ⟨b, off, cs, e, e1, e2, e3⟩
    exact ⟨b, off, cs, e, by omega, e2, e3⟩
theorem own_blk {W : World} {base : Nat} {e : TypeId} {size : Nat} {v : Value} {n : Nat} {xs : List Value} (h : W.ownsRow base e size v n xs) {g : Nat} (hg : v.ownBlock = some g) : ∃ cs, Blk W g e cs := by
  rcases h.2 with ⟨rfl, _⟩ | ⟨g', cap, cur, rfl, _, hb, _⟩
  · simp [Value.ownBlock] at hg
  · simp [Value.ownBlock] at hg; subst hg; exact ⟨cur, hb⟩
theorem blk_type {W : World} {g : Nat} {t t' : TypeId} {cs cs' : Array Value} (h : Blk W g t cs) (h' : Blk W g t' cs') : t = t' := by
  unfold Blk at h h'; rw [h] at h'; injection h' with h'; injection h'
theorem PsO.reads {W : World} {base : Nat} {v : Value} {ps : List Pr} (h : PsO W base v ps) : ∃ A c, v = .slice A ps.length c ∧ RdP W W.heap.size A ps.length ps ∧ ps.length ≤ c ∧ c ≤ maxLen := by
  obtain ⟨rs, h1, h2, h3⟩ := h
  rcases h2.2 with ⟨rfl, h0⟩ | ⟨g, cap, cur, rfl, hb, hg, hnc, hcm, hcs, ht⟩
  · exact ⟨none, 0, by rw [h0], ⟨rfl, .inl h0⟩, by omega, by simp [maxLen]⟩
  · refine ⟨some ⟨g, 0, none⟩, cap, rfl, ⟨rfl, .inr ⟨g, 0, rfl, (Array.getElem?_eq_some_iff.1 hg).1, fun i p hp => ?_⟩⟩, hnc, hcm⟩
    have hi := (List.getElem?_eq_some_iff.1 hp).1
    have hri : rs[i]? = some rs[i] := List.getElem?_eq_getElem (by omega)
    obtain ⟨d1, d2⟩ := cellsP_get ps rs i p _ hp hri
    rw [← ht, List.getElem?_take, if_pos (by omega)] at d1 d2
    have hr := h3 i p _ hp hri
    refine ⟨?_, _, _, ?_, hr.reads, hr.1, hr.2.1⟩
    · rw [cell_of_row W g _ cur 61 (0, 0) hg, Nat.zero_add]; simpa using d1
    · rw [cell_of_row W g _ cur 61 (0, 0) hg, Nat.zero_add]; simpa using d2
end Go.Proofs.YtjnmkdahbcmfaaaGreat

/- The kit's OwnGrammar. -/
namespace Go.Proofs.YtjnmkdahbcmfaaaGreat
open Go.ChangeShapes Go.WideShapes Go.ChangeAt Go.RowKit
set_option linter.unusedVariables false
section
variable (w : World) {ops : Array Oper} {rest : List Oper} {o : Oper} {a : Act} {K : Act → World → Prop} {Q : Exit → Act → World → Prop}
end
theorem grownBy_setC' (w : World) (b i : Nat) (v : Value) : w.grownBy (w.setCell ⟨b, i, none⟩ v) (some b) :=
  ⟨rfl, rfl, rfl, by simp, fun k hk hne => Below.heap_setCell w ⟨b, i, none⟩ v k (fun e => hne (by rw [e]))⟩
def ogc (g : Gr) (tv nv pv : Value) : Array Value := #[.int .i64 g.k, tv, .string g.sep, nv, .int .i64 g.start, pv]
def OG (w : World) (g : Gr) (a : GA) (tv nv pv : Value) (W : World) : Prop :=
  GrAt W w.heap.size g a ∧ Blk W w.heap.size 25 (ogc g tv nv pv) ∧ Blk W (w.heap.size + 1) 25 #[.int .i64 0, .slice none 0 0, .string ByteArray.empty, .slice none 0 0, .int .i64 0, .slice none 0 0] ∧ Own1 W (w.heap.size + 2) 9 tv (strs g.toks) ∧ Own1 W (w.heap.size + 2) 9 nv (strs g.names) ∧ Below w.heap.size w W
theorem OG.step {w : World} {g : Gr} {a : GA} {tv nv pv : Value} {W W' : World} (h : OG w g a tv nv pv W) (hb : Below W.heap.size W W') : OG w g a tv nv pv W' := by
  obtain ⟨h1, h2, h3, h4, h5, h6⟩ := h
  exact ⟨h1.below (hb.mono h6.size), h2.step hb, h3.step hb, h4.step hb, h5.step hb, bStep h6 hb⟩
theorem OG.grown {w : World} {g : Gr} {a : GA} {tv nv pv : Value} {W W' : World} {row : Option Nat} (h : OG w g a tv nv pv W) (hg : W.grownBy W' row) (hr : ∀ r, row = some r → w.heap.size + 2 ≤ r ∧ ∃ cs, Blk W r 61 cs) : OG w g a tv nv pv W' := by
  obtain ⟨h1, h2, h3, h4, h5, h6⟩ := h
  have hb : Below w.heap.size W W' := ⟨hg.os, hg.tape, hg.output, hg.size, fun k hk => hg.block k (by have := h6.size; omega) (fun e => by have := (hr k e.symm).1; omega)⟩
  have h9 : ∀ b cs, row = some b → ¬ Blk W b 9 cs := fun b cs e hq => by obtain ⟨_, cs', hq'⟩ := hr b e; cases blk_type hq hq'
  exact ⟨h1.below hb, h2.grown hg (fun e => by have := (hr _ e.symm).1; omega), h3.grown hg (fun e => by have := (hr _ e.symm).1; omega), row_grown h4 hg h9, row_grown h5 hg h9, h6.trans hb⟩
theorem OG.own {w : World} {g : Gr} {a : GA} {tv nv pv : Value} {W W' : World} (h : OG w g a tv nv pv W) {v : Value} {n : Nat} {xs : List Value} (hr : W.ownsRow (w.heap.size + 2) 61 2 v n xs) (hg : W.grownBy W' v.ownBlock) : OG w g a tv nv pv W' :=
  h.grown hg fun r e => ⟨(own_in hr r e).1, own_blk hr e⟩
theorem RtAt.mono {W : World} {base b' : Nat} {RA : Option Addr} {c : Nat} {l : List Int} (h : RtAt W base RA c l) (hb : b' ≤ base) : RtAt W b' RA c l := by
  obtain ⟨c1, c2, c3⟩ := h
  refine ⟨c1, c2, c3.imp id ?_⟩
  rintro ⟨b, off, cs, e, e1, e2, e3⟩
  exact ⟨b, off, cs, e, by omega, e2, e3⟩
end Go.Proofs.YtjnmkdahbcmfaaaGreat

/- The kit's Any. -/
namespace Go.Proofs.YtjnmkdahbcmfaaaGreat
open Go.ChangeShapes Go.WideShapes Go.ChangeAt Go.RowKit
set_option linter.unusedVariables false
def YI (w : World) (K : Int) (t : Nat) (NA : Option Addr) (nk : Nat) (PA : Option Addr) (pk : Nat) (ns : List ByteArray) (ps : List Pr) (W : World) : Prop :=
  Blk W w.heap.size 25 #[.int .i64 0, .slice none 0 0, .string ByteArray.empty, .slice none 0 0, .int .i64 0, .slice none 0 0] ∧ Blk W (w.heap.size + 1) 9 #[.string { data := #[97] }, .string { data := #[98] }] ∧
    Blk W (w.heap.size + 2) 25 #[.int .i64 K, .slice (some ⟨w.heap.size + 1, 0, none⟩) t 2, .string { data := #[122] }, .slice NA ns.length nk, .int .i64 16, .slice PA ps.length pk] ∧
    Own1 W (w.heap.size + 3) 9 (.slice NA ns.length nk) (strs ns) ∧ PsO W (w.heap.size + 3) (.slice PA ps.length pk) ps ∧ Below w.heap.size w W
theorem YI.step {w : World} {K : Int} {t : Nat} {NA : Option Addr} {nk : Nat} {PA : Option Addr} {pk : Nat} {ns : List ByteArray} {ps : List Pr} {W W' : World} (h : YI w K t NA nk PA pk ns ps W) (hb : Below W.heap.size W W') : YI w K t NA nk PA pk ns ps W' := by
  obtain ⟨h1, h2, h3, h4, h5, h6⟩ := h
  exact ⟨h1.step hb, h2.step hb, h3.step hb, h4.step hb, h5.step hb, bStep h6 hb⟩
theorem YI.box {w : World} {K : Int} {t : Nat} {NA : Option Addr} {nk : Nat} {PA : Option Addr} {pk : Nat} {ns : List ByteArray} {ps : List Pr} {W W1 : World} {row : Option Nat} (h : YI w K t NA nk PA pk ns ps W) (hg : W.grownBy W1 row) (hr : ∀ r, row = some r → w.heap.size + 3 ≤ r) (j : Nat) :
    W1.cell? ⟨w.heap.size + 2, j, none⟩ = W.cell? ⟨w.heap.size + 2, j, none⟩ ∧ W1.frozen? ⟨w.heap.size + 2, j, none⟩ = false := by
  have h3 := h.2.2.1.grown hg (fun e => by have := hr _ e.symm; omega)
  exact ⟨by rw [h3.cell, h.2.2.1.cell], h3.frozen j⟩
theorem YI.names {w : World} {K : Int} {t : Nat} {NA NA2 : Option Addr} {nk nk2 : Nat} {PA : Option Addr} {pk : Nat} {ns : List ByteArray} {s : ByteArray} {ps : List Pr} {W W1 : World} (h : YI w K t NA nk PA pk ns ps W) (hg : W.grownBy W1 (Value.slice NA ns.length nk).ownBlock) (ho : Own1 W1 (w.heap.size + 3) 9 (.slice NA2 (ns ++ [s]).length nk2) (strs (ns ++ [s]))) :
    YI w K t NA2 nk2 PA pk (ns ++ [s]) ps (W1.setCell ⟨w.heap.size + 2, 3, none⟩ (.slice NA2 (ns ++ [s]).length nk2)) := by
  obtain ⟨h1, h2, h3, h4, h5, h6⟩ := h
  have hlo : ∀ r, (Value.slice NA ns.length nk).ownBlock = some r → w.heap.size + 3 ≤ r := fun r e => (own_in h4 r e).1
  have h3' := h3.grown hg (fun e => by have := hlo _ e.symm; omega)
  have hty : ∀ (e : TypeId), e ≠ 9 → ∀ (b : Nat) (cs : Array Value), (Value.slice NA ns.length nk).ownBlock = some b → ¬ Blk W b e cs := fun e he b cs e1 hq => by obtain ⟨cs', hq'⟩ := own_blk h4 e1; exact he (blk_type hq hq')
  have hst := grownBy_setC' W1 (w.heap.size + 2) 3 (.slice NA2 (ns ++ [s]).length nk2)
  have hty2 : ∀ (e : TypeId), e ≠ 25 → ∀ (b : Nat) (cs : Array Value), some (w.heap.size + 2) = some b → ¬ Blk W1 b e cs := fun e he b cs e1 hq => by injection e1 with e1; subst e1; exact he (blk_type hq h3')
  have hb : Below w.heap.size W W1 := ⟨hg.os, hg.tape, hg.output, hg.size, fun k hk => hg.block k (by have := h6.size; omega) (fun e => by have := hlo _ e.symm; omega)⟩
  exact ⟨(h1.grown hg (fun e => by have := hlo _ e.symm; omega)).far (by simp) _, (h2.grown hg (fun e => by have := hlo _ e.symm; omega)).far (by simp) _, h3'.put 3 _, row_grown ho hst (hty2 9 (by decide)), (h5.grown hg (hty 3 (by decide)) (hty 61 (by decide))).grown hst (hty2 3 (by decide)) (hty2 61 (by decide)), bSet (h6.trans hb) _ _ (by simp)⟩
theorem YI.prods {w : World} {K : Int} {t : Nat} {NA PA2 : Option Addr} {nk pk2 : Nat} {PA : Option Addr} {pk : Nat} {ns : List ByteArray} {ps qs : List Pr} {W W1 : World} (h : YI w K t NA nk PA pk ns ps W) (hg : W.grownBy W1 (Value.slice PA ps.length pk).ownBlock) (ho : PsO W1 (w.heap.size + 3) (.slice PA2 qs.length pk2) qs) :
    YI w K t NA nk PA2 pk2 ns qs (W1.setCell ⟨w.heap.size + 2, 5, none⟩ (.slice PA2 qs.length pk2)) := by
  obtain ⟨h1, h2, h3, h4, h5, h6⟩ := h
  obtain ⟨rs, hpr⟩ := h5
  have hlo : ∀ r, (Value.slice PA ps.length pk).ownBlock = some r → w.heap.size + 3 ≤ r := fun r e => (own_in hpr.2.1 r e).1
  have h3' := h3.grown hg (fun e => by have := hlo _ e.symm; omega)
  have hty : ∀ (e : TypeId), e ≠ 61 → ∀ (b : Nat) (cs : Array Value), (Value.slice PA ps.length pk).ownBlock = some b → ¬ Blk W b e cs := fun e he b cs e1 hq => by obtain ⟨cs', hq'⟩ := own_blk hpr.2.1 e1; exact he (blk_type hq hq')
  have hst := grownBy_setC' W1 (w.heap.size + 2) 5 (.slice PA2 qs.length pk2)
  have hty2 : ∀ (e : TypeId), e ≠ 25 → ∀ (b : Nat) (cs : Array Value), some (w.heap.size + 2) = some b → ¬ Blk W1 b e cs := fun e he b cs e1 hq => by injection e1 with e1; subst e1; exact he (blk_type hq h3')
  have hb : Below w.heap.size W W1 := ⟨hg.os, hg.tape, hg.output, hg.size, fun k hk => hg.block k (by have := h6.size; omega) (fun e => by have := hlo _ e.symm; omega)⟩
  exact ⟨(h1.grown hg (fun e => by have := hlo _ e.symm; omega)).far (by simp) _, (h2.grown hg (fun e => by have := hlo _ e.symm; omega)).far (by simp) _, h3'.put 5 _, row_grown (row_grown h4 hg (hty 9 (by decide))) hst (hty2 9 (by decide)), ho.grown hst (hty2 3 (by decide)) (hty2 61 (by decide)), bSet (h6.trans hb) _ _ (by simp)⟩
end Go.Proofs.YtjnmkdahbcmfaaaGreat

/- look.Check. -/
namespace Go.Proofs.YtjnmkdahbcmfaaaGreat
open Go.ChangeShapes Go.WideShapes Go.ChangeAt Go.RowKit
set_option linter.unusedVariables false
theorem splice_of (l : List Int) (h : l.length ≤ 4) : (splice [Value.int .i64 0, .int .i64 0, .int .i64 0, .int .i64 0, .int .i64 0] 1 (ints l)).toArray = #[.int .i64 0, .int .i64 (Lk.of l).a, .int .i64 (Lk.of l).b, .int .i64 (Lk.of l).c, .int .i64 (Lk.of l).d] := by
  match l, h with
  | [], _ => rfl
  | [a], _ => rfl
  | [a, b], _ => rfl
  | [a, b, c], _ => rfl
  | [a, b, c, d], _ => rfl
  | a :: b :: c :: d :: e :: l, h => exfalso; simp at h
theorem size3 : (Tryz.prog.info? 3).map (·.size) = some 1 := by kernel_rfl
theorem pad_of {x : Lk} (h0 : 0 ≤ x.n) (h4 : x.n ≤ 4) : Lk.of x.l = x ↔ padB x = true := by
  obtain ⟨n, a, b, c, d⟩ := x
  simp only at h0 h4
  obtain ⟨k, rfl⟩ := Int.eq_ofNat_of_zero_le h0
  have : k = 0 ∨ k = 1 ∨ k = 2 ∨ k = 3 ∨ k = 4 := by omega
  rcases this with rfl | rfl | rfl | rfl | rfl <;> simp [Lk.of, Lk.l, padB, List.range_succ, Lk.s] <;> constructor <;> intro h <;> omega
theorem lk_rd {W : World} {g : Nat} {x : Lk} (h : Blk W g 45 x.cells) (k : Nat) (hk : x.n = k) (h4 : k ≤ 4) : Rd1 W W.heap.size (some ⟨g, 1, none⟩) k (ints x.l) := by
  have hl : x.l.length = k := by unfold Lk.l; rw [hk, List.length_take]; simp; omega
  refine ⟨by simp [ints, hl], .inr ⟨g, 1, rfl, h.lt, fun i v hv => ?_⟩⟩
  have hi : i < x.l.length := by have := (List.getElem?_eq_some_iff.1 hv).1; simpa [ints] using this
  rw [h.cell]
  have e : (ints x.l)[i]? = some (.int .i64 (x.s i)) := by
    have h1 : x.l[i]? = some (x.s i) := by
      unfold Lk.l
      rw [hk, List.getElem?_take, if_pos (by simp; omega)]
      rcases i with _ | _ | _ | _ | i <;> first | rfl | omega
    simp [ints, h1]
  rw [e] at hv
  cases hv
  exact Lk.cellAt x i (by omega)
theorem of_wf {x : Lk} (hx : x.wf) (h0 : 0 ≤ x.n) (h4 : x.n ≤ 4) : (Lk.of x.l).wf := by
  obtain ⟨n, a, b, c, d⟩ := x
  obtain ⟨h1, h2, h3, h5, h6⟩ := hx
  simp only at h0 h4 h1 h2 h3 h5 h6
  obtain ⟨k, rfl⟩ := Int.eq_ofNat_of_zero_le h0
  have z : (Lit.int .i64 0).wf = true := by decide
  have : k = 0 ∨ k = 1 ∨ k = 2 ∨ k = 3 ∨ k = 4 := by omega
  rcases this with rfl | rfl | rfl | rfl | rfl <;> exact ⟨h1, by first | exact h2 | exact z, by first | exact h3 | exact z, by first | exact h5 | exact z, by first | exact h6 | exact z⟩
end Go.Proofs.YtjnmkdahbcmfaaaGreat

/- look.of and look.Check: no draw is taken back (tools/mkWg.py). -/
namespace Go.Proofs.YtjnmkdahbcmfaaaGreat
open Go.ChangeShapes Go.WideShapes Go.ChangeAt Go.RowKit Go.Sort
set_option linter.unusedVariables false
structure BelowM (B : Nat) (w w' : World) : Prop where
  b : Below B w w'
  d : w.drawn ≤ w'.drawn
theorem BelowM.refl (B : Nat) (w : World) : BelowM B w w := ⟨Below.refl _ _, Nat.le_refl _⟩
theorem mAlc {W0 W : World} (h : BelowM W0.heap.size W0 W) (o : Obj) : BelowM W0.heap.size W0 (W.alloc o) := ⟨bAlc h.b o, h.d⟩
theorem mStep {W0 W W1 : World} (h : BelowM W0.heap.size W0 W) (h1 : BelowM W.heap.size W W1) : BelowM W0.heap.size W0 W1 := ⟨bStep h.b h1.b, Nat.le_trans h.d h1.d⟩
theorem mSet {W0 W : World} (h : BelowM W0.heap.size W0 W) (p : Addr) (v : Value) (hp : W0.heap.size ≤ p.block) : BelowM W0.heap.size W0 (W.setCell p v) := ⟨bSet h.b p v hp, h.d⟩
theorem mDrw {W0 W : World} (h : BelowM W0.heap.size W0 W) : BelowM W0.heap.size W0 W.drew := ⟨bDrw h.b, Nat.le_succ_of_le h.d⟩
theorem mSet5 {W0 W : World} {g : Nat} (h : BelowM W0.heap.size W0 W) (hg : W0.heap.size ≤ g) (a b c d e : Value) :
    BelowM W0.heap.size W0 (((((W.setCell ⟨g, 0, none⟩ a).setCell ⟨g, 1, none⟩ b).setCell ⟨g, 2, none⟩ c).setCell ⟨g, 3, none⟩ d).setCell ⟨g, 4, none⟩ e) :=
  mSet (mSet (mSet (mSet (mSet h _ _ hg) _ _ hg) _ _ hg) _ _ hg) _ _ hg
theorem drewN_eq (w : World) (q : Nat) : w.drewN q = { w with drawn := w.drawn + q } := by
  induction q with
  | zero => rfl
  | succ q ih => show (w.drewN q).drew = _; rw [ih]; rfl
theorem BelowM.grew {w w' : World} (h : BelowM w.heap.size w w') : Grew w w' := by
  obtain ⟨⟨h1, h2, h3, h4, h5⟩, h6⟩ := h
  refine ⟨w'.drawn - w.drawn, w'.heap.extract w.heap.size w'.heap.size, ?_⟩
  obtain ⟨H, T, D, O, U⟩ := w'
  obtain ⟨H0, T0, D0, O0, U0⟩ := w
  simp only at h1 h2 h3 h4 h5 h6
  subst h1 h2 h3
  rw [drewN_eq]
  unfold grow
  simp only [World.mk.injEq, and_true, true_and]
  refine ⟨?_, by omega⟩
  apply Array.ext_getElem?
  intro i
  by_cases hi : i < H0.size
  · rw [Array.getElem?_append_left hi]; exact h5 i hi
  · rw [Array.getElem?_append_right (by omega), Array.getElem?_extract]
    by_cases hj : i < H.size
    · rw [if_pos (by omega)]; congr 1; omega
    · rw [if_neg (by omega), Array.getElem?_eq_none (by omega)]
theorem copy_lookM {W1 : World} {g B : Nat} (q : Blk W1 g 45 #[.int .i64 0, .int .i64 0, .int .i64 0, .int .i64 0, .int .i64 0]) {A : Option Addr} {n : Nat} (c : Nat) {l : List Int} (h : Rd1 W1 B A n (ints l)) (hn : n ≤ 4) :
    ∃ W2, (Builtin.copy_ #[54, 54] 3 #[.slice (some ⟨g, 1, none⟩) 4 4, .slice A n c]).run Tryz.prog W1 = .ok (.int .i64 n) W2 ∧
      Blk W2 g 45 #[.int .i64 0, .int .i64 (Lk.of l).a, .int .i64 (Lk.of l).b, .int .i64 (Lk.of l).c, .int .i64 (Lk.of l).d] ∧ ∀ W0, BelowM W0.heap.size W0 W1 → W0.heap.size ≤ g → BelowM W0.heap.size W0 W2 := by
  have hl : l.length = n := by have := h.1; simpa [ints] using this
  have hsp := splice_of l (by omega)
  by_cases h0 : n = 0
  · subst h0
    have hln : l = [] := List.eq_nil_of_length_eq_zero hl
    subst hln
    exact ⟨W1, run_copy_none (P := Tryz.prog) W1 54 54 3 3 (some ⟨g, 1, none⟩) A 4 4 0 c under22 size3 (by simp), q, fun W0 hb _ => hb⟩
  · rcases h.2 with h2 | ⟨b, off, rfl, hbt, hc⟩
    · exact absurd h2 h0
    · have hmin : (ints l).length = Nat.min n 4 := by simp only [ints, List.length_map]; rw [hl]; exact (Nat.min_eq_left hn).symm
      have hr := run_copy_row (P := Tryz.prog) W1 54 54 3 3 g 1 4 4 ⟨b, off, none⟩ n c #[.int .i64 0, .int .i64 0, .int .i64 0, .int .i64 0, .int .i64 0] 45 (ints l) under22 size3 q hmin
        (fun j v hv => by
          have hadd : (⟨b, off, none⟩ : Addr).add j = ⟨b, off + j, none⟩ := by unfold Addr.add; split <;> simp_all
          rw [hadd]; exact hc j v hv) (by simp [ints]; omega) (fun v hv => by obtain ⟨z, _, rfl⟩ := List.mem_map.1 hv; rfl)
      have hil : (ints l).length = n := by simp [ints, hl]
      rw [show goInt (ints l).length = Value.int .i64 n by rw [hil]; rfl] at hr
      have e : ((#[Value.int .i64 0, .int .i64 0, .int .i64 0, .int .i64 0, .int .i64 0] : Array Value).toList.take 1 ++ ints l ++ (#[Value.int .i64 0, .int .i64 0, .int .i64 0, .int .i64 0, .int .i64 0] : Array Value).toList.drop (1 + (ints l).length)).toArray = #[.int .i64 0, .int .i64 (Lk.of l).a, .int .i64 (Lk.of l).b, .int .i64 (Lk.of l).c, .int .i64 (Lk.of l).d] := by
        rw [List.append_assoc]; exact hsp
      rw [e] at hr
      exact ⟨_, hr, setRow_heap W1 g _ _ 45 _ q, fun W0 hb hg => ⟨below_setRow hb.b hg _, hb.d⟩⟩
set_option maxRecDepth 100000 in
theorem lookof_m (A : Option Addr) (n c : Nat) (l : List Int) (w : World) (h : Rd1 w w.heap.size A n (ints l)) (hn : n ≤ 4) : Calls Tryz.prog 280 #[.slice A n c] w fun e w' => e = .returned (Lk.of l).v ∧ BelowM w.heap.size w w' := by
  have hl : l.length = n := by have := h.1; simpa [ints] using this
  have hyn : (Lk.of l).n = n := by rw [of_n, hl]
  have hb1 : BelowM w.heap.size w (w.alloc (.cells #[.int .i64 0, .int .i64 0, .int .i64 0, .int .i64 0, .int .i64 0] 45)) := mAlc (BelowM.refl _ _) _
  obtain ⟨W2, hrun, q3, hb2⟩ := copy_lookM (Blk.new w 45 #[.int .i64 0, .int .i64 0, .int .i64 0, .int .i64 0, .int .i64 0]) c (h.below hb1.b) hn
  have hB2 := hb2 w hb1 (Nat.le_refl _)
  replace hl := Lib.hid hl
  clear h hb2
  generalize Lk.of l = y at *
  obtain ⟨yn, ya, yb, yc, yd⟩ := y
  dsimp only at hyn q3
  subst hyn
  unfold Lk.v
  go_enter Tryz.func280, Tryz.ntmps280
  have z0 := q3.cell 0
  have z1 := q3.frozen 0
  simp only [List.getElem?_toArray, List.getElem?_cons_zero] at z0
  go_upto_region 1 with (fail)
  generalize w.alloc (.cells #[.int .i64 0, .int .i64 0, .int .i64 0, .int .i64 0, .int .i64 0] 45) = W1 at *
  go_upto_region 2 with (fail)
  have q4 := q3.put 0 (.int .i64 n)
  have hb4 := mSet hB2 ⟨w.heap.size, 0, none⟩ (.int .i64 n) (Nat.le_refl _)
  clear z0 z1 q3 hB2 hb1 hrun
  generalize W2.setCell ⟨w.heap.size, 0, none⟩ (.int .i64 n) = W4 at *
  have q5 : Blk W4 w.heap.size 45 (Lk.cells ⟨n, ya, yb, yc, yd⟩) := q4
  have a0 := q5.cell 0
  have a1 := q5.cell 1
  have a2 := q5.cell 2
  have a3 := q5.cell 3
  have a4 := q5.cell 4
  have f0 := q5.frozen 0
  have f1 := q5.frozen 1
  have f2 := q5.frozen 2
  have f3 := q5.frozen 3
  have f4 := q5.frozen 4
  simp only [Lk.cells, List.getElem?_toArray, List.getElem?_cons_zero, List.getElem?_cons_succ] at a0 a1 a2 a3 a4
  go_wp2_with fail
  exact bodyPost_ret (results_look rfl _ _ _ ⟨n, ya, yb, yc, yd⟩ rfl (put5 q5 ⟨n, ya, yb, yc, yd⟩)) rfl ⟨rfl, mSet5 hb4 (Nat.le_refl _) _ _ _ _ _⟩
set_option maxRecDepth 100000 in
set_option maxHeartbeats 4000000 in
theorem lcheck_m (x : Lk) (m : Int) (w : World) (hx : x.wf) : Calls Tryz.prog 244 #[x.v, .int .i64 m] w fun e w' => e = .returned (.int .i64 (lchk x m)) ∧ BelowM w.heap.size w w' := by
  have q0 := Blk.new w 45 x.cells
  have hb0 : BelowM w.heap.size w (w.alloc (.cells x.cells 45)) := mAlc (BelowM.refl _ _) _
  have hOf0 := Lib.hid (fun (W : World) (k : Nat) (hk : x.n = k) (h4 : k ≤ 4) (h : Blk W w.heap.size 45 x.cells) => lookof_m (some ⟨w.heap.size, 1, none⟩) k 4 x.l W (lk_rd h k hk h4) h4)
  have hC := Lib.hid (Lk.cellAt x)
  have hpo := Lib.hid (pad_of (x := x))
  have hne := Lib.hid (fun (h0 : 0 ≤ x.n) (h4 : x.n ≤ 4) (W : World) => look_neq (Lk.of x.l) x (of_wf hx h0 h4) hx W)
  unfold Lk.v
  unfold Lk.cells at q0 hb0 hOf0
  by_cases h1 : m < 1
  · have hE : lchk x m = 2 := by unfold lchk; rw [if_pos (by omega)]
    rw [hE]; clear hE
    go_enter Tryz.func244, Tryz.ntmps244
    go_wp2_with fail
    go_ret
    exact ⟨rfl, hb0⟩
  by_cases h2 : 8 < m
  · have hE : lchk x m = 2 := by unfold lchk; rw [if_pos (by omega)]
    rw [hE]; clear hE
    go_enter Tryz.func244, Tryz.ntmps244
    go_wp2_with fail
    go_ret
    exact ⟨rfl, hb0⟩
  by_cases h3 : x.n < 0
  · have hE : lchk x m = 3 := by unfold lchk; rw [if_neg (by omega), if_pos (by omega)]
    rw [hE]; clear hE hOf0 hne hpo
    go_enter Tryz.func244, Tryz.ntmps244
    go_upto_region 3 with (fail)
    generalize w.alloc (.cells #[.int .i64 x.n, .int .i64 x.a, .int .i64 x.b, .int .i64 x.c, .int .i64 x.d] 45) = W1 at *
    have c0 := q0.cell 0
    simp only [List.getElem?_toArray, List.getElem?_cons_zero] at c0
    have hAll : Hid (∀ w', BelowM W1.heap.size W1 w' → w'.cell? ⟨w.heap.size, 0, none⟩ = some (.int .i64 x.n) ∧ BelowM W1.heap.size W1 w') := Lib.hid fun w' h => ⟨cell_later h.b c0, h⟩
    have hFin : Hid (∀ w', BelowM W1.heap.size W1 w' → BelowM w.heap.size w w') := Lib.hid fun w' h => mStep hb0 h
    clear c0 q0 hb0
    refine wp_region_held_drew (S := (fun w' => w'.cell? ⟨w.heap.size, 0, none⟩ = some (.int .i64 x.n) ∧ BelowM W1.heap.size W1 w')) (by kernel_rfl) (hAll.out _ (mDrw (BelowM.refl _ _))) (fun hHeld => ?_)
    refine wpAnyH_take (i := 0) (oi := ⟨some 15, _, _, _, _, _⟩) (v := ?va1) rfl (by kernel_rfl) (by kernel_rfl) (by kernel_rfl) (fun _ _ _ h => h) (Or.inl ⟨by rfl, ?hya1⟩) (by assumption) ?resta1
    case hya1 => (intro w hSw; (try dsimp only at hSw); go_simp <;> with_reducible rfl)
    try simp only [Act.put, List.setIfInBounds_toArray, List.set_cons_zero, List.set_cons_succ]
    refine wpAnyH_take (i := 1) (oi := ⟨some 16, _, _, _, _, _⟩) (v := ?va2) rfl (by kernel_rfl) (by kernel_rfl) (by kernel_rfl) (fun _ _ _ h => h) (Or.inl ⟨by rfl, ?hya2⟩) (by assumption) ?resta2
    case hya2 => (intro w hSw; (try dsimp only at hSw); go_simp <;> with_reducible rfl)
    try simp only [Act.put, List.setIfInBounds_toArray, List.set_cons_zero, List.set_cons_succ]
    refine wpAnyH_take (i := 2) (oi := ⟨some 17, _, _, _, _, _⟩) (v := ?va3) rfl (by kernel_rfl) (by kernel_rfl) (by kernel_rfl) (fun _ _ _ h => h) (Or.inl ⟨by rfl, ?hya3⟩) (by assumption) ?resta3
    case hya3 => (intro w hSw; (try dsimp only at hSw); go_simp <;> with_reducible rfl)
    try simp only [Act.put, List.setIfInBounds_toArray, List.set_cons_zero, List.set_cons_succ]
    refine wpAnyH_take (i := 3) (oi := ⟨some 18, _, _, _, _, _⟩) (v := ?va4) rfl (by kernel_rfl) (by kernel_rfl) (by kernel_rfl) (fun _ _ _ h => h) (Or.inl ⟨by rfl, ?hya4⟩) (by assumption) ?resta4
    case hya4 => (intro w hSw; (try dsimp only at hSw); go_simp <;> with_reducible rfl)
    try simp only [Act.put, List.setIfInBounds_toArray, List.set_cons_zero, List.set_cons_succ]
    refine wpAnyH_take (i := 4) (oi := ⟨some 19, _, _, _, _, _⟩) (v := undef) rfl (by kernel_rfl) (by kernel_rfl) (by kernel_rfl) (fun _ _ _ h => h) (Or.inr ⟨by rfl, rfl⟩) (by assumption) ?_
    try simp only [Act.put, List.setIfInBounds_toArray, List.set_cons_zero, List.set_cons_succ]
    refine wpAnyH_take (i := 5) (oi := ⟨some 20, _, _, _, _, _⟩) (v := undef) rfl (by kernel_rfl) (by kernel_rfl) (by kernel_rfl) (fun _ _ _ h => h) (Or.inr ⟨by rfl, rfl⟩) (by assumption) ?_
    try simp only [Act.put, List.setIfInBounds_toArray, List.set_cons_zero, List.set_cons_succ]
    refine wpAnyH_take (i := 6) (oi := ⟨some 21, _, _, _, _, _⟩) (v := undef) rfl (by kernel_rfl) (by kernel_rfl) (by kernel_rfl) (fun _ _ _ h => h) (Or.inr ⟨by rfl, rfl⟩) (by assumption) ?_
    try simp only [Act.put, List.setIfInBounds_toArray, List.set_cons_zero, List.set_cons_succ]
    refine wpAnyH_take (i := 7) (oi := ⟨some 22, _, _, _, _, _⟩) (v := ?va8) rfl (by kernel_rfl) (by kernel_rfl) (by kernel_rfl) (fun _ _ _ h => h) (Or.inl ⟨by rfl, ?hya8⟩) (by assumption) ?resta8
    case hya8 => (intro w hSw; (try dsimp only at hSw); go_simp <;> with_reducible rfl)
    try simp only [Act.put, List.setIfInBounds_toArray, List.set_cons_zero, List.set_cons_succ]
    refine wpAnyH_take (i := 8) (oi := ⟨some 23, _, _, _, _, _⟩) (v := ?va9) rfl (by kernel_rfl) (by kernel_rfl) (by kernel_rfl) (fun _ _ _ h => h) (Or.inl ⟨by rfl, ?hya9⟩) (by assumption) ?resta9
    case hya9 => (intro w hSw; (try dsimp only at hSw); go_simp <;> with_reducible rfl)
    try simp only [Act.put, List.setIfInBounds_toArray, List.set_cons_zero, List.set_cons_succ]
    refine wpAnyH_take (i := 9) (oi := ⟨some 24, _, _, _, _, _⟩) (v := undef) rfl (by kernel_rfl) (by kernel_rfl) (by kernel_rfl) (fun _ _ _ h => h) (Or.inr ⟨by rfl, rfl⟩) (by assumption) ?_
    try simp only [Act.put, List.setIfInBounds_toArray, List.set_cons_zero, List.set_cons_succ]
    refine wpAnyH_take (i := 10) (oi := ⟨some 25, _, _, _, _, _⟩) (v := undef) rfl (by kernel_rfl) (by kernel_rfl) (by kernel_rfl) (fun _ _ _ h => h) (Or.inr ⟨by rfl, rfl⟩) (by assumption) ?_
    try simp only [Act.put, List.setIfInBounds_toArray, List.set_cons_zero, List.set_cons_succ]
    refine wpAnyH_take (i := 11) (oi := ⟨some 26, _, _, _, _, _⟩) (v := undef) rfl (by kernel_rfl) (by kernel_rfl) (by kernel_rfl) (fun _ _ _ h => h) (Or.inr ⟨by rfl, rfl⟩) (by assumption) ?_
    try simp only [Act.put, List.setIfInBounds_toArray, List.set_cons_zero, List.set_cons_succ]
    refine wpAnyH_take (i := 12) (oi := ⟨some 27, _, _, _, _, _⟩) (v := undef) rfl (by kernel_rfl) (by kernel_rfl) (by kernel_rfl) (fun _ _ _ h => h) (Or.inr ⟨by rfl, rfl⟩) (by assumption) ?_
    try simp only [Act.put, List.setIfInBounds_toArray, List.set_cons_zero, List.set_cons_succ]
    refine wpAnyH_take (i := 13) (oi := ⟨some 28, _, _, _, _, _⟩) (v := undef) rfl (by kernel_rfl) (by kernel_rfl) (by kernel_rfl) (fun _ _ _ h => h) (Or.inr ⟨by rfl, rfl⟩) (by assumption) ?_
    try simp only [Act.put, List.setIfInBounds_toArray, List.set_cons_zero, List.set_cons_succ]
    refine wpAnyH_take (i := 14) (oi := ⟨some 29, _, _, _, _, _⟩) (v := undef) rfl (by kernel_rfl) (by kernel_rfl) (by kernel_rfl) (fun _ _ _ h => h) (Or.inr ⟨by rfl, rfl⟩) (by assumption) ?_
    try simp only [Act.put, List.setIfInBounds_toArray, List.set_cons_zero, List.set_cons_succ]
    refine wpAnyH_take (i := 15) (oi := ⟨some 30, _, _, _, _, _⟩) (v := undef) rfl (by kernel_rfl) (by kernel_rfl) (by kernel_rfl) (fun _ _ _ h => h) (Or.inr ⟨by rfl, rfl⟩) (by assumption) ?_
    try simp only [Act.put, List.setIfInBounds_toArray, List.set_cons_zero, List.set_cons_succ]
    refine wpAnyH_take (i := 16) (oi := ⟨some 31, _, _, _, _, _⟩) (v := ?va17) rfl (by kernel_rfl) (by kernel_rfl) (by kernel_rfl) (fun _ _ _ h => h) (Or.inl ⟨by rfl, ?hya17⟩) (by assumption) ?resta17
    case hya17 => (intro w hSw; (try dsimp only at hSw); go_simp <;> with_reducible rfl)
    try simp only [Act.put, List.setIfInBounds_toArray, List.set_cons_zero, List.set_cons_succ]
    refine wpAnyH_take (i := 17) (oi := ⟨some 14, _, _, _, _, _⟩) (v := ?va18) rfl (by kernel_rfl) (by kernel_rfl) (by kernel_rfl) (fun _ _ _ h => h) (Or.inl ⟨by rfl, ?hya18⟩) (by assumption) ?resta18
    case hya18 => (intro w hSw; (try dsimp only at hSw); go_simp <;> with_reducible rfl)
    try simp only [Act.put, List.setIfInBounds_toArray, List.set_cons_zero, List.set_cons_succ]
    refine wpAnyH_done (by kernel_rfl) ?_ _
    go_wp2_with fail
    go_ret
    exact ⟨rfl, hFin.out _ (by repeat (first | assumption | exact BelowM.refl _ _ | (refine mStep ?_ (by assumption)) | (with_reducible refine mAlc ?_ _) | (with_reducible refine mDrw ?_)))⟩
  by_cases h4 : 4 < x.n
  · have hE : lchk x m = 3 := by unfold lchk; rw [if_neg (by omega), if_pos (by omega)]
    rw [hE]; clear hE hOf0 hne hpo
    go_enter Tryz.func244, Tryz.ntmps244
    go_upto_region 3 with (fail)
    generalize w.alloc (.cells #[.int .i64 x.n, .int .i64 x.a, .int .i64 x.b, .int .i64 x.c, .int .i64 x.d] 45) = W1 at *
    have c0 := q0.cell 0
    simp only [List.getElem?_toArray, List.getElem?_cons_zero] at c0
    have hAll : Hid (∀ w', BelowM W1.heap.size W1 w' → w'.cell? ⟨w.heap.size, 0, none⟩ = some (.int .i64 x.n) ∧ BelowM W1.heap.size W1 w') := Lib.hid fun w' h => ⟨cell_later h.b c0, h⟩
    have hFin : Hid (∀ w', BelowM W1.heap.size W1 w' → BelowM w.heap.size w w') := Lib.hid fun w' h => mStep hb0 h
    clear c0 q0 hb0
    refine wp_region_held_drew (S := (fun w' => w'.cell? ⟨w.heap.size, 0, none⟩ = some (.int .i64 x.n) ∧ BelowM W1.heap.size W1 w')) (by kernel_rfl) (hAll.out _ (mDrw (BelowM.refl _ _))) (fun hHeld => ?_)
    refine wpAnyH_take (i := 0) (oi := ⟨some 15, _, _, _, _, _⟩) (v := ?vb1) rfl (by kernel_rfl) (by kernel_rfl) (by kernel_rfl) (fun _ _ _ h => h) (Or.inl ⟨by rfl, ?hyb1⟩) (by assumption) ?restb1
    case hyb1 => (intro w hSw; (try dsimp only at hSw); go_simp <;> with_reducible rfl)
    try simp only [Act.put, List.setIfInBounds_toArray, List.set_cons_zero, List.set_cons_succ]
    refine wpAnyH_take (i := 1) (oi := ⟨some 16, _, _, _, _, _⟩) (v := ?vb2) rfl (by kernel_rfl) (by kernel_rfl) (by kernel_rfl) (fun _ _ _ h => h) (Or.inl ⟨by rfl, ?hyb2⟩) (by assumption) ?restb2
    case hyb2 => (intro w hSw; (try dsimp only at hSw); go_simp <;> with_reducible rfl)
    try simp only [Act.put, List.setIfInBounds_toArray, List.set_cons_zero, List.set_cons_succ]
    refine wpAnyH_take (i := 2) (oi := ⟨some 17, _, _, _, _, _⟩) (v := ?vb3) rfl (by kernel_rfl) (by kernel_rfl) (by kernel_rfl) (fun _ _ _ h => h) (Or.inl ⟨by rfl, ?hyb3⟩) (by assumption) ?restb3
    case hyb3 => (intro w hSw; (try dsimp only at hSw); go_simp <;> with_reducible rfl)
    try simp only [Act.put, List.setIfInBounds_toArray, List.set_cons_zero, List.set_cons_succ]
    refine wpAnyH_take (i := 3) (oi := ⟨some 18, _, _, _, _, _⟩) (v := ?vb4) rfl (by kernel_rfl) (by kernel_rfl) (by kernel_rfl) (fun _ _ _ h => h) (Or.inl ⟨by rfl, ?hyb4⟩) (by assumption) ?restb4
    case hyb4 => (intro w hSw; (try dsimp only at hSw); go_simp <;> with_reducible rfl)
    try simp only [Act.put, List.setIfInBounds_toArray, List.set_cons_zero, List.set_cons_succ]
    refine wpAnyH_take (i := 4) (oi := ⟨some 19, _, _, _, _, _⟩) (v := ?vb5) rfl (by kernel_rfl) (by kernel_rfl) (by kernel_rfl) (fun _ _ _ h => h) (Or.inl ⟨by rfl, ?hyb5⟩) (by assumption) ?restb5
    case hyb5 => (intro w hSw; (try dsimp only at hSw); go_simp <;> with_reducible rfl)
    try simp only [Act.put, List.setIfInBounds_toArray, List.set_cons_zero, List.set_cons_succ]
    refine wpAnyH_take (i := 5) (oi := ⟨some 20, _, _, _, _, _⟩) (v := ?vb6) rfl (by kernel_rfl) (by kernel_rfl) (by kernel_rfl) (fun _ _ _ h => h) (Or.inl ⟨by rfl, ?hyb6⟩) (by assumption) ?restb6
    case hyb6 => (intro w hSw; (try dsimp only at hSw); go_simp <;> with_reducible rfl)
    try simp only [Act.put, List.setIfInBounds_toArray, List.set_cons_zero, List.set_cons_succ]
    refine wpAnyH_take (i := 6) (oi := ⟨some 21, _, _, _, _, _⟩) (v := ?vb7) rfl (by kernel_rfl) (by kernel_rfl) (by kernel_rfl) (fun _ _ _ h => h) (Or.inl ⟨by rfl, ?hyb7⟩) (by assumption) ?restb7
    case hyb7 => (intro w hSw; (try dsimp only at hSw); go_simp <;> with_reducible rfl)
    try simp only [Act.put, List.setIfInBounds_toArray, List.set_cons_zero, List.set_cons_succ]
    refine wpAnyH_take (i := 7) (oi := ⟨some 22, _, _, _, _, _⟩) (v := ?vb8) rfl (by kernel_rfl) (by kernel_rfl) (by kernel_rfl) (fun _ _ _ h => h) (Or.inl ⟨by rfl, ?hyb8⟩) (by assumption) ?restb8
    case hyb8 => (intro w hSw; (try dsimp only at hSw); go_simp <;> with_reducible rfl)
    try simp only [Act.put, List.setIfInBounds_toArray, List.set_cons_zero, List.set_cons_succ]
    refine wpAnyH_take (i := 8) (oi := ⟨some 23, _, _, _, _, _⟩) (v := ?vb9) rfl (by kernel_rfl) (by kernel_rfl) (by kernel_rfl) (fun _ _ _ h => h) (Or.inl ⟨by rfl, ?hyb9⟩) (by assumption) ?restb9
    case hyb9 => (intro w hSw; (try dsimp only at hSw); go_simp <;> with_reducible rfl)
    try simp only [Act.put, List.setIfInBounds_toArray, List.set_cons_zero, List.set_cons_succ]
    refine wpAnyH_take (i := 9) (oi := ⟨some 24, _, _, _, _, _⟩) (v := undef) rfl (by kernel_rfl) (by kernel_rfl) (by kernel_rfl) (fun _ _ _ h => h) (Or.inr ⟨by rfl, rfl⟩) (by assumption) ?_
    try simp only [Act.put, List.setIfInBounds_toArray, List.set_cons_zero, List.set_cons_succ]
    refine wpAnyH_take (i := 10) (oi := ⟨some 25, _, _, _, _, _⟩) (v := undef) rfl (by kernel_rfl) (by kernel_rfl) (by kernel_rfl) (fun _ _ _ h => h) (Or.inr ⟨by rfl, rfl⟩) (by assumption) ?_
    try simp only [Act.put, List.setIfInBounds_toArray, List.set_cons_zero, List.set_cons_succ]
    refine wpAnyH_take (i := 11) (oi := ⟨some 26, _, _, _, _, _⟩) (v := undef) rfl (by kernel_rfl) (by kernel_rfl) (by kernel_rfl) (fun _ _ _ h => h) (Or.inr ⟨by rfl, rfl⟩) (by assumption) ?_
    try simp only [Act.put, List.setIfInBounds_toArray, List.set_cons_zero, List.set_cons_succ]
    refine wpAnyH_take (i := 12) (oi := ⟨some 27, _, _, _, _, _⟩) (v := undef) rfl (by kernel_rfl) (by kernel_rfl) (by kernel_rfl) (fun _ _ _ h => h) (Or.inr ⟨by rfl, rfl⟩) (by assumption) ?_
    try simp only [Act.put, List.setIfInBounds_toArray, List.set_cons_zero, List.set_cons_succ]
    refine wpAnyH_take (i := 13) (oi := ⟨some 28, _, _, _, _, _⟩) (v := undef) rfl (by kernel_rfl) (by kernel_rfl) (by kernel_rfl) (fun _ _ _ h => h) (Or.inr ⟨by rfl, rfl⟩) (by assumption) ?_
    try simp only [Act.put, List.setIfInBounds_toArray, List.set_cons_zero, List.set_cons_succ]
    refine wpAnyH_take (i := 14) (oi := ⟨some 29, _, _, _, _, _⟩) (v := undef) rfl (by kernel_rfl) (by kernel_rfl) (by kernel_rfl) (fun _ _ _ h => h) (Or.inr ⟨by rfl, rfl⟩) (by assumption) ?_
    try simp only [Act.put, List.setIfInBounds_toArray, List.set_cons_zero, List.set_cons_succ]
    refine wpAnyH_take (i := 15) (oi := ⟨some 30, _, _, _, _, _⟩) (v := undef) rfl (by kernel_rfl) (by kernel_rfl) (by kernel_rfl) (fun _ _ _ h => h) (Or.inr ⟨by rfl, rfl⟩) (by assumption) ?_
    try simp only [Act.put, List.setIfInBounds_toArray, List.set_cons_zero, List.set_cons_succ]
    refine wpAnyH_take (i := 16) (oi := ⟨some 31, _, _, _, _, _⟩) (v := ?vb17) rfl (by kernel_rfl) (by kernel_rfl) (by kernel_rfl) (fun _ _ _ h => h) (Or.inl ⟨by rfl, ?hyb17⟩) (by assumption) ?restb17
    case hyb17 => (intro w hSw; (try dsimp only at hSw); go_simp <;> with_reducible rfl)
    try simp only [Act.put, List.setIfInBounds_toArray, List.set_cons_zero, List.set_cons_succ]
    refine wpAnyH_take (i := 17) (oi := ⟨some 14, _, _, _, _, _⟩) (v := ?vb18) rfl (by kernel_rfl) (by kernel_rfl) (by kernel_rfl) (fun _ _ _ h => h) (Or.inl ⟨by rfl, ?hyb18⟩) (by assumption) ?restb18
    case hyb18 => (intro w hSw; (try dsimp only at hSw); go_simp <;> with_reducible rfl)
    try simp only [Act.put, List.setIfInBounds_toArray, List.set_cons_zero, List.set_cons_succ]
    refine wpAnyH_done (by kernel_rfl) ?_ _
    go_wp2_with fail
    go_ret
    exact ⟨rfl, hFin.out _ (by repeat (first | assumption | exact BelowM.refl _ _ | (refine mStep ?_ (by assumption)) | (with_reducible refine mAlc ?_ _) | (with_reducible refine mDrw ?_)))⟩
  have hE : lchk x m = if padB x = false then 3 else if inB x m = false then 14 else 0 := by unfold lchk; rw [if_neg (by omega), if_neg (by omega)]
  rw [hE]; clear hE
  obtain ⟨n, hn⟩ := Int.eq_ofNat_of_zero_le (show 0 ≤ x.n by omega)
  have hI := Lib.hid (inB_iff x m)
  have hpo' := Lib.hid (hpo.out (by omega) (by omega))
  have hne' := hne.out (by omega) (by omega)
  have hOf1 := Lib.hid (fun (W : World) h => hOf0.out W n hn (by omega) h)
  clear hpo hne hOf0
  have hN := Lib.hid hn
  have hpd : decide (Lk.of x.l = x) = padB x := by
    cases h : padB x
    · exact decide_eq_false fun e => by have := hpo'.out.1 e; rw [h] at this; cases this
    · exact decide_eq_true (hpo'.out.2 h)
  rw [hpd] at hne'
  clear hpo'
  replace hpd := Lib.hid hpd
  generalize padB x = pb at *
  generalize inB x m = q at hI ⊢
  generalize hs : x.s = s at *
  clear hs
  generalize Lk.of x.l = y at *
  unfold Lk.v at hOf1 hne'
  generalize hxn : x.n = xn at *
  clear hxn
  subst hn
  go_enter Tryz.func244, Tryz.ntmps244
  go_upto_region 3 with (fail)
  generalize w.alloc (.cells #[.int .i64 n, .int .i64 x.a, .int .i64 x.b, .int .i64 x.c, .int .i64 x.d] 45) = W1 at *
  have c0 := q0.cell 0
  have c1 := q0.cell 1
  have c2 := q0.cell 2
  have c3 := q0.cell 3
  have c4 := q0.cell 4
  simp only [List.getElem?_toArray, List.getElem?_cons_zero, List.getElem?_cons_succ] at c0 c1 c2 c3 c4
  have hn0 : (0 : Int) ≤ n := by omega
  have hn4 : (n : Int) ≤ 4 := by omega
  have hAll : Hid (∀ w', BelowM W1.heap.size W1 w' → w'.cell? ⟨w.heap.size, 0, none⟩ = some (.int .i64 n) ∧ w'.cell? ⟨w.heap.size, 1, none⟩ = some (.int .i64 x.a) ∧ w'.cell? ⟨w.heap.size, 2, none⟩ = some (.int .i64 x.b) ∧ w'.cell? ⟨w.heap.size, 3, none⟩ = some (.int .i64 x.c) ∧ w'.cell? ⟨w.heap.size, 4, none⟩ = some (.int .i64 x.d) ∧ BelowM W1.heap.size W1 w') :=
    Lib.hid fun w' h => ⟨cell_later h.b c0, cell_later h.b c1, cell_later h.b c2, cell_later h.b c3, cell_later h.b c4, h⟩
  have hOf := Lib.hid (fun (W : World) (h : BelowM W1.heap.size W1 W) => hOf1.out W (q0.step h.b))
  clear hOf1 c0 c1 c2 c3 c4
  go_cut [14] (fun s14 wx => s14 = .bool (!pb) ∧ BelowM W1.heap.size W1 wx)
  case first =>
    refine wp_region_held_drew (S := (fun w' => w'.cell? ⟨w.heap.size, 0, none⟩ = some (.int .i64 n) ∧ w'.cell? ⟨w.heap.size, 1, none⟩ = some (.int .i64 x.a) ∧ w'.cell? ⟨w.heap.size, 2, none⟩ = some (.int .i64 x.b) ∧ w'.cell? ⟨w.heap.size, 3, none⟩ = some (.int .i64 x.c) ∧ w'.cell? ⟨w.heap.size, 4, none⟩ = some (.int .i64 x.d) ∧ BelowM W1.heap.size W1 w')) (by kernel_rfl) (hAll.out _ (mDrw (BelowM.refl _ _))) (fun hHeld => ?_)
    refine wpAnyH_take (i := 0) (oi := ⟨some 15, _, _, _, _, _⟩) (v := ?vc1) rfl (by kernel_rfl) (by kernel_rfl) (by kernel_rfl) (fun _ _ _ h => h) (Or.inl ⟨by rfl, ?hyc1⟩) (by assumption) ?restc1
    case hyc1 => (intro w hSw; (try dsimp only at hSw); go_simp <;> with_reducible rfl)
    try simp only [Act.put, List.setIfInBounds_toArray, List.set_cons_zero, List.set_cons_succ]
    refine wpAnyH_take (i := 1) (oi := ⟨some 16, _, _, _, _, _⟩) (v := ?vc2) rfl (by kernel_rfl) (by kernel_rfl) (by kernel_rfl) (fun _ _ _ h => h) (Or.inl ⟨by rfl, ?hyc2⟩) (by assumption) ?restc2
    case hyc2 => (intro w hSw; (try dsimp only at hSw); go_simp <;> with_reducible rfl)
    try simp only [Act.put, List.setIfInBounds_toArray, List.set_cons_zero, List.set_cons_succ]
    refine wpAnyH_take (i := 2) (oi := ⟨some 17, _, _, _, _, _⟩) (v := ?vc3) rfl (by kernel_rfl) (by kernel_rfl) (by kernel_rfl) (fun _ _ _ h => h) (Or.inl ⟨by rfl, ?hyc3⟩) (by assumption) ?restc3
    case hyc3 => (intro w hSw; (try dsimp only at hSw); go_simp <;> with_reducible rfl)
    try simp only [Act.put, List.setIfInBounds_toArray, List.set_cons_zero, List.set_cons_succ]
    refine wpAnyH_take (i := 3) (oi := ⟨some 18, _, _, _, _, _⟩) (v := ?vc4) rfl (by kernel_rfl) (by kernel_rfl) (by kernel_rfl) (fun _ _ _ h => h) (Or.inl ⟨by rfl, ?hyc4⟩) (by assumption) ?restc4
    case hyc4 => (intro w hSw; (try dsimp only at hSw); go_simp <;> with_reducible rfl)
    try simp only [Act.put, List.setIfInBounds_toArray, List.set_cons_zero, List.set_cons_succ]
    refine wpAnyH_take (i := 4) (oi := ⟨some 19, _, _, _, _, _⟩) (v := ?vc5) rfl (by kernel_rfl) (by kernel_rfl) (by kernel_rfl) (fun _ _ _ h => h) (Or.inl ⟨by rfl, ?hyc5⟩) (by assumption) ?restc5
    case hyc5 => (intro w hSw; (try dsimp only at hSw); go_simp <;> with_reducible rfl)
    try simp only [Act.put, List.setIfInBounds_toArray, List.set_cons_zero, List.set_cons_succ]
    refine wpAnyH_take (i := 5) (oi := ⟨some 20, _, _, _, _, _⟩) (v := ?vc6) rfl (by kernel_rfl) (by kernel_rfl) (by kernel_rfl) (fun _ _ _ h => h) (Or.inl ⟨by rfl, ?hyc6⟩) (by assumption) ?restc6
    case hyc6 => (intro w hSw; (try dsimp only at hSw); go_simp <;> with_reducible rfl)
    try simp only [Act.put, List.setIfInBounds_toArray, List.set_cons_zero, List.set_cons_succ]
    refine wpAnyH_take (i := 6) (oi := ⟨some 21, _, _, _, _, _⟩) (v := ?vc7) rfl (by kernel_rfl) (by kernel_rfl) (by kernel_rfl) (fun _ _ _ h => h) (Or.inl ⟨by rfl, ?hyc7⟩) (by assumption) ?restc7
    case hyc7 => (intro w hSw; (try dsimp only at hSw); go_simp <;> with_reducible rfl)
    try simp only [Act.put, List.setIfInBounds_toArray, List.set_cons_zero, List.set_cons_succ]
    refine wpAnyH_take (i := 7) (oi := ⟨some 22, _, _, _, _, _⟩) (v := ?vc8) rfl (by kernel_rfl) (by kernel_rfl) (by kernel_rfl) (fun _ _ _ h => h) (Or.inl ⟨by rfl, ?hyc8⟩) (by assumption) ?restc8
    case hyc8 => (intro w hSw; (try dsimp only at hSw); go_simp <;> with_reducible rfl)
    try simp only [Act.put, List.setIfInBounds_toArray, List.set_cons_zero, List.set_cons_succ]
    refine wpAnyH_take (i := 8) (oi := ⟨some 23, _, _, _, _, _⟩) (v := ?vc9) rfl (by kernel_rfl) (by kernel_rfl) (by kernel_rfl) (fun _ _ _ h => h) (Or.inl ⟨by rfl, ?hyc9⟩) (by assumption) ?restc9
    case hyc9 => (intro w hSw; (try dsimp only at hSw); go_simp <;> with_reducible rfl)
    try simp only [Act.put, List.setIfInBounds_toArray, List.set_cons_zero, List.set_cons_succ]
    refine wpAnyH_take (i := 9) (oi := ⟨some 24, _, _, _, _, _⟩) (v := ?vc10) rfl (by kernel_rfl) (by kernel_rfl) (by kernel_rfl) (fun _ _ _ h => h) (Or.inl ⟨by rfl, ?hyc10⟩) (by assumption) ?restc10
    case hyc10 => (intro w hSw; (try dsimp only at hSw); go_simp <;> with_reducible rfl)
    try simp only [Act.put, List.setIfInBounds_toArray, List.set_cons_zero, List.set_cons_succ]
    refine wpAnyH_take (i := 10) (oi := ⟨some 25, _, _, _, _, _⟩) (v := ?vc11) rfl (by kernel_rfl) (by kernel_rfl) (by kernel_rfl) (fun _ _ _ h => h) (Or.inl ⟨by rfl, ?hyc11⟩) (by assumption) ?restc11
    case hyc11 => (intro w hSw; (try dsimp only at hSw); go_simp <;> with_reducible rfl)
    try simp only [Act.put, List.setIfInBounds_toArray, List.set_cons_zero, List.set_cons_succ]
    refine wpAnyH_take (i := 11) (oi := ⟨some 26, _, _, _, _, _⟩) (v := ?vc12) rfl (by kernel_rfl) (by kernel_rfl) (by kernel_rfl) (fun _ _ _ h => h) (Or.inl ⟨by rfl, ?hyc12⟩) (by assumption) ?restc12
    case hyc12 => (intro w hSw; (try dsimp only at hSw); go_simp <;> with_reducible rfl)
    try simp only [Act.put, List.setIfInBounds_toArray, List.set_cons_zero, List.set_cons_succ]
    refine wpAnyH_take (i := 12) (oi := ⟨some 27, _, _, _, _, _⟩) (v := ?vc13) rfl (by kernel_rfl) (by kernel_rfl) (by kernel_rfl) (fun _ _ _ h => h) (Or.inl ⟨by rfl, ?hyc13⟩) (by assumption) ?restc13
    case hyc13 => (intro w hSw; (try dsimp only at hSw); go_simp <;> with_reducible rfl)
    try simp only [Act.put, List.setIfInBounds_toArray, List.set_cons_zero, List.set_cons_succ]
    refine wpAnyH_take (i := 14) (oi := ⟨some 29, _, _, _, _, _⟩) (v := ?vc14) rfl (by kernel_rfl) (by kernel_rfl) (by kernel_rfl) (fun _ _ _ h => h) (Or.inl ⟨by rfl, ?hyc14⟩) (by assumption) ?restc14
    case hyc14 => (intro w hSw; (try dsimp only at hSw); go_simp <;> with_reducible rfl)
    try simp only [Act.put, List.setIfInBounds_toArray, List.set_cons_zero, List.set_cons_succ]
    refine wpAnyH_ready (rs := [13]) (by kernel_rfl) (by simp) ?_
    refine AllReadyH.cons (o := ⟨some 28, _, _, _, _, _⟩) rfl (fun K hK => ?_) ?_
    · go_simp
      go_at_call 280
      refine (hOf.out _ (by repeat (first | assumption | exact BelowM.refl _ _ | (refine mStep ?_ (by assumption)) | (with_reducible refine mAlc ?_ _) | (with_reducible refine mDrw ?_)))).mono ?_
      rintro e w1 ⟨rfl, hb1⟩
      go_wp2_with fail
      refine hK.out _ _ ?_ (fun hHeld => ?_)
      · (refine hAll.out _ ?_; repeat (first | assumption | exact BelowM.refl _ _ | (refine mStep ?_ (by assumption)) | (with_reducible refine mAlc ?_ _) | (with_reducible refine mDrw ?_)))
      clear hK K
      try simp only [Act.put, List.setIfInBounds_toArray, List.set_cons_zero, List.set_cons_succ]
      refine wpAnyH_take (i := 15) (oi := ⟨some 30, _, _, _, _, _⟩) (v := ?vc15) rfl (by kernel_rfl) (by kernel_rfl) (by kernel_rfl) (fun _ _ _ h => h) (Or.inl ⟨by rfl, ?hyc15⟩) (by assumption) ?restc15
      case hyc15 => (intro w hSw; (try dsimp only at hSw); go_simp <;> with_reducible rfl)
      try simp only [Act.put, List.setIfInBounds_toArray, List.set_cons_zero, List.set_cons_succ]
      refine wpAnyH_take (i := 16) (oi := ⟨some 31, _, _, _, _, _⟩) (v := ?vc16) rfl (by kernel_rfl) (by kernel_rfl) (by kernel_rfl) (fun _ _ _ h => h) (Or.inl ⟨by rfl, ?hyc16⟩) (by assumption) ?restc16
      case hyc16 => (intro w hSw; (try dsimp only at hSw); go_simp <;> with_reducible rfl)
      try simp only [Act.put, List.setIfInBounds_toArray, List.set_cons_zero, List.set_cons_succ]
      refine wpAnyH_take (i := 17) (oi := ⟨some 14, _, _, _, _, _⟩) (v := ?vc17) rfl (by kernel_rfl) (by kernel_rfl) (by kernel_rfl) (fun _ _ _ h => h) (Or.inl ⟨by rfl, ?hyc17⟩) (by assumption) ?restc17
      case hyc17 => (intro w hSw; (try dsimp only at hSw); go_simp <;> with_reducible rfl)
      try simp only [Act.put, List.setIfInBounds_toArray, List.set_cons_zero, List.set_cons_succ]
      refine wpAnyH_done (by kernel_rfl) ?_ _
      go_wp2_with fail
      go_meet
      exact ⟨rfl, (by repeat (first | assumption | exact BelowM.refl _ _ | (refine mStep ?_ (by assumption)) | (with_reducible refine mAlc ?_ _) | (with_reducible refine mDrw ?_)))⟩
    exact AllReadyH.nil
  case rest =>
    obtain ⟨rfl, hbc⟩ := hcut
    have qc := q0.step hbc.b
    have hb := mStep hb0 hbc
    clear q0 hb0 hAll hOf hne' hbc
    cases pb
    · go_wp2_with fail
      go_ret
      exact ⟨rfl, hb⟩
    · have z0 := qc.cell 0
      simp only [List.getElem?_toArray, List.getElem?_cons_zero] at z0
      go_wp2_with fail
      go_loopg [37] n (fun k i wr => ∃ j : Nat, wr = wc ∧ i = .int .i64 j ∧ j + k = n ∧ ∀ i : Nat, i < j → 0 ≤ s i ∧ s i < m)
      case atStart => exact ⟨0, rfl, rfl, by omega, by intros; omega⟩
      case round =>
        obtain ⟨j, rfl, rfl, hj3, hg⟩ := hrel
        replace hg := Lib.hid hg
        replace hj3 := Lib.hid hj3
        by_cases hj : j < n
        · have hj4 : j < 4 := by omega
          have hc : wr.cell? ⟨w.heap.size, 1 + j, none⟩ = some (.int .i64 (s j)) := by rw [qc.cell]; exact hC.out j hj4
          by_cases hz : s j < 0
          · have hqF : q = false := by
              cases q
              · rfl
              · exact absurd (hI.out.1 rfl j hj4 (by omega)).1 (by omega)
            subst hqF
            go_wp2_with fail
            go_ret
            exact ⟨rfl, hb⟩
          · by_cases hz2 : s j < m
            · have hG := Lib.hid (show ∀ i : Nat, i < j + 1 → 0 ≤ s i ∧ s i < m by
                intro i h1
                by_cases e : i = j
                · rw [e]; exact ⟨by omega, hz2⟩
                · exact hg.out i (by omega))
              go_wp2_with fail
              go_roundg (n - (j + 1))
              case measure => have := hj3.out; omega
              case rel => exact ⟨j + 1, rfl, by go_num, by have := hj3.out; omega, hG.out⟩
            · have hqF : q = false := by
                cases q
                · rfl
                · exact absurd (hI.out.1 rfl j hj4 (by omega)).2 hz2
              subst hqF
              go_wp2_with fail
              go_ret
              exact ⟨rfl, hb⟩
        · have hqT : q = true := hI.out.2 fun i h4 hn => hg.out i (by omega)
          subst hqT
          go_wp2_with fail
          go_ret
          exact ⟨rfl, hb⟩
end Go.Proofs.YtjnmkdahbcmfaaaGreat

/- look.right at right looks: no draw taken back. -/
namespace Go.Proofs.YtjnmkdahbcmfaaaGreat
open Go.ChangeShapes Go.WideShapes Go.ChangeAt Go.RowKit Go.Sort
set_option linter.unusedVariables false
def RetR0 (w : World) (e : Ending) (w' : World) : Prop := e = .returned (.int .i64 0) ∧ BelowM w.heap.size w w'
set_option maxHeartbeats 2000000 in
theorem right_m (m : Int) (A : Option Addr) (n c : Nat) (l : List Lk) (w : World) (hn : n ≤ 100000) (ha : RdL w w.heap.size A n l) (hr : ∀ x ∈ l, x.right m) (hm : m ≤ 8) (hm1 : 1 ≤ m) :
    Calls Tryz.prog 281 #[.int .i64 m, .slice A n c] w (RetR0 w) := by
  have hl := Lib.hid ha.1
  have hP := Lib.hid (fun (w' : World) (h2 : BelowM w.heap.size w w') => (show RetR0 w (.returned (.int .i64 0)) w' from ⟨rfl, h2⟩))
  go_enter Tryz.func281, Tryz.ntmps281
  go_wp2_with fail
  go_loopg [10] n (fun gk s wr => ∃ i : Nat, s = .int .i64 i ∧ i + gk = n ∧ RdL wr w.heap.size A n l ∧ BelowM w.heap.size w wr)
  case atStart => exact ⟨0, rfl, by omega, ha, BelowM.refl _ _⟩
  case round =>
    clear ha
    obtain ⟨i, rfl, hi, ha, hb⟩ := hrel
    replace hi := Lib.hid hi
    by_cases hin : i < n
    · have hil : i < l.length := by have := hl.out; omega
      have hx : l[i]? = some l[i] := List.getElem?_eq_getElem hil
      obtain ⟨b, off, rfl, hbt, x0, x1, x2, x3, x4⟩ := ha.get hx
      have hxr := hr _ (List.getElem_mem hil)
      have hx8 := right_mono hxr hm (by omega)
      have hchk := Lib.hid (fun w => lcheck_m l[i] m w (right_wf hx8))
      unfold Lk.v at hchk
      generalize hy : l[i] = x at *
      replace hy := Lib.hid hy
      replace hx := Lib.hid hx
      go_upto_region 4 with (fail)
      change Code.wp Tryz.prog _ _ _ (lay5 wr x)
      have hbl : BelowM wr.heap.size wr (lay5 wr x) := ⟨lay5_below wr x, Nat.le_refl _⟩
      have q4 := lay5_blk wr x
      generalize lay5 wr x = W1 at *
      have d0 := q4.cell 0
      have d1 := q4.cell 1
      have d2 := q4.cell 2
      have d3 := q4.cell 3
      have d4 := q4.cell 4
      simp only [Lk.cells, List.getElem?_toArray, List.getElem?_cons_zero, List.getElem?_cons_succ] at d0 d1 d2 d3 d4
      go_wp2_with (go_at_call 244; refine (hchk.out _).mono ?_; rintro e w1 ⟨rfl, hb1⟩; rw [show lchk x m = 0 from hxr])
      have hb3 := mStep hbl hb1
      go_roundg (n - (i + 1))
      case measure => have := hi.out; omega
      case rel => exact ⟨i + 1, by go_num, by have := hi.out; omega, ha.below (hb3.b.mono hb.b.size), mStep hb hb3⟩
    · go_wp2_with fail
      go_ret
      exact hP.out _ hb
end Go.Proofs.YtjnmkdahbcmfaaaGreat

/- look.Compare at right looks: no draw taken back. -/
namespace Go.Proofs.YtjnmkdahbcmfaaaGreat
open Go.ChangeShapes Go.WideShapes Go.ChangeAt Go.RowKit Go.Sort
set_option linter.unusedVariables false
def RetC2 (w : World) (r : Int) (e : Ending) (w' : World) : Prop := e = .returned (.tuple #[.int .i64 r, .int .i64 0]) ∧ BelowM w.heap.size w w'
theorem rd_two {W : World} {g : Nat} {x y : Lk} (q : Blk W g 45 #[.int .i64 x.n, .int .i64 x.a, .int .i64 x.b, .int .i64 x.c, .int .i64 x.d, .int .i64 y.n, .int .i64 y.a, .int .i64 y.b, .int .i64 y.c, .int .i64 y.d]) : RdL W W.heap.size (some ⟨g, 0, none⟩) 2 [x, y] := by
  refine ⟨rfl, .inr ⟨g, 0, rfl, q.lt, fun i z hz j hj => ?_⟩⟩
  have hi : i < 2 := (List.getElem?_eq_some_iff.1 hz).1
  have : i = 0 ∨ i = 1 := by omega
  have hj' : j = 0 ∨ j = 1 ∨ j = 2 ∨ j = 3 ∨ j = 4 := by omega
  rcases this with rfl | rfl <;> cases hz <;> rcases hj' with rfl | rfl | rfl | rfl | rfl <;> (rw [q.cell]; rfl)
theorem mDrwN {W0 W : World} (h : BelowM W0.heap.size W0 W) (n : Nat) : BelowM W0.heap.size W0 (W.drewN n) := by
  induction n with
  | zero => exact h
  | succ n ih => exact mDrw ih
set_option maxRecDepth 100000 in
set_option maxHeartbeats 4000000 in
theorem cmp_m (x y : Lk) (w : World) (hx : x.right 8) (hy : y.right 8) : Calls Tryz.prog 245 #[x.v, y.v] w (RetC2 w (lcmp x y)) := by
  have hF := Lib.hid (fun (r : Int) (w' : World) (h2 : BelowM w.heap.size w w') => (show RetC2 w r (.returned (.tuple #[.int .i64 r, .int .i64 0])) w' from ⟨rfl, h2⟩))
  have hRt := Lib.hid (fun (W : World) (g : Nat) (c : Nat) (h : RdL W W.heap.size (some ⟨g, 0, none⟩) 2 [x, y]) => right_m 8 (some ⟨g, 0, none⟩) 2 c [x, y] W (by omega) h (by intro z hz; rcases List.mem_cons.1 hz with rfl | hz; exact hx; rcases List.mem_cons.1 hz with rfl | hz; exact hy; cases hz) (by omega) (by omega))
  have hpq := Lib.hid (lcmp_part hx hy)
  have hal := Lib.hid (lcmp_all hx hy)
  have heq := Lib.hid (fun (h : lcmp x y = 0) => lcmp_eq hx hy h)
  have hbe := Lib.hid (fun (W : World) => look_eql x y (right_wf hx) (right_wf hy) W)
  unfold Lk.v
  go_enter Tryz.func245, Tryz.ntmps245
  go_upto_region 1 with (fail)
  have hb0 : BelowM w.heap.size w ((w.alloc (.cells #[.int .i64 x.n, .int .i64 x.a, .int .i64 x.b, .int .i64 x.c, .int .i64 x.d] 45)).alloc (.cells #[.int .i64 y.n, .int .i64 y.a, .int .i64 y.b, .int .i64 y.c, .int .i64 y.d] 45)) := mAlc (mAlc (BelowM.refl _ _) _) _
  have q1 : Blk ((w.alloc (.cells #[.int .i64 x.n, .int .i64 x.a, .int .i64 x.b, .int .i64 x.c, .int .i64 x.d] 45)).alloc (.cells #[.int .i64 y.n, .int .i64 y.a, .int .i64 y.b, .int .i64 y.c, .int .i64 y.d] 45)) w.heap.size 45 x.cells := (Blk.new _ _ _).alloc _
  have q2 : Blk ((w.alloc (.cells #[.int .i64 x.n, .int .i64 x.a, .int .i64 x.b, .int .i64 x.c, .int .i64 x.d] 45)).alloc (.cells #[.int .i64 y.n, .int .i64 y.a, .int .i64 y.b, .int .i64 y.c, .int .i64 y.d] 45)) (w.heap.size + 1) 45 y.cells := Blk.newAt _ _ _ _ (by simp)
  generalize (w.alloc (.cells #[.int .i64 x.n, .int .i64 x.a, .int .i64 x.b, .int .i64 x.c, .int .i64 x.d] 45)).alloc (.cells #[.int .i64 y.n, .int .i64 y.a, .int .i64 y.b, .int .i64 y.c, .int .i64 y.d] 45) = W1 at *
  have a0 := q1.cell 0
  have a1 := q1.cell 1
  have a2 := q1.cell 2
  have a3 := q1.cell 3
  have a4 := q1.cell 4
  have e0 := q2.cell 0
  have e1 := q2.cell 1
  have e2 := q2.cell 2
  have e3 := q2.cell 3
  have e4 := q2.cell 4
  simp only [Lk.cells, List.getElem?_toArray, List.getElem?_cons_zero, List.getElem?_cons_succ] at a0 a1 a2 a3 a4 e0 e1 e2 e3 e4
  go_upto_region 2 with (go_at_call 281; refine (hRt.out _ _ _ (rd_two (Blk.new _ _ _))).mono ?_; rintro e w3 ⟨rfl, hb3⟩)
  have Q1 := (q1.alloc (.cells #[.int .i64 x.n, .int .i64 x.a, .int .i64 x.b, .int .i64 x.c, .int .i64 x.d, .int .i64 y.n, .int .i64 y.a, .int .i64 y.b, .int .i64 y.c, .int .i64 y.d] 45)).step hb3.b
  have Q2 := (q2.alloc (.cells #[.int .i64 x.n, .int .i64 x.a, .int .i64 x.b, .int .i64 x.c, .int .i64 x.d, .int .i64 y.n, .int .i64 y.a, .int .i64 y.b, .int .i64 y.c, .int .i64 y.d] 45)).step hb3.b
  have hbw := mStep (mAlc hb0 (.cells #[.int .i64 x.n, .int .i64 x.a, .int .i64 x.b, .int .i64 x.c, .int .i64 x.d, .int .i64 y.n, .int .i64 y.a, .int .i64 y.b, .int .i64 y.c, .int .i64 y.d] 45)) hb3
  clear hb3 hb0 q1 q2 a0 a1 a2 a3 a4 e0 e1 e2 e3 e4 hRt
  have a0 := Q1.cell 0
  have a1 := Q1.cell 1
  have a2 := Q1.cell 2
  have a3 := Q1.cell 3
  have a4 := Q1.cell 4
  have e0 := Q2.cell 0
  have e1 := Q2.cell 1
  have e2 := Q2.cell 2
  have e3 := Q2.cell 3
  have e4 := Q2.cell 4
  simp only [Lk.cells, List.getElem?_toArray, List.getElem?_cons_zero, List.getElem?_cons_succ] at a0 a1 a2 a3 a4 e0 e1 e2 e3 e4
  have hCx := Lib.hid (fun (j : Nat) (hj : j < 4) => (Q1.cell (1 + j)).trans (Lk.cellAt x j hj))
  have hDx := Lib.hid (fun (j : Nat) (hj : j < 4) => (Q2.cell (1 + j)).trans (Lk.cellAt y j hj))
  have h1 := ((right_iff x 8).1 hx).2.1
  have h2 := ((right_iff y 8).1 hy).2.1
  obtain ⟨n, hn⟩ := Int.eq_ofNat_of_zero_le h1.1
  obtain ⟨m, hm⟩ := Int.eq_ofNat_of_zero_le h2.1
  have hE := hbe.out
  have hE2 := fun W => look_same x y (right_wf hx) (right_wf hy) W
  unfold Lk.v at hE hE2
  obtain ⟨eq, heqd⟩ : ∃ eq, eq = decide (x = y) := ⟨_, rfl⟩
  rw [← heqd] at hE hE2
  replace heqd := Lib.hid heqd
  generalize hs1 : x.s = s at *
  generalize hs2 : y.s = t at *
  generalize x.n = xn at *
  generalize x.a = xa at *
  generalize x.b = xb at *
  generalize x.c = xc at *
  generalize x.d = xd at *
  generalize y.n = yn at *
  generalize y.a = ya at *
  generalize y.b = yb at *
  generalize y.c = yc at *
  generalize y.d = yd at *
  subst hn hm
  cases eq
  · have hz : lcmp x y ≠ 0 := fun h => by have := heqd.out; rw [heq.out h] at this; simp at this
    generalize lcmp x y = R at *
    replace hz := Lib.hid hz
    go_upto_region 4 with (fail)
    clear hE hE2 a1 a2 a3 a4 e1 e2 e3 e4 hbe Q1 Q2 heq
    go_upto_region 5 with (fail)
    go_loopg [25] 4 (fun k i wr => ∃ j q : Nat, wr = w3.drewN q ∧ i = .int .i64 j ∧ j ≤ n ∧ j ≤ m ∧ j + k = 4 ∧ ∀ i : Nat, i < j → s i = t i)
    case atStart => exact ⟨0, 0, rfl, rfl, by omega, by omega, by omega, by intros; omega⟩
    case round =>
      obtain ⟨j, q, rfl, rfl, hj1, hj2, hj3, hg⟩ := hrel
      replace hg := Lib.hid hg
      replace hj3 := Lib.hid hj3
      by_cases ha : j < n
      · by_cases hb : j < m
        · have hj4 : j < 4 := by omega
          have hc := hCx.out j hj4
          have hd := hDx.out j hj4
          by_cases he : s j = t j
          · have hzb : (s j != t j) = false := by simp [he]
            have hG := Lib.hid (show ∀ i : Nat, i < j + 1 → s i = t i by
              intro i h1
              by_cases e : i = j
              · rw [e]; exact he
              · exact hg.out i (by omega))
            clear he
            go_wp2_with fail
            go_quiet (fail)
            go_wp2_with fail
            go_roundg (4 - (j + 1))
            case measure => have := hj3.out; omega
            case rel => exact ⟨j + 1, _, rfl, by go_num, by omega, by omega, by have := hj3.out; omega, hG.out⟩
          · have hzb : (s j != t j) = true := by simp [he]
            have hR := hpq.out j (by omega) (by omega) hg.out he
            by_cases hl : s j < t j
            · rw [if_pos hl] at hR
              subst hR
              clear he
              go_wp2_with fail
              go_quiet (fail)
              go_wp2_with fail
              go_quiet (fail)
              go_wp2_with fail
              go_ret2
              exact hF.out _ _ (mDrwN (mDrwN (mDrwN hbw _) _) _)
            · rw [if_neg hl] at hR
              subst hR
              clear he
              go_wp2_with fail
              go_quiet (fail)
              go_wp2_with fail
              go_quiet (fail)
              go_wp2_with fail
              go_ret2
              exact hF.out _ _ (mDrwN (mDrwN (mDrwN hbw _) _) _)
        · have hR := hal.out fun i _ _ => hg.out i (by omega)
          rw [if_neg (by omega)] at hR
          have hlt : m < n := by omega
          rw [if_pos (by omega)] at hR
          subst hR
          go_wp2_with fail
          go_ret2
          exact hF.out _ _ (mDrwN hbw _)
      · have hR := hal.out fun i _ _ => hg.out i (by omega)
        by_cases hlt : n < m
        · rw [if_pos (by omega)] at hR
          subst hR
          go_wp2_with fail
          go_ret2
          exact hF.out _ _ (mDrwN hbw _)
        · rw [if_neg (by omega)] at hR
          rw [if_neg (by omega)] at hR
          exact absurd hR hz.out
  · have hR0 : lcmp x y = 0 := by rw [show x = y from of_decide_eq_true heqd.out.symm]; exact lcmp_refl y
    clear hpq hal heq hbe
    generalize lcmp x y = R at *
    subst hR0
    go_wp2_with fail
    go_ret2
    exact hF.out _ _ hbw
end Go.Proofs.YtjnmkdahbcmfaaaGreat

/- the order of first.sorted, and slices.SortFunc with it. -/
namespace Go.Proofs.YtjnmkdahbcmfaaaGreat
open Go.ChangeShapes Go.WideShapes Go.ChangeAt Go.RowKit Go.Sort Go.Shelf
set_option linter.unusedVariables false
theorem cmp292 (x y : Lk) (w : World) (hx : x.right 8) (hy : y.right 8) : Calls Tryz.prog 292 #[x.v, y.v] w fun e w' => e = .returned (.int .i64 (lcmp x y)) ∧ Grew w w' := by
  have hO := Lib.hid (fun w => cmp_m x y w hx hy)
  have hG := Lib.hid (fun (w' : World) (h : BelowM w.heap.size w w') => h.grew)
  clear hx hy
  unfold Lk.v at *
  go_enter Tryz.func292, Tryz.ntmps292
  go_wp2_with (go_at_call 245; refine (hO.out _).mono ?_; rintro e w2 ⟨rfl, hb2⟩)
  go_ret
  exact ⟨rfl, hG.out _ (mStep (mAlc (mAlc (BelowM.refl _ _) _) _) hb2)⟩
theorem sortfunc2_any (l : List Lk) (v : Value) (base : Nat) (w : World) (hr : ∀ x ∈ l, x.right 8) (hn : l.Nodup) (hlen : l.length ≤ 1000000) (ho : OwnL w base v l) :
    Calls Tryz.prog 291 #[v, .func (.func 292) #[] #[]] w fun e w' => e = .returned (.tuple #[]) ∧ OwnL w' base v (lset l) ∧ w.grownBy w' v.ownBlock ∧ (lset l).length = l.length := by
  have hll : (lset l).length = l.length := by
    rw [← sorted_is_lset l hr hn, List.length_map, List.length_mergeSort]
    have := congrArg List.length (mkR_map l hr)
    simpa using this
  rcases ho.2 with ⟨rfl, h0⟩ | ⟨g, cap, cur, rfl, hbase, hb, h1, h2, h3, h4⟩
  · have hl0 : l = [] := List.eq_nil_of_length_eq_zero h0
    subst hl0
    refine (AnyF.slices_SortFunc_none Tryz.sortL none 0 (.func (.func 292) #[] #[]) w).mono ?_
    rintro e w' ⟨rfl, rfl⟩
    exact ⟨rfl, ho, ⟨rfl, rfl, rfl, Nat.le_refl _, fun _ _ _ => rfl⟩, hll⟩
  · have hg : g < w.heap.size := (Array.getElem?_eq_some_iff.1 hb).1
    have hH : HoldsK encR 5 w g 0 (mkR l hr).toArray := by
      unfold HoldsK
      rw [flatR, mkR_map]
      exact holds_ownL (cap := cap) (base := base) hb h4
    have hms : (mkR l hr).length = l.length := by simpa using congrArg List.length (mkR_map l hr)
    have hcmp : CmpLays Tryz.prog 292 #[] encR 5 cfR g 0 (mkR l hr).toArray.size w := fun m os dk _ x y => cmp292 x.x y.x _ x.h y.h
    have eg : ∀ args w, (callFunc 292 args).run Tryz.prog w = .ok (.enter 292 args) w := enters_of Tryz.func292 (by kernel_rfl) rfl
    have hcon := AnyQ.slices_SortFunc_total Tryz.sortL 5 aggR sizeR encR encR_len encR_one cfR swoR 292 #[] g 0 cap (mkR l hr).toArray w eg hcmp hH hg (by simp [hms]; omega) totR
    have hs : (mkR l hr).toArray.size = l.length := by simp [hms]
    rw [hs] at hcon
    refine Calls.mono hcon ?_
    rintro e w' ⟨rfl, n, os, rfl⟩
    have e1 : (mkR l hr).toArray.toList = mkR l hr := rfl
    have e2 : flatK encR 5 ((mkR l hr).mergeSort fun x y => !(ltOf cfR) y x).toArray = (cellsL (lset l)).toArray := by rw [flatR, sorted_is_lset l hr hn]
    unfold sortWorldK putRowK
    rw [e1, e2]
    have hlc : (cellsL (lset l)).length = l.length * 5 := by rw [cellsL_len, hll]
    refine ⟨rfl, ⟨by rw [hll]; exact hlc, .inr ⟨g, cap, putCells id 0 (cellsL (lset l)).toArray cur, by rw [hll], hbase, ?_, by omega, h2, by simp [putCells, h3], ?_⟩⟩, ⟨rfl, rfl, rfl, by simp, fun k hk hne => ?_⟩, hll⟩
    · rw [heap_grow_old _ _ (by simpa using hg)]
      simp [putRow, mapBlock, Sort.ahead, Array.getElem?_modify, hb, onCells]
    · rw [hll]
      apply List.ext_getElem?
      intro j
      by_cases hj : j < l.length * 5
      · have hjc : j < cur.size := by rw [h3]; have := Nat.mul_le_mul_right 5 h1; omega
        rw [List.getElem?_take_of_lt hj, Array.getElem?_toList]
        simp [putCells, hlc, hj, hjc]
      · rw [List.getElem?_take_eq_none (by omega), List.getElem?_eq_none (by omega)]
    · rw [heap_grow_old _ _ (by simpa using hk)]
      have : g ≠ k := fun e => hne (by rw [← e]; rfl)
      simp [putRow, mapBlock, Sort.ahead, Array.getElem?_modify, this]
end Go.Proofs.YtjnmkdahbcmfaaaGreat

/- maps.Keys over the looks of a map, as an iterator. -/
namespace Go.Proofs.YtjnmkdahbcmfaaaGreat
open Go.RowKit Go.Shelf
set_option linter.unusedVariables false
attribute [local go_sem] Oper.semAt_some
theorem IterL.of_walks {w w' : World} {b r : Nat} {s out : List Lk} (h : IterL w b r s out) (hk : KeepsWalks w w') : IterL w' b r s out := by
  obtain ⟨es, clock, since, seen, c0, h1, h2, h3, h4⟩ := h
  exact ⟨es, clock, since, seen, c0, hk.same b _ h1 rfl, h2, hk.same r _ h3 rfl, h4⟩
section
variable {F : Fence} {n : Nat} (w : World) {ops : Array Oper} {rest : List Oper} {o : Oper} {a : Act} {Q : Exit → Act → World → Prop}
theorem wpListIn_range_look {t : TypeId} (ht : Tryz.prog.underlying t = some (.map 45 4)) (hg : o.guard = none) (m : Operand) (hop : o.op = Op.range t m) (b : Nat) (s : List Lk) (hm : a.eval m = .map (some b)) (h : MapL w b s)
    (hK : ∀ w', IterL w' b w.heap.size s [] → Below w.heap.size w w' → wpListIn F n Tryz.prog ops Q rest (a.put o.dst (.pointer (some ⟨w.heap.size, 0, none⟩))) w') : wpListIn F n Tryz.prog ops Q (o :: rest) a w := by
  refine wpListIn_plain hg fun K' hK' => ?_
  obtain ⟨w', hrun, r1, r2⟩ := mapl_range ht h
  unfold Oper.wpIn
  refine ⟨by simp [Oper.about, hop], ?_⟩
  rw [Oper.semAt_plain F _ _ (by rw [hop]; intro c hc'; cases hc')]
  simp [execOp, hop, hm, hrun, Result.andThen]
  exact hK' _ _ (hK w' r1 r2)
theorem wpListIn_next_look (hg : o.guard = none) (it : Operand) (hop : o.op = Op.next it false) (b r : Nat) (s out : List Lk) (hit : a.eval it = .pointer (some ⟨r, 0, none⟩)) (h : IterL w b r s out)
    (hDone : (∀ x ∈ s, x ∈ out) → wpListIn F n Tryz.prog ops Q rest (a.put o.dst (.tuple #[.bool false])) w)
    (hMore : ∀ (x : Lk) (w' : World), x ∈ s → x ∉ out → IterL w' b r s (out ++ [x]) → (Instr.entry (.pointer (some ⟨r, 0, none⟩))).run Tryz.prog w' = .ok (.tuple #[x.v, .bool true]) w' → w.grownBy w' (some r) → w'.heap.size = w.heap.size →
      wpListIn F n Tryz.prog ops Q rest (a.put o.dst (.tuple #[.bool true, x.v, .bool true])) w') : wpListIn F n Tryz.prog ops Q (o :: rest) a w := by
  refine wpListIn_plain hg fun K' hK' => ?_
  unfold Oper.wpIn
  refine ⟨by simp [Oper.about, hop], ?_⟩
  rw [Oper.semAt_plain F _ _ (by rw [hop]; intro c hc'; cases hc')]
  rcases iterl_next h o.type with ⟨h0, hrun⟩ | ⟨x, hx, hxo, w', hrun, r1, r2, r3, r4⟩
  · simp [execOp, hop, hit, hrun, Result.andThen]
    exact hK' _ _ (hDone h0)
  · simp [execOp, hop, hit, hrun, Result.andThen]
    exact hK' _ _ (hMore x w' hx hxo r1 r2 r3 r4)
end
def encL (x : Lk) : Array Value := #[x.v]
theorem IterL.walk {w : World} {b r : Nat} {s out : List Lk} (h : IterL w b r s out) : ∃ o : Obj, w.heap[r]? = some o ∧ o.isWalk = true := by
  obtain ⟨es, clock, since, seen, c0, h1, h2, h3, h4⟩ := h
  exact ⟨_, h3, rfl⟩
def KeyS (s : List Lk) (out : List Lk) : Prop := out.Nodup ∧ (∀ x ∈ out, x ∈ s) ∧ ∀ x ∈ s, x ∈ out
def KeyP (s : List Lk) (out : List Lk) : Prop := out.Nodup ∧ ∀ x ∈ out, x ∈ s
theorem underL : Tryz.prog.underlying 279 = some (.map 45 4) := by kernel_rfl
end Go.Proofs.YtjnmkdahbcmfaaaGreat

/- maps.Keys over the looks of a map, as an iterator: its contract. -/
namespace Go.Proofs.YtjnmkdahbcmfaaaGreat
open Go.RowKit Go.Shelf
set_option linter.unusedVariables false
attribute [local go_sem] Oper.semAt_some
set_option maxRecDepth 100000 in
set_option maxHeartbeats 2000000 in
theorem keys_stops (n : Nat) (hn : 1 ≤ n) (Bm b : Nat) (s : List Lk) (w : World) (hBm : w.cell? ⟨Bm, 0, none⟩ = some (.map (some b))) (hm : MapL w b s) :
    SeqStopsK Fence.wide n Tryz.prog 309 #[.pointer (some ⟨Bm, 0, none⟩)] encL KeepsWalks (KeyS s) (KeyP s) s.length w := by
  intro l J Jx W hW hJ _ hY h0
  have hc := (hW.cell (p := ⟨Bm, 0, none⟩) (block_lt_of_cell hBm)).trans hBm
  have hmW : MapL W b s := by
    obtain ⟨es, clock, h1, h2⟩ := hm
    exact ⟨es, clock, (hW.block b (Array.getElem?_eq_some_iff.1 h1).1).trans h1, h2⟩
  refine callsIn_of_wp Tryz.func309 rfl trivial ?_ rfl
  simp only [Tryz.ntmps309, List.size_toArray, List.length_cons, List.length_nil, Nat.reduceAdd, Nat.reduceSub, Array.replicate_succ, Array.replicate_zero, List.push_toArray, List.append_toArray, List.nil_append, List.cons_append]
  replace hJ := Lib.hid hJ
  replace hY := Lib.hid hY
  replace hmW := Lib.hid hmW
  clear hm hBm hW
  gi_wp2_with (first
    | (gi_at_range; refine wpListIn_range_look _ underL rfl _ rfl b s rfl hmW.out ?_; intro w0 hit hb0; replace hit := Lib.hid hit; replace hb0 := Lib.hid hb0)
    | gi_in)
  go_frame
  have hz0 := hb0.out.size
  have hJ0 : J [] w0 := hJ.out [] W w0 none h0 (grown_of_below hb0.out) (by simp)
  gi_loopg [3] s.length (fun gk _ wr => ∃ out : List Lk, out.length + gk = s.length ∧ IterL wr b W.heap.size s out ∧ J out wr)
  case atStart => exact ⟨[], by simp, hit.out, hJ0⟩
  case round =>
    obtain ⟨out, hlo, hit, hJs⟩ := hrel
    replace hlo := Lib.hid hlo
    replace hit := Lib.hid hit
    gi_wp2_with (first
      | (gi_at_next; refine wpListIn_next_look _ rfl _ rfl b W.heap.size s out rfl hit.out ?_ ?_)
      | gi_in)
    · intro hall
      gi_wp2
      go_end0
      exact ⟨⟨_, rfl⟩, .inl ⟨out, ⟨hit.out.parts.1, hit.out.parts.2.1, hall⟩, hJs⟩⟩
    · intro x w2 hxs hxo hit2 hen hg2 hs2
      have hlen2 := nodup_len hit2.parts.1 hit2.parts.2.1
      rw [List.length_append, List.length_singleton] at hlen2
      have hJ2 : J out w2 := hJ.out out wr w2 (some W.heap.size) hJs hg2 (fun r e => by cases e; exact ⟨Nat.le_refl _, hit.out.walk⟩)
      have hJ3 : J out (lay5 w2 x) := hJ.out out w2 _ none hJ2 (grown_of_below (lay5_below w2 x)) (by simp)
      have hit3 := hit2.grown (grown_of_below (lay5_below w2 x)) (by simp) (by simp)
      obtain ⟨fn, tmps, assign, body, hy, hR⟩ := hY.out out x _ hJ3 (by omega)
      unfold encL Lk.v at hy
      unfold lay5 at hy hR hit3
      unfold Lk.v at hen
      replace hR := Lib.hid hR
      replace hit3 := Lib.hid hit3
      replace hit2 := Lib.hid hit2
      have hlo2 := Lib.hid (show (out ++ [x]).length + (s.length - (out.length + 1)) = s.length by rw [List.length_append, List.length_singleton]; omega)
      clear hs2 hg2 hJ2 hJ3 hlen2
      gi_wp2
      refine hR.out.mono ?_
      rintro e W3 (⟨rfl, hJ3, hk3⟩ | ⟨rfl, hJx3⟩)
      · gi_wp2
        go_roundg (s.length - (out.length + 1))
        case measure => have := hlo.out; have := hlo2.out; rw [List.length_append, List.length_singleton] at this; omega
        case rel => exact ⟨out ++ [x], hlo2.out, hit3.out.of_walks hk3, hJ3⟩
      · gi_wp2
        refine bodyPost_ret (results_none rfl _ _ _) rfl ?_
        exact ⟨⟨_, rfl⟩, .inr ⟨out ++ [x], ⟨hit2.out.parts.1, hit2.out.parts.2.1⟩, hJx3⟩⟩
end Go.Proofs.YtjnmkdahbcmfaaaGreat

/- slices.AppendSeq(nil, maps.Keys(m)) over looks. -/
namespace Go.Proofs.YtjnmkdahbcmfaaaGreat
open Go.RowKit Go.Shelf
set_option linter.unusedVariables false
attribute [local go_sem] Oper.semAt_some
section
variable {F : Fence} {n : Nat} (w : World) {ops : Array Oper} {rest : List Oper} {o : Oper} {a : Act} {Q : Exit → Act → World → Prop}
theorem wpListIn_pushL (hgd : o.guard = none) (s x : Operand) (ho : o.op = .call { callee := .builtin .append, args := #[s, x], argTypes := #[147, 147] })
    (base : Nat) (v : Value) (l : List Lk) (hs : a.eval s = v) (hown : OwnL w base v l) (g : Nat) (k : Lk) (hx : a.eval x = .slice (some ⟨g, 0, none⟩) 1 1) (hb : Blk w g 45 k.cells) (h63 : l.length < 1000000) (hbase : base ≤ w.heap.size)
    (h : ∀ v' w', OwnL w' base v' (l ++ [k]) → w.grownBy w' v.ownBlock → wpListIn F n Tryz.prog ops Q rest (a.put o.dst v') w') : wpListIn F n Tryz.prog ops Q (o :: rest) a w := by
  obtain ⟨i0, hi0, hz0, hz1, hz2⟩ := info_parts info42
  have ht : Tryz.prog.underlying 147 = some (.slice 45) := by kernel_rfl
  refine wpListIn_append_own w hgd s x 147 ho base 45 i0 _ 5 40 ht hi0 hz0 hz1 hz2 rfl (by omega) v l.length (cellsL l) hs hown ⟨g, 0, none⟩ 1 1 k.cells.toList hx (by simp [Lk.cells]) (fun j u hu => ?_) (by simp [Lk.cells, Value.oneCell']) (by simp [maxLen]; omega) (by omega) hbase ?_
  · have := hb.cell j
    rw [show (⟨g, 0, none⟩ : Addr).add j = ⟨g, j, none⟩ by unfold Addr.add; split <;> simp_all, this, ← Array.getElem?_toList]; exact hu
  · intro v' w' h2 h3 h4
    refine h v' w' ?_ h3
    unfold OwnL
    rw [cellsL_append, List.length_append]
    have : cellsL [k] = k.cells.toList := by simp [cellsL]
    rw [this]
    exact h2
end
end Go.Proofs.YtjnmkdahbcmfaaaGreat
